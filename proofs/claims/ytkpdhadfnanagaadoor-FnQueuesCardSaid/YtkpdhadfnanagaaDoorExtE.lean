/- ExtE: equations of the functions of this seat as the executor tells them, or plain facts about them. Conditions: none here. -/
import Derived.Test.YtkpdhadfnanagaaDoorEqA
import Derived.Test.YtkpdhadfnanagaaDoorShelfE
import Derived.Lib.LaidTab
set_option linter.all false
namespace Go.Den
open Go Go.Proofs Go.RowKit
/-- A call that gives back numbers and texts, and writes no old block. -/
theorem post_flat {P : Program} {s : Sig} {ts : List TypeId} {w w' : World} {fz φ : Nat → Prop} {vals : List Value} {r : s.RetD} {vs : List Value} (hlt : ∀ b, fz b → b < w.heap.size)
    (hr : ResO P w' fz s.res ts vs r.1 fun _ => False) (ho : OutsO w' fz s.pars vals r.2 fun _ => False) (hB : Below w.heap.size w w') : Post P s ts w fz φ vals r (packed vs) w' :=
  ⟨⟨vs, fz, fun _ => False, fun _ => False, fun _ => False, rfl, hr, ho, ⟨fun _ h => h.elim, fun b => ⟨False.elim, fun h => h.elim id id⟩⟩, fun _ h => h.elim, fun _ h => h, fun _ h => .inl h, fun _ h => h.elim, fun b hb => Nat.lt_of_lt_of_le (hlt b hb) hB.size, fun _ h => h.elim⟩, fun b hb _ => hB.block b hb, hB.size, hB.os, hB.tape, hB.output⟩
/-- A new block of texts. -/
theorem ow_texts {w : World} {fz : Nat → Prop} {e : TypeId} (xs : List ByteArray) : Ow (w.alloc (.cells (xs.map Value.string).toArray e)) fz (.sl .str) [.slice (some ⟨w.heap.size, 0, none⟩) xs.length xs.length] xs (fun b => b = w.heap.size) := by
  have hb : (w.alloc (.cells (xs.map Value.string).toArray e)).heap[w.heap.size]? = some (.cells (xs.map Value.string).toArray e (0, 0)) := by
    show (w.heap.push _)[w.heap.size]? = _
    simp
  refine ⟨_, xs.length, rfl, .inr ⟨w.heap.size, 0, (xs.map Value.string).toArray, e, (0, 0), fun _ _ => False, rfl, hb, MutR.zero _ _, ?_, Nat.le_refl _, fun i hi => ?_, fun _ _ h => h, fun _ _ _ _ _ _ h => h.elim, fun b => ⟨fun h => .inl h, fun h => h.elim id fun ⟨_, _, h⟩ => h.elim⟩⟩⟩
  · show 0 + xs.length * 1 ≤ _
    simp
  · refine ⟨[.string (nth .str xs i)], rfl, ⟨_, e, (0, 0), hb, ?_, fun j hj => ?_⟩, rfl, fun _ h => h⟩
    · have hi : i < xs.length := hi
      show 0 + i * 1 + 1 ≤ (xs.map Value.string).toArray.size
      simp; omega
    · have : j = 0 := by simpa using hj
      subst this
      show (xs.map Value.string).toArray[0 + i * 1 + 0]? = some (Value.string (nth .str xs i))
      have hi : i < xs.length := hi
      simp only [Nat.zero_add, Nat.mul_one, Nat.add_zero, List.getElem?_toArray, List.getElem?_map, List.getElem?_eq_getElem hi, Option.map_some]
      show some (Value.string xs[i]) = some (Value.string (xs.getD i ByteArray.empty))
      rw [List.getD_eq_getElem?_getD, List.getElem?_eq_getElem hi]; rfl
end Go.Den
namespace Go.Den.S
open Go Go.Den Go.Proofs Go.RowKit
theorem str_arg {P : Program} {w : World} {fz : Nat → Prop} {v : Value} {s : ByteArray} {φ : Nat → Prop} (h : ArgO w fz false (.val .str) v s φ) : v = .string s := by
  have h4 := h.1.1
  simp only [Bool.false_eq_true, if_false] at h4
  have h5 : v.cells.toList = [.string s] := h.2.1
  rw [cells_one h4] at h5
  simpa using h5
theorem str_res {w : World} {fz : Nat → Prop} {s : ByteArray} : ResO1 w fz false (.own .str) (.string s) s fun _ => False :=
  ⟨⟨rfl, fun c hc => by
    have hc : c ∈ [Value.string s] := hc
    simp only [List.mem_singleton] at hc
    subst hc; rfl⟩, rfl, fun _ h => h⟩

theorem bool_res {w : World} {fz : Nat → Prop} {b : Bool} : ResO1 w fz false (.own .bool) (.bool b) b fun _ => False :=
  ⟨⟨rfl, fun c hc => by
    have hc : c ∈ [Value.bool b] := hc
    simp only [List.mem_singleton] at hc
    subst hc; rfl⟩, rfl, fun _ h => h⟩
theorem nil_two : Two (fun _ => False) (fun _ => False) (fun _ => False) := ⟨fun _ h => h.elim, fun _ => ⟨False.elim, fun h => h.elim id id⟩⟩
/-- A call that gives back a new block of texts. -/
theorem post_texts {f : Nat} {w w' : World} {fz φ : Nat → Prop} {ps : List Par} {vals : List Value} {outs} {ts : List TypeId} (e : TypeId) (xs : List ByteArray) (rt : TypeId) (hts : ts = [rt]) (hag : aggB Tryd.prog rt = false) (hlt : ∀ b, fz b → b < w.heap.size) (hφ : ∀ b, ¬ φ b) (ho : OutsO w' fz ps vals outs fun _ => False)
    (hw : w' = w.alloc (.cells (xs.map Value.string).toArray e)) : Post Tryd.prog ⟨f, ps, [.own (.sl .str)]⟩ ts w fz φ vals (xs, outs) (packed [.slice (some ⟨w.heap.size, 0, none⟩) xs.length xs.length]) w' := by
  subst hw
  have how := ow_texts (w := w) (fz := fz) (e := e) xs
  refine ⟨⟨[_], fz, fun b => b = w.heap.size, fun _ => False, fun b => b = w.heap.size, rfl, ⟨rt, _, hts, rfl, ⟨?_, fun c hc => ?_⟩, how⟩, ho, ⟨fun _ _ h => h, fun b => ⟨fun h => .inl h, fun h => h.elim id False.elim⟩⟩, fun b hb => .inr (by omega), fun b hb => hb, fun b hb => .inl hb, fun b hb hf => ?_, fun b hb => ?_, fun b hb => ?_⟩, fun b hb _ => ?_, ?_, rfl, rfl, rfl⟩
  · rw [hag]; rfl
  · have hc : c ∈ [Value.slice (some ⟨w.heap.size, 0, none⟩) xs.length xs.length] := hc
    simp only [List.mem_singleton] at hc
    subst hc; rfl
  · have := hlt b hf; omega
  · have := hlt b hb
    show b < (w.heap.push _).size
    simp; omega
  · show b < (w.heap.push _).size
    simp; omega
  · exact push_old hb
  · show _ ≤ (w.heap.push _).size
    simp
set_option maxRecDepth 100000 in
theorem fields_ok (gl : Nat → Obj → Prop) (hgl : ∀ w : World, (∀ b o, gl b o → w.heap[b]? = some o) → Lib.TabIs Tryd.prog w "strings.asciiSpace" .u8 Lib.asciiSpaceTab) : ∀ (x : ByteArray × Unit) (r : List ByteArray × Unit), strings_FieldsF x = some r → CallOkS Tryd.prog gl ⟨114, [.val .str], [.own (.sl .str)]⟩ x r := by
  intro ⟨s, u⟩ r h fn w fz φ vals hfn hargs hφ hlt hg
  have hfe : fn = Tryd.f114 := Option.some.inj (hfn.symm.trans Tryd.func114)
  subst hfe
  obtain ⟨v1, r1, φ1, φ2, rfl, h1, ⟨rfl, hn2⟩, htwo⟩ := hargs
  have hn1 := h1.2.2
  obtain rfl := str_arg (P := Tryd.prog) h1
  unfold strings_FieldsF at h
  cases hb : (s.data.toList.all (fun b => decide (b.toNat < 128)) && decide (s.size < 4294967281)) with
  | false => rw [hb] at h; cases h
  | true =>
    rw [hb] at h
    simp only [Bool.and_eq_true, decide_eq_true_eq] at hb
    obtain rfl : ((Lib.fields s.data.toList).map (fun l => (⟨l.toArray⟩ : ByteArray)), ()) = r := Option.some.inj h
    have hascii : ∀ (j : Nat) b, s.data.toList[j]? = some b → b.toNat < 128 := fun j b hj => by
      have := List.all_eq_true.1 hb.1 b (List.mem_of_getElem? hj)
      simpa using this
    refine .inr ⟨callFunc_body (c := _) Tryd.func114 (by rfl) (by kernel_rfl), (Tryd.strings_Fields s w hb.2 hascii (hgl w fun b o hbo => (hg b o hbo).1)).mono fun e w' ⟨he, hw⟩ => ⟨_, he, ?_⟩⟩
    have hxs : ((Lib.fields s.data.toList).map fun l => Value.string ⟨l.toArray⟩) = ((Lib.fields s.data.toList).map fun l => (⟨l.toArray⟩ : ByteArray)).map Value.string := by simp [Function.comp_def]
    rw [hxs] at hw
    have := post_texts (f := 114) (w := w) (fz := fz) (φ := φ) (ps := [.val .str]) (vals := [.string s]) (outs := ()) 9 ((Lib.fields s.data.toList).map fun l => (⟨l.toArray⟩ : ByteArray)) 36 (by kernel_rfl : Tryd.f114.resultTypes.toList = [36]) (by kernel_rfl) hlt (fun b hb => ((htwo.2 b).1 hb).elim (hn1 b) (hn2 b)) (fun _ h => h) hw
    rw [List.length_map] at this
    exact this
set_option maxRecDepth 100000 in
theorem split_ok (gl : Nat → Obj → Prop) (m : Int) (hgl : ∀ w : World, (∀ b o, gl b o → w.heap[b]? = some o) → w.cell? ⟨2, 0, none⟩ = some (.int .i64 m)) : ∀ (x : ByteArray × ByteArray × Unit) (r : List ByteArray × Unit), strings_SplitF x = some r → CallOkS Tryd.prog gl ⟨116, [.val .str, .val .str], [.own (.sl .str)]⟩ x r := by
  intro ⟨s, t, u⟩ r h fn w fz φ vals hfn hargs hφ hlt hg
  have hfe : fn = Tryd.f116 := Option.some.inj (hfn.symm.trans Tryd.func116)
  subst hfe
  obtain ⟨v1, r1, φ1, φ2, rfl, h1, ⟨v2, r2, φ3, φ4, rfl, h2, ⟨rfl, hn4⟩, htwo2⟩, htwo⟩ := hargs
  have hn1 := h1.2.2
  have hn3 := h2.2.2
  obtain rfl := str_arg (P := Tryd.prog) h1
  obtain rfl := str_arg (P := Tryd.prog) h2
  unfold strings_SplitF at h
  cases hb : (decide (s.size < 4294967281) && decide (1 ≤ t.size)) with
  | false => rw [hb] at h; cases h
  | true =>
    rw [hb] at h
    simp only [Bool.and_eq_true, decide_eq_true_eq] at hb
    obtain rfl := Option.some.inj h
    refine .inr ⟨callFunc_body (c := _) Tryd.func116 (by rfl) (by kernel_rfl), (Tryd.strings_Split s t m w hb.1 (hgl w fun b o hbo => (hg b o hbo).1) hb.2).mono fun e w' ⟨he, hw⟩ => ⟨_, he, ?_⟩⟩
    have := post_texts (f := 116) (w := w) (fz := fz) (φ := φ) (ps := [.val .str, .val .str]) (vals := [.string s, .string t]) (outs := ()) 9 (Lib.splitB t 0 (Lib.countB s t) s) 36 (by kernel_rfl : Tryd.f116.resultTypes.toList = [36]) (by kernel_rfl) hlt (fun b hb => ((htwo.2 b).1 hb).elim (hn1 b) fun hb => ((htwo2.2 b).1 hb).elim (hn3 b) (hn4 b)) (fun _ h => h) hw
    rw [Lib.splitB_all t hb.2 0 _ s rfl] at this
    exact this
set_option maxRecDepth 100000 in
theorem trim_ok (gl : Nat → Obj → Prop) : ∀ (x : ByteArray × ByteArray × Unit) (r : ByteArray × Unit), strings_TrimSuffixF x = some r → CallOkS Tryd.prog gl ⟨117, [.val .str, .val .str], [.own .str]⟩ x r := by
  intro ⟨s, t, u⟩ r h fn w fz φ vals hfn hargs hφ hlt hg
  have hfe : fn = Tryd.f117 := Option.some.inj (hfn.symm.trans Tryd.func117)
  subst hfe
  obtain ⟨v1, r1, φ1, φ2, rfl, h1, ⟨v2, r2, φ3, φ4, rfl, h2, ⟨rfl, hn4⟩, htwo2⟩, htwo⟩ := hargs
  obtain rfl := str_arg (P := Tryd.prog) h1
  obtain rfl := str_arg (P := Tryd.prog) h2
  unfold strings_TrimSuffixF at h
  cases hb : (decide (s.size ≤ 9223372036854775807)) with
  | false => rw [hb] at h; cases h
  | true =>
    rw [hb] at h
    obtain rfl := Option.some.inj h
    refine .inr ⟨callFunc_body (c := _) Tryd.func117 (by rfl) (by kernel_rfl), (Tryd.strings_TrimSuffix s t w (of_decide_eq_true hb)).mono fun e w' ⟨he, hw⟩ => ⟨_, he, ?_⟩⟩
    subst hw
    exact post_flat (vs := [_]) hlt ⟨9, _, by kernel_rfl, rfl, str_res⟩ (fun _ h => h) ⟨rfl, rfl, rfl, Nat.le_refl _, fun _ _ => rfl⟩
set_option maxRecDepth 100000 in
theorem cut_ok (gl : Nat → Obj → Prop) (m : Int) (hgl : ∀ w : World, (∀ b o, gl b o → w.heap[b]? = some o) → w.cell? ⟨2, 0, none⟩ = some (.int .i64 m)) : ∀ (x : ByteArray × ByteArray × Unit) (r : (ByteArray × ByteArray × Bool) × Unit), strings_CutF x = some r → CallOkS Tryd.prog gl ⟨115, [.val .str, .val .str], [.own .str, .own .str, .own .bool]⟩ x r := by
  intro ⟨s, t, u⟩ r h fn w fz φ vals hfn hargs hφ hlt hg
  have hfe : fn = Tryd.f115 := Option.some.inj (hfn.symm.trans Tryd.func115)
  subst hfe
  obtain ⟨v1, r1, φ1, φ2, rfl, h1, ⟨v2, r2, φ3, φ4, rfl, h2, ⟨rfl, hn4⟩, htwo2⟩, htwo⟩ := hargs
  obtain rfl := str_arg (P := Tryd.prog) h1
  obtain rfl := str_arg (P := Tryd.prog) h2
  unfold strings_CutF at h
  cases hb : (decide (s.size < 4294967281)) with
  | false => rw [hb] at h; cases h
  | true =>
    rw [hb] at h
    obtain rfl := Option.some.inj h
    refine .inr ⟨callFunc_body (c := _) Tryd.func115 (by rfl) (by kernel_rfl), (Tryd.strings_Cut s t m w (of_decide_eq_true hb) (hgl w fun b o hbo => (hg b o hbo).1)).mono fun e w' ⟨he, n, hw⟩ => ⟨_, he, ?_⟩⟩
    subst hw
    have hts : Tryd.f115.resultTypes.toList = [9, 9, 4] := by kernel_rfl
    rw [hts]
    exact post_flat (vs := [_, _, _]) hlt ⟨9, [9, 4], _, _, fun _ => False, fun _ => False, rfl, rfl, str_res, ⟨9, [4], _, _, fun _ => False, fun _ => False, rfl, rfl, str_res, ⟨4, _, rfl, rfl, bool_res⟩, nil_two⟩, nil_two⟩ (fun _ h => h) ⟨rfl, rfl, rfl, Nat.le_refl _, fun _ _ => rfl⟩
end Go.Den.S
