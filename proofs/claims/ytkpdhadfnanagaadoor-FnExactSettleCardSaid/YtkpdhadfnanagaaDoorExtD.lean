/- ExtD: equations of the functions of this seat as the executor tells them, or plain facts about them. Conditions: none here. -/
import Derived.Test.YtkpdhadfnanagaaDoorEqD
import Derived.Test.YtkpdhadfnanagaaDoorShelfG
import Derived.Lib.LaidTab
set_option linter.all false
set_option linter.unusedSimpArgs false
set_option linter.unusedVariables false
namespace Go.Den
open Go
/-- A new block of texts. -/
theorem ow_texts {w : World} {e : TypeId} (xs : List ByteArray) : Ow (w.alloc (.cells (xs.map Value.string).toArray e)) (.sl .str) [.slice (some ⟨w.heap.size, 0, none⟩) xs.length xs.length] xs (fun b => b = w.heap.size) := by
  have hb : (w.alloc (.cells (xs.map Value.string).toArray e)).heap[w.heap.size]? = some (.cells (xs.map Value.string).toArray e (0, 0)) := by
    show (w.heap.push _)[w.heap.size]? = _
    simp
  refine ⟨_, xs.length, rfl, .inr ⟨w.heap.size, 0, (xs.map Value.string).toArray, e, (0, 0), fun _ _ => False, rfl, hb, fun j _ h => ?_, ?_, Nat.le_refl _, fun i hi => ?_, fun _ _ h => h, fun _ _ _ _ _ _ h => h.elim, fun b => ⟨fun h => .inl h, fun h => h.elim id fun ⟨_, _, h⟩ => h.elim⟩⟩⟩
  · exact absurd h.2 (Nat.not_lt_zero _)
  · show 0 + xs.length * 1 ≤ _
    simp
  · refine ⟨[.string (nth .str xs i)], rfl, ⟨_, e, (0, 0), hb, ?_, fun j hj => ?_⟩, rfl, fun _ h => h⟩
    · have hi : i < xs.length := hi
      show 0 + i * 1 + 1 ≤ (xs.map Value.string).toArray.size
      simp; omega
    · have : j = 0 := by simpa using hj
      subst this
      show (xs.map Value.string).toArray[0 + i * 1 + 0]? = some (Value.string (nth .str xs i))
      have hi : i < xs.length := hi
      simp only [Nat.zero_add, Nat.mul_one, Nat.add_zero, List.getElem?_toArray, List.getElem?_map, List.getElem?_eq_getElem hi, Option.map_some]
      show some (Value.string xs[i]) = some (Value.string (xs.getD i ByteArray.empty))
      rw [List.getD_eq_getElem?_getD, List.getElem?_eq_getElem hi]; rfl
end Go.Den
namespace Go.Den.S
open Go Go.Den Go.Proofs
set_option maxRecDepth 100000 in
theorem fields_ok (gl : Nat → Obj → Prop) (hgl : ∀ w : World, (∀ b o, gl b o → w.heap[b]? = some o) → Lib.TabIs Tryd.prog w "strings.asciiSpace" .u8 Lib.asciiSpaceTab) : ∀ (x : ByteArray × Unit) (r : List ByteArray × Unit), strings_FieldsF x = some r → CallOkS Tryd.prog gl ⟨114, [.val .str], [.own (.sl .str)]⟩ x r := by
  intro ⟨s, u⟩ r h fn w fz φ vals hfn hargs hφ hlt hg
  have hfe : fn = Tryd.f114 := Option.some.inj (hfn.symm.trans Tryd.func114)
  subst hfe
  obtain ⟨v, rest, φ1, φ2, rfl, ⟨hsh, hrd, hn⟩, ⟨rfl, hn2⟩, htwo⟩ := hargs
  have hv : v = .string s := by
    have hag : headAgg Tryd.prog Tryd.f114.params.toList = false := by kernel_rfl
    have h4 := hsh.1
    rw [hag] at h4
    simp only [Bool.false_eq_true, if_false] at h4
    have h5 : v.cells.toList = [.string s] := hrd
    rw [cells_one h4] at h5
    simpa using h5
  subst hv
  unfold strings_FieldsF at h
  cases hb : (s.data.toList.all (fun b => decide (b.toNat < 128)) && decide (s.size < 4294967281)) with
  | false => rw [hb] at h; cases h
  | true =>
    rw [hb] at h
    simp only [Bool.and_eq_true, decide_eq_true_eq] at hb
    obtain rfl : ((Lib.fields s.data.toList).map (fun l => (⟨l.toArray⟩ : ByteArray)), ()) = r := Option.some.inj h
    have hascii : ∀ (j : Nat) b, s.data.toList[j]? = some b → b.toNat < 128 := fun j b hj => by
      have := List.all_eq_true.1 hb.1 b (List.mem_of_getElem? hj)
      simpa using this
    refine .inr ⟨callFunc_body (c := _) Tryd.func114 (by rfl) (by kernel_rfl), (Tryd.strings_Fields s w hb.2 hascii (hgl w fun b o hbo => (hg b o hbo).1)).mono fun e w' ⟨he, hw⟩ => ⟨_, he, ?_⟩⟩
    subst hw
    have hφ0 : ∀ b, ¬ φ b := fun b hbφ => ((htwo.2 b).1 hbφ).elim (hn b) (hn2 b)
    let xs : List ByteArray := (Lib.fields s.data.toList).map fun l => ⟨l.toArray⟩
    have hxs : ((Lib.fields s.data.toList).map fun l => Value.string ⟨l.toArray⟩) = xs.map Value.string := by simp [xs, Function.comp_def]
    have hlen : (Lib.fields s.data.toList).length = xs.length := by simp [xs]
    rw [hxs, hlen]
    have hres : Tryd.f114.resultTypes.toList = [36] := by kernel_rfl
    have hag : aggB Tryd.prog 36 = false := by kernel_rfl
    have how := ow_texts (w := w) (e := 9) xs
    refine ⟨⟨[_], fz, fun b => b = w.heap.size, fun _ => False, fun b => b = w.heap.size, rfl, ⟨36, _, hres, rfl, ⟨?_, fun c hc => ?_⟩, how⟩, fun _ h => h, ⟨fun _ _ h => h, fun b => ⟨fun h => .inl h, fun h => h.elim id False.elim⟩⟩, fun b hb => .inr (by omega), fun b hb => hb, fun b hb => .inl hb, fun b hb hf => ?_, fun b hb => ?_, fun b hb => ?_⟩, fun b hb _ => ?_, ?_, rfl, rfl, rfl⟩
    · rw [hag]; rfl
    · have hc : c ∈ [Value.slice (some ⟨w.heap.size, 0, none⟩) xs.length xs.length] := hc
      simp only [List.mem_singleton] at hc
      subst hc; rfl
    · have := hlt b hf; omega
    · have := hlt b hb
      show b < (w.heap.push _).size
      simp; omega
    · show b < (w.heap.push _).size
      simp; omega
    · exact push_old hb
    · show _ ≤ (w.heap.push _).size
      simp
end Go.Den.S
