/- ExtE: equations of the functions of this seat as the executor tells them, or plain facts about them. Conditions: none here. -/
import Derived.Test.YthfdlonnbkffnaaGreatDoorEqA
import Derived.Test.YthfdlonnbkffnaaGreatDoorInsA
import Derived.Test.YthfdlonnbkffnaaGreatDoorInsB
import Derived.Test.YthfdlonnbkffnaaGreatDoorShelfE
import Derived.Lib.FieldsLaws
import Derived.Lib.LaidTab
set_option linter.all false
set_option linter.unusedSimpArgs false
set_option linter.unusedVariables false
namespace Go.Den
open Go Go.Proofs Go.RowKit
/-- A call that gives back numbers and texts, and writes no old block. -/
theorem post_flat {P : Program} {s : Sig} {ts : List TypeId} {w w' : World} {fz φ : Nat → Prop} {vals : List Value} {r : s.RetD} {vs : List Value} (hlt : ∀ b, fz b → b < w.heap.size)
    (hr : ResO P w' fz s.res ts vs r.1 fun _ => False) (ho : OutsO w' fz s.pars vals r.2 fun _ => False) (hB : Below w.heap.size w w') : Post P s ts w fz φ vals r (packed vs) w' :=
  ⟨⟨vs, fz, fun _ => False, fun _ => False, fun _ => False, rfl, hr, ho, ⟨fun _ h => h.elim, fun b => ⟨False.elim, fun h => h.elim id id⟩⟩, fun _ h => h.elim, fun _ h => h, fun _ h => .inl h, fun _ h => h.elim, fun b hb => Nat.lt_of_lt_of_le (hlt b hb) hB.size, fun _ h => h.elim⟩, fun b hb _ => hB.block b hb, hB.size, hB.os, hB.tape, hB.output⟩
theorem below_grow (w : World) (k : Nat) (os : Array Obj) : Below w.heap.size w (Sort.grow (w.drewN k) os) := ⟨rfl, rfl, rfl, by show _ ≤ (w.heap ++ os).size; simp, fun b hb => by
  show (w.heap ++ os)[b]? = _
  exact Array.getElem?_append_left hb⟩
theorem below_bytes (w : World) (e : TypeId) (t : ByteArray) : Below w.heap.size w (Lib.bytesWorld w e t) := by
  unfold Lib.bytesWorld World.freeze
  rw [if_neg (by omega)]
  refine ⟨rfl, rfl, rfl, ?_, fun b hb => ?_⟩
  · show _ ≤ (Array.modify (w.heap.push _) _ _).size
    simp
  · show (Array.modify (w.heap.push _) _ _)[b]? = _
    rw [Array.getElem?_modify, if_neg (by show ¬ w.heap.size = b; omega)]
    exact Array.getElem?_push_lt hb |>.trans (Array.getElem?_eq_getElem hb).symm
end Go.Den
namespace Go.Den.S
open Go Go.Den Go.Proofs Go.RowKit
theorem str_arg {P : Program} {w : World} {fz : Nat → Prop} {v : Value} {s : ByteArray} {φ : Nat → Prop} (h : ArgO w fz false (.val .str) v s φ) : v = .string s := by
  have h4 := h.1.1
  simp only [Bool.false_eq_true, if_false] at h4
  have h5 : v.cells.toList = [.string s] := h.2.1
  rw [cells_one h4] at h5
  simpa using h5
theorem int_arg {w : World} {fz : Nat → Prop} {v : Value} {k : IntKind} {n : Int} {φ : Nat → Prop} (h : ArgO w fz false (.val (.int k)) v n φ) : v = .int k n := by
  have h4 := h.1.1
  simp only [Bool.false_eq_true, if_false] at h4
  have h5 : v.cells.toList = [.int k n] := h.2.1
  rw [cells_one h4] at h5
  simpa using h5
theorem row_arg {w : World} {fz : Nat → Prop} {v : Value} {t : Ty} {xs : List t.D} {φ : Nat → Prop} (h : ArgO w fz false (.own (.sl t)) v xs φ) : ∃ A n c, v = .slice A n c ∧ Ow w fz (.sl t) [.slice A n c] xs φ := by
  have h4 := h.1.1
  simp only [Bool.false_eq_true, if_false] at h4
  have h5 : Ow w fz (.sl t) v.cells.toList xs φ := h.2
  rw [cells_one h4] at h5
  obtain ⟨A, c, e, _⟩ := id h5
  simp only [List.cons.injEq, and_true] at e
  subst e
  exact ⟨A, _, c, rfl, h5⟩
theorem int_res {w : World} {fz : Nat → Prop} {k : IntKind} {n : Int} : ResO1 w fz false (.own (.int k)) (.int k n) n fun _ => False :=
  ⟨⟨rfl, fun c hc => by
    have hc : c ∈ [Value.int k n] := hc
    simp only [List.mem_singleton] at hc
    subst hc; rfl⟩, rfl, fun _ h => h⟩
theorem str_res {w : World} {fz : Nat → Prop} {s : ByteArray} : ResO1 w fz false (.own .str) (.string s) s fun _ => False :=
  ⟨⟨rfl, fun c hc => by
    have hc : c ∈ [Value.string s] := hc
    simp only [List.mem_singleton] at hc
    subst hc; rfl⟩, rfl, fun _ h => h⟩
set_option maxRecDepth 100000 in
theorem compare_ok (gl : Nat → Obj → Prop) : ∀ (x : ByteArray × ByteArray × Unit) (r : Int × Unit), strings_CompareF x = some r → CallOkS Tryz.prog gl ⟨156, [.val .str, .val .str], [.own I]⟩ x r := by
  intro ⟨a, b, u⟩ r h fn w fz φ vals hfn hargs hφ hlt hg
  have hfe : fn = Tryz.f156 := Option.some.inj (hfn.symm.trans Tryz.func156)
  subst hfe
  obtain ⟨v1, r1, φ1, φ2, rfl, h1, ⟨v2, r2, φ3, φ4, rfl, h2, ⟨rfl, hn4⟩, htwo2⟩, htwo⟩ := hargs
  obtain rfl := str_arg (P := Tryz.prog) h1
  obtain rfl := str_arg (P := Tryz.prog) h2
  obtain rfl := Option.some.inj h
  refine .inr ⟨callFunc_body (c := _) Tryz.func156 (by rfl) (by kernel_rfl), (Tryz.strings_Compare a b w).mono fun e w' ⟨he, hw⟩ => ⟨_, he, ?_⟩⟩
  subst hw
  exact post_flat (vs := [_]) hlt ⟨3, _, by kernel_rfl, rfl, int_res⟩ (fun _ h => h) ⟨rfl, rfl, rfl, Nat.le_refl _, fun _ _ => rfl⟩
set_option maxRecDepth 100000 in
theorem itoa_ok (gl : Nat → Obj → Prop) (hgl : ∀ w : World, (∀ b o, gl b o → w.heap[b]? = some o) → Lib.TabIs Tryz.prog w "internal/strconv.uint64pow10" .u64 Lib.pow10Tab) : ∀ (x : Int × Unit) (r : ByteArray × Unit), strconv_ItoaF x = some r → CallOkS Tryz.prog gl ⟨162, [.val I], [.own .str]⟩ x r := by
  intro ⟨n, u⟩ r h fn w fz φ vals hfn hargs hφ hlt hg
  have hfe : fn = Tryz.f162 := Option.some.inj (hfn.symm.trans Tryz.func162)
  subst hfe
  obtain ⟨v1, r1, φ1, φ2, rfl, h1, ⟨rfl, hn2⟩, htwo⟩ := hargs
  obtain rfl := int_arg h1
  unfold strconv_ItoaF at h
  cases hb : (decide (-9223372036854775808 ≤ n) && decide (n ≤ 9223372036854775807)) with
  | false => rw [hb] at h; cases h
  | true =>
    rw [hb] at h
    simp only [Bool.and_eq_true, decide_eq_true_eq] at hb
    obtain rfl := Option.some.inj h
    refine .inr ⟨callFunc_body (c := _) Tryz.func162 (by rfl) (by kernel_rfl), (Tryz.strconv_Itoa n hb.1 hb.2 w (hgl w fun b o hbo => (hg b o hbo).1)).mono fun e w' ⟨he, k, os, hw⟩ => ⟨_, he, ?_⟩⟩
    subst hw
    exact post_flat (vs := [_]) hlt ⟨9, _, by kernel_rfl, rfl, str_res⟩ (fun _ h => h) (below_grow w k os)
set_option maxRecDepth 100000 in
theorem atoi_ok (gl : Nat → Obj → Prop) (tp1 tp2 : TypeId) (p1 p2 : Value) (hs : ∀ w : World, (∀ b o, gl b o → w.heap[b]? = some o) → w.var? Tryz.prog "strconv.ErrSyntax" = some #[.iface tp1 p1]) (hr : ∀ w : World, (∀ b o, gl b o → w.heap[b]? = some o) → w.var? Tryz.prog "strconv.ErrRange" = some #[.iface tp2 p2]) :
    ∀ (x : ByteArray × Unit) (r : (Int × Bool) × Unit), strconv_AtoiF x = some r → CallOkS Tryz.prog gl ⟨176, [.val .str], [.own I, .err]⟩ x r := by
  intro ⟨s, u⟩ r h fn w fz φ vals hfn hargs hφ hlt hg
  have hfe : fn = Tryz.f176 := Option.some.inj (hfn.symm.trans Tryz.func176)
  subst hfe
  obtain ⟨v1, r1, φ1, φ2, rfl, h1, ⟨rfl, hn2⟩, htwo⟩ := hargs
  obtain rfl := str_arg (P := Tryz.prog) h1
  unfold strconv_AtoiF at h
  have hbody := callFunc_body (c := _) (args := #[.string s]) (w := w) Tryz.func176 (by rfl) (by kernel_rfl)
  have hg1 : ∀ b o, gl b o → w.heap[b]? = some o := fun b o hbo => (hg b o hbo).1
  obtain ⟨te, hte⟩ : ∃ te, Tryz.f176.resultTypes.toList = [3, te] ∧ aggB Tryz.prog te = false := ⟨_, rfl, by kernel_rfl⟩
  have hres : ∀ (w' : World) (n : Int) (b : Bool) (v : Value), (if b then ∃ t y, v = .iface t y else v = .nilIface) → Below w.heap.size w w' → Post Tryz.prog ⟨176, [.val .str], [.own I, .err]⟩ Tryz.f176.resultTypes.toList w fz φ [.string s] ((n, b), ()) (.tuple #[.int .i64 n, v]) w' := fun w' n b v hv hB => by
    rw [hte.1]
    exact post_flat (vs := [.int .i64 n, v]) hlt ⟨3, [te], _, [v], fun _ => False, fun _ => False, rfl, rfl, int_res, ⟨te, v, rfl, rfl, hv, fun _ h => h⟩, ⟨fun _ h => h.elim, fun b => ⟨False.elim, fun h => h.elim id id⟩⟩⟩ (fun _ h => h) hB
  cases hb : decide (s.size ≤ 281474976710656) with
  | false => rw [hb] at h; cases h
  | true =>
    rw [hb] at h
    have hb := of_decide_eq_true hb
    cases ha : Lib.atoiAll s.data.toList with
    | ok v =>
      rw [ha] at h
      obtain rfl := Option.some.inj h
      refine .inr ⟨hbody, (Tryz.strconv_Atoi_ok s (by omega) v ha w).mono fun e w' ⟨he, hw⟩ => ⟨_, he, ?_⟩⟩
      refine hres w' v false _ rfl ?_
      rcases hw with rfl | ⟨t, rfl⟩
      · exact ⟨rfl, rfl, rfl, Nat.le_refl _, fun _ _ => rfl⟩
      · exact below_bytes w _ t
    | range =>
      rw [ha] at h
      obtain rfl := Option.some.inj h
      refine .inr ⟨hbody, (Tryz.strconv_Atoi_range_var s hb ha tp2 p2 w (hr w hg1)).mono fun e w' ⟨N, he, _, _, hB⟩ => ⟨_, he, ?_⟩⟩
      exact hres w' _ true _ ⟨_, _, rfl⟩ hB
    | _ =>
      rw [ha] at h
      obtain rfl := Option.some.inj h
      refine .inr ⟨hbody, (Tryz.strconv_Atoi_syntax_var s hb (fun v hv => by rw [ha] at hv; cases hv) (fun hv => by rw [ha] at hv; cases hv) tp1 p1 w (hs w hg1)).mono fun e w' ⟨N, he, _, _, hB⟩ => ⟨_, he, ?_⟩⟩
      exact hres w' 0 true _ ⟨_, _, rfl⟩ hB
end Go.Den.S
