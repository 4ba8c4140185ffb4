/- ExtE: equations of the functions of this seat as the executor tells them, or plain facts about them. Conditions: none here. -/
import Derived.Test.YtkpdhadfnanagaaDoorEqA
import Derived.Test.YtkpdhadfnanagaaDoorShelfE
import Derived.Lib.LaidTab
set_option linter.all false
namespace Go.Den
open Go Go.Proofs Go.RowKit
/-- A call that gives back numbers and texts, and writes no old block. -/
theorem post_flat {P : Program} {s : Sig} {ts : List TypeId} {w w' : World} {fz φ : Nat → Prop} {vals : List Value} {r : s.RetD} {vs : List Value} (hlt : ∀ b, fz b → b < w.heap.size)
    (hr : ResO P w' fz s.res ts vs r.1 fun _ => False) (ho : OutsO w' fz s.pars vals r.2 fun _ => False) (hB : Below w.heap.size w w') : Post P s ts w fz φ vals r (packed vs) w' :=
  ⟨⟨vs, fz, fun _ => False, fun _ => False, fun _ => False, rfl, hr, ho, ⟨fun _ h => h.elim, fun b => ⟨False.elim, fun h => h.elim id id⟩⟩, fun _ h => h.elim, fun _ h => h, fun _ h => .inl h, fun _ h => h.elim, fun b hb => Nat.lt_of_lt_of_le (hlt b hb) hB.size, fun _ h => h.elim⟩, fun b hb _ => hB.block b hb, hB.size, hB.os, hB.tape, hB.output⟩
theorem below_grow (w : World) (k : Nat) (os : Array Obj) : Below w.heap.size w (Sort.grow (w.drewN k) os) := ⟨rfl, rfl, rfl, by show _ ≤ (w.heap ++ os).size; simp, fun b hb => by
  show (w.heap ++ os)[b]? = _
  exact Array.getElem?_append_left hb⟩
end Go.Den
namespace Go.Den.S
open Go Go.Den Go.Proofs Go.RowKit
theorem int_arg {w : World} {fz : Nat → Prop} {v : Value} {k : IntKind} {n : Int} {φ : Nat → Prop} (h : ArgO w fz false (.val (.int k)) v n φ) : v = .int k n := by
  have h4 := h.1.1
  simp only [Bool.false_eq_true, if_false] at h4
  have h5 : v.cells.toList = [.int k n] := h.2.1
  rw [cells_one h4] at h5
  simpa using h5
theorem str_res {w : World} {fz : Nat → Prop} {s : ByteArray} : ResO1 w fz false (.own .str) (.string s) s fun _ => False :=
  ⟨⟨rfl, fun c hc => by
    have hc : c ∈ [Value.string s] := hc
    simp only [List.mem_singleton] at hc
    subst hc; rfl⟩, rfl, fun _ h => h⟩

set_option maxRecDepth 100000 in
theorem itoa_ok (gl : Nat → Obj → Prop) (hgl : ∀ w : World, (∀ b o, gl b o → w.heap[b]? = some o) → Lib.TabIs Tryd.prog w "internal/strconv.uint64pow10" .u64 Lib.pow10Tab) : ∀ (x : Int × Unit) (r : ByteArray × Unit), strconv_ItoaF x = some r → CallOkS Tryd.prog gl ⟨139, [.val I], [.own .str]⟩ x r := by
  intro ⟨n, u⟩ r h fn w fz φ vals hfn hargs hφ hlt hg
  have hfe : fn = Tryd.f139 := Option.some.inj (hfn.symm.trans Tryd.func139)
  subst hfe
  obtain ⟨v1, r1, φ1, φ2, rfl, h1, ⟨rfl, hn2⟩, htwo⟩ := hargs
  obtain rfl := int_arg h1
  unfold strconv_ItoaF at h
  cases hb : (decide (-9223372036854775808 ≤ n) && decide (n ≤ 9223372036854775807)) with
  | false => rw [hb] at h; cases h
  | true =>
    rw [hb] at h
    simp only [Bool.and_eq_true, decide_eq_true_eq] at hb
    obtain rfl := Option.some.inj h
    refine .inr ⟨callFunc_body (c := _) Tryd.func139 (by rfl) (by kernel_rfl), (Tryd.strconv_Itoa n hb.1 hb.2 w (hgl w fun b o hbo => (hg b o hbo).1)).mono fun e w' ⟨he, k, os, hw⟩ => ⟨_, he, ?_⟩⟩
    subst hw
    exact post_flat (vs := [_]) hlt ⟨9, _, by kernel_rfl, rfl, str_res⟩ (fun _ h => h) (below_grow w k os)
end Go.Den.S
