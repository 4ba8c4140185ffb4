/- ExtE: equations of the functions of this seat as the executor tells them, or plain facts about them. Conditions: none here. -/
import Derived.Test.YtbgaejnkjmjkhaaDoorEqA
import Derived.Test.YtbgaejnkjmjkhaaDoorInsA
import Derived.Test.YtbgaejnkjmjkhaaDoorInsB
import Derived.Test.YtbgaejnkjmjkhaaDoorShelfE
import Derived.Lib.FieldsLaws
import Derived.Lib.LaidTab
set_option linter.all false
namespace Go.Den
open Go Go.Proofs Go.RowKit
theorem q8E {P : Program} {s : Sig} {ts : List TypeId} {w w' : World} {fz φ : Nat -> Prop} {vals : List Value} {r : s.RetD} {vs : List Value} (hlt : ∀ b, fz b -> b < w.heap.size)
  (hr : ResO P w' fz s.res ts vs r.1 fun _ => False) (ho : wW w' fz s.pars vals r.2 fun _ => False) (hB : Below w.heap.size w w') : Post P s ts w fz φ vals r (packed vs) w' :=
 ⟨⟨vs, fz, fun _ => False, fun _ => False, fun _ => False, rfl, hr, ho, ⟨fun _ h => h.elim, fun b => ⟨False.elim, fun h => h.elim id id⟩⟩, fun _ h => h.elim, fun _ h => h, fun _ h => .inl h, fun _ h => h.elim, fun b hb => Nat.lt_of_lt_of_le (hlt b hb) hB.size, fun _ h => h.elim⟩, fun b hb _ => hB.block b hb, hB.size, hB.os, hB.tape, hB.output⟩
theorem below_grow (w : World) (k : Nat) (os : Array Obj) : Below w.heap.size w (Sort.grow (w.drewN k) os) := ⟨rfl, rfl, rfl, by show _ <= (w.heap ++ os).size; simp, fun b hb => by
 show (w.heap ++ os)[b]? = _
 exact Array.getElem?_append_left hb⟩
end Go.Den
namespace Go.Den.S
open Go Go.Den Go.Proofs Go.RowKit
theorem qbP {P : Program} {w : World} {fz : Nat -> Prop} {v : Value} {s : BA} {φ : Nat -> Prop} (h : ArgO w fz false (.val .str) v s φ) : v = .string s := by
 have h4 := h.1.1
 simp only [Bool.false_eq_true, if_false] at h4
 have h5 : v.cells.toList = [.string s] := h.2.1
 rw [cells_one h4] at h5
 simpa using h5
theorem q6g {w : World} {fz : Nat -> Prop} {v : Value} {k : IntKind} {n : Int} {φ : Nat -> Prop} (h : ArgO w fz false (.val (.int k)) v n φ) : v = .int k n := by
 have h4 := h.1.1
 simp only [Bool.false_eq_true, if_false] at h4
 have h5 : v.cells.toList = [.int k n] := h.2.1
 rw [cells_one h4] at h5
 simpa using h5
theorem q8o {w : World} {fz : Nat -> Prop} {v : Value} {t : Ty} {xs : List t.D} {φ : Nat -> Prop} (h : ArgO w fz false (.own (.sl t)) v xs φ) : ∃ A n c, v = .slice A n c /\ Ow w fz (.sl t) [.slice A n c] xs φ := by
 have h4 := h.1.1
 simp only [Bool.false_eq_true, if_false] at h4
 have h5 : Ow w fz (.sl t) v.cells.toList xs φ := h.2
 rw [cells_one h4] at h5
 obtain ⟨A, c, e, _⟩ := id h5
 simp only [List.cons.injEq, and_true] at e
 subst e
 exact ⟨A, _, c, rfl, h5⟩
theorem qeO {w : World} {fz : Nat -> Prop} {k : IntKind} {n : Int} : q2k w fz false (.own (.int k)) (.int k n) n fun _ => False :=
 ⟨⟨rfl, fun c hc => by
  have hc : c ∈ [Value.int k n] := hc
  simp only [List.mem_singleton] at hc
  subst hc; rfl⟩, rfl, fun _ h => h⟩
theorem qeJ {w : World} {fz : Nat -> Prop} {s : BA} : q2k w fz false (.own .str) (.string s) s fun _ => False :=
 ⟨⟨rfl, fun c hc => by
  have hc : c ∈ [Value.string s] := hc
  simp only [List.mem_singleton] at hc
  subst hc; rfl⟩, rfl, fun _ h => h⟩
set_option maxRecDepth 100000 in
theorem qco (gl : Nat -> Obj -> Prop) : ∀ (x : BA × BA × Unit) (r : Int × Unit), q0F x = some r -> q08 Tryd.prog gl ⟨85, [.val .str, .val .str], [.own I]⟩ x r := by
 intro ⟨a, b, u⟩ r h fn w fz φ vals hfn hargs hφ hlt hg
 have hfe : fn = Tryd.f85 := Option.some.inj (hfn.symm.trans Tryd.func85)
 subst hfe
 obtain ⟨v1, r1, φ1, φ2, rfl, h1, ⟨v2, r2, φ3, φ4, rfl, h2, ⟨rfl, hn4⟩, htwo2⟩, htwo⟩ := hargs
 obtain rfl := qbP (P := Tryd.prog) h1
 obtain rfl := qbP (P := Tryd.prog) h2
 obtain rfl := Option.some.inj h
 refine .inr ⟨jd (c := _) Tryd.func85 (by rfl) (by kernel_rfl), (Tryd.strings_Compare a b w).mono fun e w' ⟨he, hw⟩ => ⟨_, he, ?_⟩⟩
 subst hw
 exact q8E (vs := [_]) hlt ⟨3, _, by kernel_rfl, rfl, qeO⟩ (fun _ h => h) ⟨rfl, rfl, rfl, Nat.le_refl _, fun _ _ => rfl⟩
set_option maxRecDepth 100000 in
theorem qfn (gl : Nat -> Obj -> Prop) (hgl : ∀ w : World, (∀ b o, gl b o -> w.heap[b]? = some o) -> Lib.TabIs Tryd.prog w "internal/strconv.uint64pow10" .u64 Lib.pow10Tab) : ∀ (x : Int × Unit) (r : BA × Unit), q0L x = some r -> q08 Tryd.prog gl ⟨95, [.val I], [.own .str]⟩ x r := by
 intro ⟨n, u⟩ r h fn w fz φ vals hfn hargs hφ hlt hg
 have hfe : fn = Tryd.f95 := Option.some.inj (hfn.symm.trans Tryd.func95)
 subst hfe
 obtain ⟨v1, r1, φ1, φ2, rfl, h1, ⟨rfl, hn2⟩, htwo⟩ := hargs
 obtain rfl := q6g h1
 unfold q0L at h
 cases hb : (decide (-9223372036854775808 <= n) && decide (n <= 9223372036854775807)) with
 | false => rw [hb] at h; cases h
 | true =>
  rw [hb] at h
  simp only [Bool.and_eq_true, decide_eq_true_eq] at hb
  obtain rfl := Option.some.inj h
  refine .inr ⟨jd (c := _) Tryd.func95 (by rfl) (by kernel_rfl), (Tryd.strconv_Itoa n hb.1 hb.2 w (hgl w fun b o hbo => (hg b o hbo).1)).mono fun e w' ⟨he, k, os, hw⟩ => ⟨_, he, ?_⟩⟩
  subst hw
  exact q8E (vs := [_]) hlt ⟨9, _, by kernel_rfl, rfl, qeJ⟩ (fun _ h => h) (below_grow w k os)
theorem qeX (gl : Nat -> Obj -> Prop) : ∀ (x : BA × Unit) (r : (Int × Bool) × Unit), q5v x = some r -> q08 Tryd.prog gl ⟨108, [.val .str], [.own I, .err]⟩ x r := fun _ _ h => by cases h
end Go.Den.S
