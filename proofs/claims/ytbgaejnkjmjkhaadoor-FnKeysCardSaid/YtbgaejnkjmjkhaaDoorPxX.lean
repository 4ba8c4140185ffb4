/- PxX: equations of the functions of this seat as the executor tells them, or plain facts about them. Conditions: none here. -/
import Derived.Test.YtbgaejnkjmjkhaaDoorPxR
set_option linter.all false
namespace Go.Den.S
open Go Go.Den
def cntK (del : Bool) (p : Int × List DE) (k : BA) : Int × List DE := (bif (fndB p.2 k).2 then p.1 + 1 else p.1, bif del then yJ p.2 k else p.2)
structure Ok2 (t : List DE) : Prop where
 bd : Bd t
 asc : Asc t
theorem qcl {t : List DE} (h : Ok2 t) (k : BA) : Ok2 (yJ t k) := ⟨q9f h.bd h.asc, q5B h.asc⟩
theorem q8c {p : Int × List DE} (h : Ok2 p.2) (del : Bool) (k : BA) : Ok2 (cntK del p k).2 := by
 unfold cntK
 cases del with
 | true => exact qcl h k
 | false => exact h
theorem qa9 (del : Bool) (t : List DE) (r : BA) (ks : List BA) (h : Ok2 t) (hl : ks.length <= 2097152) : qL (t, (r, false)) ks del = some ((ks.foldl (cntK del) (0, t)).1, (((ks.foldl (cntK del) (0, t)).2, (r, false)), ())) := by
 rw [jm]
 exact q11 (fun (acc : Int × List DE) i => qp del acc.1 ks (ks.length : Int) i acc.2 r false) ks eB (cntK del) (fun acc => some (acc.1, ((acc.2, (r, false)), ()))) (fun acc i => Ok2 acc.2 /\ 0 <= acc.1 /\ acc.1 <= i)
  (fun acc i hi hI => by
   constructor
   ·conv => lhs; rw [wh]
    have e3 : w64 ((i : Int) + 1) = ((i + 1 : Nat) : Int) := qR (by omega)
    have e4 : w64 (acc.1 + 1) = acc.1 + 1 := qH (by omega) (by omega)
    simp only [dYT (show (i : Int) < (ks.length : Int) by omega), dYT (show (0 : Int) <= (i : Int) by omega), Bool.and_self, cT, Int.toNat_natCast, e3, e4, q1t acc.2 _ hI.1.bd, oB, q43 (acc.2, (r, false)) _ hI.1.bd hI.1.asc]
    unfold cntK
    cases (fndB acc.2 (ks.getD i eB)).2 <;> cases del <;> simp only [cT, cF]
   ·refine ⟨q8c hI.1 del _, ?_, ?_⟩
    ·show 0 <= (bif (fndB acc.2 (ks.getD i eB)).2 then acc.1 + 1 else acc.1)
     cases (fndB acc.2 (ks.getD i eB)).2 <;> simp only [cT, cF] <;> omega
    ·show (bif (fndB acc.2 (ks.getD i eB)).2 then acc.1 + 1 else acc.1) <= _
     cases (fndB acc.2 (ks.getD i eB)).2 <;> simp only [cT, cF] <;> omega)
  (fun acc hI => by
   show qp del acc.1 ks (ks.length : Int) (ks.length : Int) acc.2 r false = _
   rw [wh]
   simp only [Int.lt_irrefl, decide_false, cF]) (0, t) ⟨h, by simp, by simp⟩
end Go.Den.S
