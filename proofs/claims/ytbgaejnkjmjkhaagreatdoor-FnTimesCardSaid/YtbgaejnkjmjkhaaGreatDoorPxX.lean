/- PxX: equations of the functions of this seat as the executor tells them, or plain facts about them. Conditions: none here. -/
import Derived.Test.YtbgaejnkjmjkhaaGreatDoorPxW
set_option linter.all false
namespace Go.Den.S
open Go Go.Den
def cntK (del : Bool) (p : Int × List DE) (k : BA) : Int × List DE := (bif (fndB p.2 k).2 then p.1 + 1 else p.1, bif del then q1t p.2 k else p.2)
structure Ok2 (t : List DE) : Prop where
 bd : Bd t
 asc : Asc t
theorem qmv {t : List DE} (h : Ok2 t) (k : BA) : Ok2 (q1t t k) := ⟨qfz h.bd h.asc, qmp h.asc⟩
theorem qcV {p : Int × List DE} (h : Ok2 p.2) (del : Bool) (k : BA) : Ok2 (cntK del p k).2 := by
 unfold cntK
 cases del with
 | true => exact qmv h k
 | false => exact h
theorem qk4 (del : Bool) (t : List DE) (r : BA) (ks : List BA) (h : Ok2 t) (hl : ks.length <= 2097152) : wF (t, (r, false)) ks del = some ((ks.foldl (cntK del) (0, t)).1, (((ks.foldl (cntK del) (0, t)).2, (r, false)), ())) := by
 rw [q3l]
 exact wW (fun (acc : Int × List DE) i => qU del acc.1 ks (ks.length : Int) i acc.2 r false) ks eB (cntK del) (fun acc => some (acc.1, ((acc.2, (r, false)), ()))) (fun acc i => Ok2 acc.2 /\ 0 <= acc.1 /\ acc.1 <= i)
  (fun acc i hi hI => by
   constructor
   ·conv => lhs; rw [q0c]
    have e3 : w64 ((i : Int) + 1) = ((i + 1 : Nat) : Int) := qA (by omega)
    have e4 : w64 (acc.1 + 1) = acc.1 + 1 := ql (by omega) (by omega)
    simp only [dYT (show (i : Int) < (ks.length : Int) by omega), dYT (show (0 : Int) <= (i : Int) by omega), Bool.and_self, cT, Int.toNat_natCast, e3, e4, q2l acc.2 _ hI.1.bd, oB, q8G (acc.2, (r, false)) _ hI.1.bd hI.1.asc]
    unfold cntK
    cases (fndB acc.2 (ks.getD i eB)).2 <;> cases del <;> simp only [cT, cF]
   ·refine ⟨qcV hI.1 del _, ?_, ?_⟩
    ·show 0 <= (bif (fndB acc.2 (ks.getD i eB)).2 then acc.1 + 1 else acc.1)
     cases (fndB acc.2 (ks.getD i eB)).2 <;> simp only [cT, cF] <;> omega
    ·show (bif (fndB acc.2 (ks.getD i eB)).2 then acc.1 + 1 else acc.1) <= _
     cases (fndB acc.2 (ks.getD i eB)).2 <;> simp only [cT, cF] <;> omega)
  (fun acc hI => by
   show qU del acc.1 ks (ks.length : Int) (ks.length : Int) acc.2 r false = _
   rw [q0c]
   simp only [Int.lt_irrefl, decide_false, cF]) (0, t) ⟨h, by simp, by simp⟩
theorem qna (t0 t : List DE) (a : BA) (ks : List BA) (h : Ok2 t) (hl : ks.length <= 2097152) (ha : a.size <= 2097152) : zR t0 (a :: ks) t 0 1 = (qF (ks.foldl (cntK (decide (upB a = wG))) (0, t)).1).bind fun r7 => (yE t0 (ks.foldl (cntK (decide (upB a = wG))) (0, t)).2 r7.1).bind fun r8 => some (r8.1, ()) := by
 have k0 : (decide ((0 : Int) <= 0) && decide ((0 : Int) < ((a :: ks).length : Int))) = true := by rw [dYT (show (0 : Int) < ((a :: ks).length : Int) by simp only [List.length_cons]; omega)]; rfl
 have g0 : yH (List.getD (a :: ks) (Int.toNat 0) eB) = some (upB a, ()) := zC a (by omega)
 have := wW (fun (acc : Int × List DE) i => zR t0 (a :: ks) acc.2 acc.1 (i + 1)) ks eB (cntK (decide (upB a = wG))) (fun acc => (qF acc.1).bind fun r7 => (yE t0 acc.2 r7.1).bind fun r8 => some (r8.1, ())) (fun acc i => Ok2 acc.2 /\ 0 <= acc.1 /\ acc.1 <= i)
  (fun acc i hi hI => by
   have hg : (a :: ks).getD (i + 1) eB = ks.getD i eB := rfl
   constructor
   ·conv => lhs; rw [q7C]
    have e0 : (i : Int) + 1 = ((i + 1 : Nat) : Int) := rfl
    have e3 : w64 (((i + 1 : Nat) : Int) + 1) = ((i + 1 : Nat) : Int) + 1 := by rw [show w64 (((i + 1 : Nat) : Int) + 1) = ((i + 1 + 1 : Nat) : Int) from qA (by omega)]; rfl
    have e4 : w64 (acc.1 + 1) = acc.1 + 1 := ql (by omega) (by omega)
    simp only [e0, e3, e4, dYT (show ((i + 1 : Nat) : Int) < ((a :: ks).length : Int) by simp only [List.length_cons]; omega), dYT (show (0 : Int) <= ((i + 1 : Nat) : Int) by omega), Bool.and_self, cT, Int.toNat_natCast, hg, q2F acc.2 _ hI.1.bd, oB, k0, g0, qM, q0U acc.2 _ _ hI.1.bd, decide_true]
    unfold cntK
    have hnf : (fndB acc.2 (ks.getD i eB)).2 = false -> q1t acc.2 (ks.getD i eB) = acc.2 := fun hf => by
     rw [<- q7n acc.2 _ hI.1.asc]
     refine List.filter_eq_self.2 fun e he => ?_
     unfold fndB at hf
     cases hx : acc.2.find? fun e => decide (e.1 = ks.getD i eB) with
     | some e' => rw [hx] at hf; cases hf
     | none =>
      rw [List.find?_eq_none] at hx
      have := hx e he
      simpa using this
    cases hf : (fndB acc.2 (ks.getD i eB)).2 with
    | true => cases decide (upB a = wG) <;> simp only [cT, cF]
    | false =>
     have := hnf hf
     cases decide (upB a = wG) <;> simp only [cT, cF, this]
   ·refine ⟨qcV hI.1 _ _, ?_, ?_⟩
    ·show 0 <= (bif (fndB acc.2 (ks.getD i eB)).2 then acc.1 + 1 else acc.1)
     cases (fndB acc.2 (ks.getD i eB)).2 <;> simp only [cT, cF] <;> omega
    ·show (bif (fndB acc.2 (ks.getD i eB)).2 then acc.1 + 1 else acc.1) <= _
     cases (fndB acc.2 (ks.getD i eB)).2 <;> simp only [cT, cF] <;> omega)
  (fun acc hI => by
   show zR t0 (a :: ks) acc.2 acc.1 ((ks.length : Int) + 1) = _
   rw [q7C]
   have e1 : decide ((ks.length : Int) + 1 < ((a :: ks).length : Int)) = false := dYF (by simp only [List.length_cons]; omega)
   simp only [e1, cF]) (0, t) ⟨h, by simp, by simp⟩
 exact this
end Go.Den.S
