/- PxX: equations of the functions of this seat as the executor tells them, or plain facts about them. Conditions: none here. -/
import Derived.Test.YthfdlonnbkffnaaGreatDoorPxW
set_option linter.all false
namespace Go.Den.S
open Go Go.Den
def cntK (del : Bool) (p : Int × List DE) (k : BA) : Int × List DE := (bif (fndB p.2 k).2 then p.1 + 1 else p.1, bif del then q1E p.2 k else p.2)
structure Ok2 (t : List DE) : Prop where
 bd : Bd t
 asc : Asc t
theorem qlB {t : List DE} (h : Ok2 t) (k : BA) : Ok2 (q1E t k) := ⟨qfq h.bd h.asc, qlu h.asc⟩
theorem qdn {p : Int × List DE} (h : Ok2 p.2) (del : Bool) (k : BA) : Ok2 (cntK del p k).2 := by
 unfold cntK
 cases del with
 | true => exact qlB h k
 | false => exact h
theorem qjH (del : Bool) (t : List DE) (r : BA) (ks : List BA) (h : Ok2 t) (hl : ks.length <= 2097152) : yT (t, (r, false)) ks del = some ((ks.foldl (cntK del) (0, t)).1, (((ks.foldl (cntK del) (0, t)).2, (r, false)), ())) := by
 rw [q37]
 exact wD (fun (acc : Int × List DE) i => qN del acc.1 ks (ks.length : Int) i acc.2 r false) ks eB (cntK del) (fun acc => some (acc.1, ((acc.2, (r, false)), ()))) (fun acc i => Ok2 acc.2 /\ 0 <= acc.1 /\ acc.1 <= i)
  (fun acc i hi hI => by
   constructor
   ·conv => lhs; rw [jN]
    have e3 : w64 ((i : Int) + 1) = ((i + 1 : Nat) : Int) := qz (by omega)
    have e4 : w64 (acc.1 + 1) = acc.1 + 1 := qj (by omega) (by omega)
    simp only [dYT (show (i : Int) < (ks.length : Int) by omega), dYT (show (0 : Int) <= (i : Int) by omega), Bool.and_self, cT, Int.toNat_natCast, e3, e4, q2n acc.2 _ hI.1.bd, oB, q9m (acc.2, (r, false)) _ hI.1.bd hI.1.asc]
    unfold cntK
    cases (fndB acc.2 (ks.getD i eB)).2 <;> cases del <;> simp only [cT, cF]
   ·refine ⟨qdn hI.1 del _, ?_, ?_⟩
    ·show 0 <= (bif (fndB acc.2 (ks.getD i eB)).2 then acc.1 + 1 else acc.1)
     cases (fndB acc.2 (ks.getD i eB)).2 <;> simp only [cT, cF] <;> omega
    ·show (bif (fndB acc.2 (ks.getD i eB)).2 then acc.1 + 1 else acc.1) <= _
     cases (fndB acc.2 (ks.getD i eB)).2 <;> simp only [cT, cF] <;> omega)
  (fun acc hI => by
   show qN del acc.1 ks (ks.length : Int) (ks.length : Int) acc.2 r false = _
   rw [jN]
   simp only [Int.lt_irrefl, decide_false, cF]) (0, t) ⟨h, by simp, by simp⟩
theorem qmD (t0 t : List DE) (a : BA) (ks : List BA) (h : Ok2 t) (hl : ks.length <= 2097152) (ha : a.size <= 2097152) : zx t0 (a :: ks) t 0 1 = (qD (ks.foldl (cntK (decide (upB a = zh))) (0, t)).1).bind fun r7 => (yh t0 (ks.foldl (cntK (decide (upB a = zh))) (0, t)).2 r7.1).bind fun r8 => some (r8.1, ()) := by
 have k0 : (decide ((0 : Int) <= 0) && decide ((0 : Int) < ((a :: ks).length : Int))) = true := by rw [dYT (show (0 : Int) < ((a :: ks).length : Int) by simp only [List.length_cons]; omega)]; rfl
 have g0 : yF (List.getD (a :: ks) (Int.toNat 0) eB) = some (upB a, ()) := zo a (by omega)
 have := wD (fun (acc : Int × List DE) i => zx t0 (a :: ks) acc.2 acc.1 (i + 1)) ks eB (cntK (decide (upB a = zh))) (fun acc => (qD acc.1).bind fun r7 => (yh t0 acc.2 r7.1).bind fun r8 => some (r8.1, ())) (fun acc i => Ok2 acc.2 /\ 0 <= acc.1 /\ acc.1 <= i)
  (fun acc i hi hI => by
   have hg : (a :: ks).getD (i + 1) eB = ks.getD i eB := rfl
   constructor
   ·conv => lhs; rw [q88]
    have e0 : (i : Int) + 1 = ((i + 1 : Nat) : Int) := rfl
    have e3 : w64 (((i + 1 : Nat) : Int) + 1) = ((i + 1 : Nat) : Int) + 1 := by rw [show w64 (((i + 1 : Nat) : Int) + 1) = ((i + 1 + 1 : Nat) : Int) from qz (by omega)]; rfl
    have e4 : w64 (acc.1 + 1) = acc.1 + 1 := qj (by omega) (by omega)
    simp only [e0, e3, e4, dYT (show ((i + 1 : Nat) : Int) < ((a :: ks).length : Int) by simp only [List.length_cons]; omega), dYT (show (0 : Int) <= ((i + 1 : Nat) : Int) by omega), Bool.and_self, cT, Int.toNat_natCast, hg, q2o acc.2 _ hI.1.bd, oB, k0, g0, qG, q0u acc.2 _ _ hI.1.bd, decide_true]
    unfold cntK
    have hnf : (fndB acc.2 (ks.getD i eB)).2 = false -> q1E acc.2 (ks.getD i eB) = acc.2 := fun hf => by
     rw [<- q7C acc.2 _ hI.1.asc]
     refine List.filter_eq_self.2 fun e he => ?_
     unfold fndB at hf
     cases hx : acc.2.find? fun e => decide (e.1 = ks.getD i eB) with
     | some e' => rw [hx] at hf; cases hf
     | none =>
      rw [List.find?_eq_none] at hx
      have := hx e he
      simpa using this
    cases hf : (fndB acc.2 (ks.getD i eB)).2 with
    | true => cases decide (upB a = zh) <;> simp only [cT, cF]
    | false =>
     have := hnf hf
     cases decide (upB a = zh) <;> simp only [cT, cF, this]
   ·refine ⟨qdn hI.1 _ _, ?_, ?_⟩
    ·show 0 <= (bif (fndB acc.2 (ks.getD i eB)).2 then acc.1 + 1 else acc.1)
     cases (fndB acc.2 (ks.getD i eB)).2 <;> simp only [cT, cF] <;> omega
    ·show (bif (fndB acc.2 (ks.getD i eB)).2 then acc.1 + 1 else acc.1) <= _
     cases (fndB acc.2 (ks.getD i eB)).2 <;> simp only [cT, cF] <;> omega)
  (fun acc hI => by
   show zx t0 (a :: ks) acc.2 acc.1 ((ks.length : Int) + 1) = _
   rw [q88]
   have e1 : decide ((ks.length : Int) + 1 < ((a :: ks).length : Int)) = false := dYF (by simp only [List.length_cons]; omega)
   simp only [e1, cF]) (0, t) ⟨h, by simp, by simp⟩
 exact this
end Go.Den.S
