/- PwB: equations of the functions of this seat as the executor tells them, or plain facts about them. Conditions: none here. -/
import Derived.Test.YtbgaejnkjmjkhaaDoorPwA
set_option linter.all false
namespace Go.Den.S
open Go Go.Den
theorem q3t : upB yw = yw := by decide +kernel
theorem q3E : upB yu = yu := by decide +kernel
theorem q0Y : upB yR = yR := by decide +kernel
theorem q4D : upB wo = wo := by decide +kernel
theorem q4s : upB wO = wO := by decide +kernel
theorem q2M : upB yj = yj := by decide +kernel
theorem q2P : upB qV = qV := by decide +kernel
theorem qc8 : ¬ yu = yw := by decide +kernel
theorem q4t : ¬ yR = yw /\ ¬ yR = yu := ⟨by decide +kernel, by decide +kernel⟩
theorem q6t : ¬ wo = yw /\ ¬ wo = yu /\ ¬ wo = yR := ⟨by decide +kernel, by decide +kernel, by decide +kernel⟩
theorem q4w : ¬ wO = yw /\ ¬ wO = yu /\ ¬ wO = yR /\ ¬ wO = wo := ⟨by decide +kernel, by decide +kernel, by decide +kernel, by decide +kernel⟩
theorem q0S : ¬ yj = yw /\ ¬ yj = yu /\ ¬ yj = yR /\ ¬ yj = wo /\ ¬ yj = wO /\ ¬ yj = qV := ⟨by decide +kernel, by decide +kernel, by decide +kernel, by decide +kernel, by decide +kernel, by decide +kernel⟩
theorem q1J : ¬ qV = yw /\ ¬ qV = yu /\ ¬ qV = yR /\ ¬ qV = wo /\ ¬ qV = wO := ⟨by decide +kernel, by decide +kernel, by decide +kernel, by decide +kernel, by decide +kernel⟩
section
variable {k : BA} (hk : 1 <= k.size /\ k.size <= 20) {l : List BA} (hl : l = [] \/ valB (2, (0, (eB, l))) = true)
include hk hl
theorem q9y {u : BA} (hu : memB (upB u) lstN = true) (hc : memB (upB u) cmds = true) (h5 : (!(memB (upB u) ar0) && (!(memB (upB u) ar1) && (!(memB (upB u) ar2) && (!(memB (upB u) ar3) && (!(memB (upB u) ar4) && memB (upB u) ar5))))) = true) (vals : List BA) (h : 1 <= vals.length) : isB (oneT k 2 l) (u :: k :: vals) lstN = true :=
 q6a (q0V hk hl) hu hc (by rw [ar_5 h5]; exact dYT (by simp only [List.length_cons]; omega))
theorem qbP (vals : List BA) (h : 1 <= vals.length) (hr : tabB (oneT k 2 (vals.reverse ++ l)) = true) : yF (oneT k 2 l) (yw :: k :: vals) = (oneT k 2 (vals.reverse ++ l), (numB ((vals.reverse ++ l).length : Int), true)) := by
 unfold yF
 rw [q9y hk hl (by rw [q3t]; decide +kernel) (by rw [q3t]; decide +kernel) (by rw [q3t]; decide +kernel) vals h]
 dsimp only
 unfold lstD
 simp only [cT, q3t, q0o, cF, decide_true, q1v, q5x]
 exact q0d hr
theorem qbW (vals : List BA) (h : 1 <= vals.length) (hr : tabB (oneT k 2 (l ++ vals)) = true) : yF (oneT k 2 l) (yu :: k :: vals) = (oneT k 2 (l ++ vals), (numB ((l ++ vals).length : Int), true)) := by
 unfold yF
 rw [q9y hk hl (by rw [q3E]; decide +kernel) (by rw [q3E]; decide +kernel) (by rw [q3E]; decide +kernel) vals h]
 dsimp only
 unfold lstD
 simp only [cT, q3E, q0o, cF, decide_true, dYF qc8, q1v, q5x]
 exact q0d hr
theorem q6v {u : BA} (hu : memB (upB u) lstN = true) (hc : memB (upB u) cmds = true) (h1 : (!(memB (upB u) ar0) && memB (upB u) ar1) = true) : isB (oneT k 2 l) [u, k] lstN = true :=
 q6a (q0V hk hl) hu hc (by rw [ar_1 h1]; rfl)
theorem qcD (hne : l ≠ []) (hr : tabB (oneT k 2 (l.drop 1)) = true) : yF (oneT k 2 l) [yR, k] = (oneT k 2 (l.drop 1), (yh (gi l 0), true)) := by
 unfold yF
 rw [q6v hk hl (by rw [q0Y]; decide +kernel) (by rw [q0Y]; decide +kernel) (by rw [q0Y]; decide +kernel)]
 dsimp only
 unfold lstD
 simp only [cT, q0Y, q0o, cF, decide_true, dYF q4t.1, dYF q4t.2, q1v, dYF hne, q5x]
 exact q0d hr
theorem qcH (hne : l ≠ []) (hr : tabB (oneT k 2 (l.take (l.length - 1))) = true) : yF (oneT k 2 l) [wo, k] = (oneT k 2 (l.take (l.length - 1)), (yh (gi l (l.length - 1)), true)) := by
 unfold yF
 rw [q6v hk hl (by rw [q4D]; decide +kernel) (by rw [q4D]; decide +kernel) (by rw [q4D]; decide +kernel)]
 dsimp only
 unfold lstD
 simp only [cT, q4D, q0o, cF, decide_true, dYF q6t.1, dYF q6t.2.1, dYF q6t.2.2, q1v, dYF hne, q5x]
 exact q0d hr
theorem qcA : yF (oneT k 2 l) [wO, k] = (oneT k 2 l, (numB (l.length : Int), true)) := by
 unfold yF
 rw [q6v hk hl (by rw [q4s]; decide +kernel) (by rw [q4s]; decide +kernel) (by rw [q4s]; decide +kernel)]
 dsimp only
 unfold lstD
 simp only [cT, q4s, q0o, cF, decide_true, dYF q4w.1, dYF q4w.2.1, dYF q4w.2.2.1, dYF q4w.2.2.2, q1v]
 exact q0d (q0V hk hl)
theorem qbt (n : Int) (h0 : -1000000000 <= n) (h1 : n <= 1000000000) : yF (oneT k 2 l) [qV, k, decB n] = (oneT k 2 l, (idxR l n, true)) := by
 unfold yF
 rw [show isB (oneT k 2 l) [qV, k, decB n] lstN = true from q6a (q0V hk hl) (by rw [q2P]; decide +kernel) (by rw [q2P]; decide +kernel) (by rw [q2P, ar_2 (by decide +kernel)]; rfl)]
 dsimp only
 unfold lstD
 simp only [cT, q2P, q0o, cF, decide_true, dYF q1J.1, dYF q1J.2.1, dYF q1J.2.2.1, dYF q1J.2.2.2.1, dYF q1J.2.2.2.2, q1v, show gi [decB n] 0 = decB n from rfl, q4x n h0 h1, Bool.not_true]
 exact q0d (q0V hk hl)
theorem qaN (a b : Int) (ha : -1000000000 <= a /\ a <= 1000000000) (hb : -1000000000 <= b /\ b <= 1000000000) : yF (oneT k 2 l) [yj, k, decB a, decB b] = (oneT k 2 l, (arrB ((cutL l (bndB a b (l.length : Int))).map yh), true)) := by
 unfold yF
 rw [show isB (oneT k 2 l) [yj, k, decB a, decB b] lstN = true from q6a (q0V hk hl) (by rw [q2M]; decide +kernel) (by rw [q2M]; decide +kernel) (by rw [q2M, ar_3 (by decide +kernel)]; rfl)]
 dsimp only
 unfold lstD
 simp only [cT, q2M, q0o, cF, dYF q0S.1, dYF q0S.2.1, dYF q0S.2.2.1, dYF q0S.2.2.2.1, dYF q0S.2.2.2.2.1, dYF q0S.2.2.2.2.2, q1v, show gi [decB a, decB b] 0 = decB a from rfl, show gi [decB a, decB b] 1 = decB b from rfl, q4x a ha.1 ha.2, q4x b hb.1 hb.2, Bool.not_true]
 exact q0d (q0V hk hl)
end
theorem q8Y (k : BA) : yF [] [yR, k] = ([], (nilR, true)) := by
 unfold yF
 rw [show isB [] [yR, k] lstN = true from q6a q2l (by rw [q0Y]; decide +kernel) (by rw [q0Y]; decide +kernel) (by rw [q0Y, ar_1 (by decide +kernel)]; rfl)]
 dsimp only
 unfold lstD
 simp only [cT, q0Y, show yG [] k 2 = false from rfl, cF, decide_true, dYF q4t.1, dYF q4t.2, show undB [] k = (0, (eB, [])) from rfl]
 exact q0d q2l
end Go.Den.S
