/- PwD: equations of the functions of this seat as the executor tells them, or plain facts about them. Conditions: none here. -/
import Derived.Test.YtbgaejnkjmjkhaaGreatDoorPzE
import Derived.Test.YtbgaejnkjmjkhaaGreatDoorPwA
set_option linter.all false
namespace Go.Den.S
open Go Go.Den
theorem qex {t : List DE} {u : BA} {r l : List BA} (h : memB (upB u) l = false) : isB t (u :: r) l = false := by
 unfold isB
 simp only [h, Bool.false_and, Bool.and_false]
theorem qcq {t : List DE} (ht : tabB t = true) {now : Int} (hn : 0 <= now /\ now <= 100000) {u : BA} {r : List BA} (h : (!(memB (upB u) txtN) && (!(memB (upB u) lstN) && (!(memB (upB u) fldN) && !(memB (upB u) setN)))) = true) (hc : memB (upB u) cmds = true) (ha : arB (upB u) (r.length : Int) = true) :
  exeB t now (u :: r) = ((q1H (qP t now) now (u :: r)).1, (q1H (qP t now) now (u :: r)).2.1) := by
 simp only [Bool.and_eq_true, Bool.not_eq_true'] at h
 obtain ⟨h1, h2, h3, h4⟩ := h
 have hu : unkB (u :: r) = eB := by
  show (bif memB (upB u) cmds then (bif j5 (u :: r) then eB else y8 q17) else y8 jH) = _
  rw [hc, show j5 (u :: r) = true from by show (memB (upB u) cmds && arB (upB u) (r.length : Int)) = true; rw [hc, ha]; rfl]; rfl
 unfold exeB
 rw [ht, dYT hn.1, dYT hn.2, dYT hu]
 rw [show jl (qP t now) (u :: r) = noR from by unfold jl; rw [qex h1]; rfl, show jg (qP t now) (u :: r) = noR from by unfold jg; rw [qex h2]; rfl, show zL (qP t now) (u :: r) = noR from by unfold zL; rw [qex h3]; rfl, show jZ (qP t now) (u :: r) = noR from by unfold jZ; rw [qex h4]; rfl]
 rfl
theorem qew {t : List DE} (ht : tabB t = true) {now : Int} (hn : 0 <= now /\ now <= 100000) {u k : BA} {vals : List BA} (hk : memB (upB u) keyN = true) (hc : memB (upB u) cmds = true) (ha : arB (upB u) ((k :: vals).length : Int) = true) (h : (!(decide (upB u = wX)) && (!(decide (upB u = zo)) && (!(decide (upB u = yS)) && !(decide (upB u = yF))))) = true) :
  q1H t now (u :: k :: vals) = wT (keyD t now (upB u) k vals) t := by
 simp only [Bool.and_eq_true, Bool.not_eq_true'] at h
 unfold q1H
 rw [dYT hn.1, dYT hn.2, qo4 ht hk hc ha]
 simp only [Bool.and_self, cT, h.1, h.2.1, h.2.2.1, h.2.2.2, cF]
theorem qmQ {k : BA} (hk : 1 <= k.size /\ k.size <= 20) {v : DV} (h : valB v = true) : tabB [(k, v)] = true := by
 refine qfl.2 ⟨by simp, fun e he => ?_, List.pairwise_singleton _ _⟩
 rw [List.mem_singleton] at he
 subst he
 exact ⟨hk.1, hk.2, h⟩
theorem qjv (k : BA) (v v' : DV) : putB [(k, v)] k v' = [(k, v')] := by
 unfold putB lowB q3W
 simp [q5g]
theorem qlY (k : BA) (v : DV) : q1t [(k, v)] k = [] := by
 unfold q1t lowB q3W
 simp [q5g]
theorem q8R (k : BA) (v : DV) (now : Int) : qP [(k, v)] now = bif decide (v.2.1 = 0) || decide (now < v.2.1) then [(k, v)] else [] := by
 unfold qP
 rw [List.filter_cons]
 cases h : q2J now (k, v) with
 | true =>
  unfold q2J at h
  rw [show (decide (v.2.1 = 0) || decide (now < v.2.1)) = true from h]; rfl
 | false =>
  unfold q2J at h
  rw [show (decide (v.2.1 = 0) || decide (now < v.2.1)) = false from h]; rfl
theorem q3K : upB yj = yj := by decide +kernel
theorem q7I : upB zZ = zZ := by decide +kernel
theorem q3J : upB qZ = qZ := by decide +kernel
theorem q2T : upB wZ = wZ := by decide +kernel
theorem q3H : ¬ yj = zD /\ ¬ yj = wG /\ ¬ yj = qZ /\ ¬ yj = jr := ⟨by decide +kernel, by decide +kernel, by decide +kernel, by decide +kernel⟩
theorem qbU : ¬ zZ = zD /\ ¬ zZ = wG /\ ¬ zZ = qZ /\ ¬ zZ = jr /\ ¬ zZ = yj := ⟨by decide +kernel, by decide +kernel, by decide +kernel, by decide +kernel, by decide +kernel⟩
theorem qg2 : ¬ qZ = zD /\ ¬ qZ = wG := ⟨by decide +kernel, by decide +kernel⟩
theorem q5i : ¬ wZ = zD /\ ¬ wZ = wG /\ ¬ wZ = qZ /\ ¬ wZ = jr /\ ¬ wZ = yj /\ ¬ wZ = zZ := ⟨by decide +kernel, by decide +kernel, by decide +kernel, by decide +kernel, by decide +kernel, by decide +kernel⟩
section
variable {t : List DE} (ht : tabB t = true) {now : Int} (hn : 0 <= now /\ now <= 100000) (k : BA)
include ht hn
theorem qga (n : Int) (h0 : -1000000000 <= n) (h1 : n <= 1000000000) : exeB t now [yj, k, decB n] = ((wT (keyD (qP t now) now yj k [decB n]) (qP t now)).1, (wT (keyD (qP t now) now yj k [decB n]) (qP t now)).2.1) := by
 rw [qcq ht hn (by rw [q3K]; decide +kernel) (by rw [q3K]; decide +kernel) (by rw [q3K, ar_2 (by decide +kernel)]; rfl), qew (q3c ht now) hn (by rw [q3K]; decide +kernel) (by rw [q3K]; decide +kernel) (by rw [q3K, ar_2 (by decide +kernel)]; rfl) (by rw [q3K]; decide +kernel), q3K]
theorem qlG : exeB t now [zZ, k] = (qP t now, numB (q58 (fndB (qP t now) k).1 (fndB (qP t now) k).2 now)) := by
 rw [qcq ht hn (by rw [q7I]; decide +kernel) (by rw [q7I]; decide +kernel) (by rw [q7I, ar_1 (by decide +kernel)]; rfl), qew (q3c ht now) hn (by rw [q7I]; decide +kernel) (by rw [q7I]; decide +kernel) (by rw [q7I, ar_1 (by decide +kernel)]; rfl) (by rw [q7I]; decide +kernel), q7I]
 unfold keyD
 simp only [dYF qbU.1, dYF qbU.2.1, dYF qbU.2.2.1, dYF qbU.2.2.2.1, dYF qbU.2.2.2.2, cF, decide_true, cT, q8W (q3c ht now)]
theorem ql0 : exeB t now [qZ, k] = (qP t now, numB (bif (fndB (qP t now) k).2 then 1 else 0)) := by
 rw [qcq ht hn (by rw [q3J]; decide +kernel) (by rw [q3J]; decide +kernel) (by rw [q3J, ar_4 (by decide +kernel)]; rfl), qew (q3c ht now) hn (by rw [q3J]; decide +kernel) (by rw [q3J]; decide +kernel) (by rw [q3J, ar_4 (by decide +kernel)]; rfl) (by rw [q3J]; decide +kernel), q3J]
 unfold keyD
 simp only [dYF qg2.1, dYF qg2.2, cF, decide_true, cT, List.foldl_cons, List.foldl_nil, cntK]
 rw [q8W (q3c ht now)]
 cases (fndB (qP t now) k).2 <;> rfl
theorem qkm : exeB t now [wZ, k] = ((wT (bif decide ((fndB (qP t now) k).1.2.1 = 0) then (qP t now, (numB 0, false)) else (putB (qP t now) k ((fndB (qP t now) k).1.1, (0, (fndB (qP t now) k).1.2.2)), (numB 1, false))) (qP t now)).1, (wT (bif decide ((fndB (qP t now) k).1.2.1 = 0) then (qP t now, (numB 0, false)) else (putB (qP t now) k ((fndB (qP t now) k).1.1, (0, (fndB (qP t now) k).1.2.2)), (numB 1, false))) (qP t now)).2.1) := by
 rw [qcq ht hn (by rw [q2T]; decide +kernel) (by rw [q2T]; decide +kernel) (by rw [q2T, ar_1 (by decide +kernel)]; rfl), qew (q3c ht now) hn (by rw [q2T]; decide +kernel) (by rw [q2T]; decide +kernel) (by rw [q2T, ar_1 (by decide +kernel)]; rfl) (by rw [q2T]; decide +kernel), q2T]
 unfold keyD
 simp only [dYF q5i.1, dYF q5i.2.1, dYF q5i.2.2.1, dYF q5i.2.2.2.1, dYF q5i.2.2.2.2.1, dYF q5i.2.2.2.2.2, cF]
end
section
variable {k : BA} (hk : 1 <= k.size /\ k.size <= 20) (x : BA) (hx : x.size <= 60)
abbrev eT (k x : BA) (u : Int) : List DE := [(k, (2, (u, (eB, [x]))))]
include hk hx
theorem q7E {u : Int} (hu : 0 <= u /\ u <= 100000) : tabB (eT k x u) = true :=
 qmQ hk (qhN hu (by simp) (by simp) (fun s hs => by rw [List.mem_singleton] at hs; rw [hs]; exact hx))
theorem qmw {now n : Int} (hn : 0 <= now /\ now <= 90) (h1 : 1 <= n /\ n <= 50) : exeB (eT k x 0) now [yj, k, decB n] = (eT k x (now + n), numB 1) := by
 have hl : qP (eT k x 0) now = eT k x 0 := by rw [q8R]; rfl
 rw [qga (q7E hk x hx (by decide)) (by omega) k n (by omega) (by omega), hl]
 have : keyD (eT k x 0) now yj k [decB n] = (eT k x (now + n), (numB 1, false)) := by
  unfold keyD
  simp only [dYF q3H.1, dYF q3H.2.1, dYF q3H.2.2.1, dYF q3H.2.2.2, cF, decide_true, cT, show gi [decB n] 0 = decB n from rfl, qcm n (by omega) (by omega), Bool.not_true, qa3, dYF (show ¬ n <= 0 by omega), dYF (show ¬ now + n > 100000 by omega), qjv]
 rw [this, q8W (q7E hk x hx (by omega))]
theorem qmI {now u : Int} (hn : 0 <= now /\ now <= 100000) (hu : 0 <= u /\ u <= 100000) (h : u = 0 \/ now < u) : exeB (eT k x u) now [zZ, k] = (eT k x u, numB (if u = 0 then -1 else u - now)) := by
 have hl : qP (eT k x u) now = eT k x u := by
  rw [q8R]
  rcases h with h | h
  ·rw [dYT (show (2, (u, (eB, [x]))).2.1 = 0 from h)]; rfl
  ·rw [dYT (show now < (2, (u, (eB, [x]))).2.1 from h), Bool.or_true]; rfl
 rw [qlG (q7E hk x hx hu) hn k, hl, qa3]
 unfold q58
 by_cases h0 : u = 0
 ·rw [if_pos h0]; simp only [Bool.not_true, cF, dYT h0, cT]
 ·rw [if_neg h0]; simp only [Bool.not_true, cF, dYF h0]
theorem qid {now u : Int} (hn : 0 <= now /\ now <= 100000) (hu : 1 <= u /\ u <= 100000) : exeB (eT k x u) now [qZ, k] = bif decide (now < u) then (eT k x u, numB 1) else ([], numB 0) := by
 rw [ql0 (q7E hk x hx (by omega)) hn k, q8R]
 simp only [dYF (show ¬ u = 0 by omega), Bool.false_or]
 cases decide (now < u) with
 | true => simp only [cT, qa3]
 | false => rfl
theorem qlL {now u : Int} (hn : 0 <= now /\ now <= 100000) (hu : 1 <= u /\ u <= 100000) (h : now < u) : exeB (eT k x u) now [wZ, k] = (eT k x 0, numB 1) := by
 have hl : qP (eT k x u) now = eT k x u := by
  rw [q8R, dYT (show now < (2, (u, (eB, [x]))).2.1 from h), Bool.or_true]; rfl
 rw [qkm (q7E hk x hx (by omega)) hn k, hl, qa3]
 simp only [dYF (show ¬ u = 0 by omega), cF, qjv]
 rw [q8W (q7E hk x hx (by decide))]
theorem qnu {now : Int} (hn : 0 <= now /\ now <= 100000) : exeB (eT k x 0) now [yj, k, decB 0] = ([], numB 1) := by
 have hl : qP (eT k x 0) now = eT k x 0 := by rw [q8R]; rfl
 rw [qga (q7E hk x hx (by decide)) (by omega) k 0 (by omega) (by omega), hl]
 have : keyD (eT k x 0) now yj k [decB 0] = ([], (numB 1, false)) := by
  unfold keyD
  simp only [dYF q3H.1, dYF q3H.2.1, dYF q3H.2.2.1, dYF q3H.2.2.2, cF, decide_true, cT, show gi [decB 0] 0 = decB 0 from rfl, qcm 0 (by omega) (by omega), Bool.not_true, qa3, Int.le_refl, qlY]
 rw [this, q8W q2R]
end
theorem ql6 (k : BA) {now : Int} (hn : 0 <= now /\ now <= 100000) : exeB [] now [zZ, k] = ([], numB (-2)) := by
 rw [qlG q2R hn k]; rfl
end Go.Den.S
