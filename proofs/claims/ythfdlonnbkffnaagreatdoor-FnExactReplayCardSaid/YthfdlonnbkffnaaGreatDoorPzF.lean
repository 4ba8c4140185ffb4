/- PzF: equations of the functions of this seat as the executor tells them, or plain facts about them. Conditions: none here. -/
import Derived.Test.YthfdlonnbkffnaaGreatDoorPyB
import Derived.Test.YthfdlonnbkffnaaGreatDoorPzE
set_option linter.all false
namespace Go.Den.S
open Go Go.Den
theorem qix (a : List DE) (now : Int) (t : List BA) (hw : Wf (.sl qc) a) (ht : Wf (.sl .str) t) : q75 a now t = some (true, ()) := by
 rw [qao, qas a 1048576 (by omega) (by omega) (wf_t hw).1 (wf_t hw).2, oB]
 by_cases hn : szv (wT a) 1048576 < 0
 ·simp only [dYT hn, cT]
 ·obtain ⟨k5, k6⟩ := q6g hn
  simp only [dYF hn, cF]
  rw [k6, q9w t _ (by omega) (by omega) ht.1 ht.2, oB]
  by_cases hn2 : szv (wl ByteArray.size t) (1048576 - (wT a : Int)) < 0
  ·simp only [dYT hn2, cT]
  ·obtain ⟨k7, _⟩ := q6g hn2
   simp only [dYF hn2, cF]
   have hsa : Sm a := sm_w (by omega)
   have htl : t.length <= 1048576 := wN (f := ByteArray.size) (show wl ByteArray.size t <= 1048576 by omega)
   obtain ⟨hr1, hr2⟩ := qaV a now t (w_bd (by omega)) (show wl ByteArray.size t <= 1048576 by omega)
   have hsr : Sm (exeB a now t).1 := (qfe a now t).elim (fun e => by rw [e]; exact hsa) qev
   generalize exeB a now t = r at *
   have c1 := hsa.cnt
   have c2 := hsr.cnt
   have l1 := hsa.len
   have l2 := hsr.len
   simp only [qaz a hsa.len hsa.its, q9j t (by omega), oB, hr1, hr2, q2Z r.1 r.1 (by omega) hsr.its, q2Z a a (by omega) hsa.its, q6J t t (by omega), qG, decide_true, Bool.not_true, Bool.not_false, beq_self_eq_true, bne_self_eq_false, cT, cF,
    q1s a 1 (by omega) (by omega) (by omega), q5h t (1 + (cntE a : Int)) (by omega) (by omega), dYF (show ¬ (1 : Int) + (cntE a : Int) + (t.length : Int) < 0 by omega),
    q1s r.1 1 (by omega) (by omega) (by omega), q5M r.1 1 (by omega) (by omega) (by omega), dYF (show ¬ (1 : Int) + (cntE r.1 : Int) < 0 by omega)]
end Go.Den.S
