/- PvT: equations of the functions of this seat as the executor tells them, or plain facts about them. Conditions: none here. -/
import Derived.Test.YtbgaejnkjmjkhaaGreatDoorPvA
import Derived.Test.YtbgaejnkjmjkhaaGreatDoorPwD
set_option linter.all false
namespace Go.Den.S
open Go Go.Den
theorem kq : 1 <= c_q.size /\ c_q.size <= 20 := ⟨by decide, by decide⟩
theorem num0 : numB 0 = q9f := by
 unfold numB
 rw [show (0 : Int) = ((0 : Nat) : Int) from rfl, qbG 0 (by decide)]
 decide +kernel
theorem num1 : numB 1 = q1D := by
 unfold numB
 rw [show (1 : Int) = ((1 : Nat) : Int) from rfl, qbG 1 (by decide)]
 decide +kernel
theorem qoa : numB (-1) = q96 := by
 unfold numB
 rw [show (-1 : Int) = -((1 : Nat) : Int) from rfl, q8I 1 (by decide), Lib.decDigits, dif_pos (by decide)]
 decide +kernel
theorem qog : numB (-2) = q8T := by
 unfold numB
 rw [show (-2 : Int) = -((2 : Nat) : Int) from rfl, q8I 2 (by decide), Lib.decDigits, dif_pos (by decide)]
 decide +kernel
theorem dec0 : c_0 = decB 0 := by rw [show (0 : Int) = ((0 : Nat) : Int) from rfl, qbG 0 (by decide)]; decide +kernel
theorem qlw : qaS [c_a] = some (eT c_q c_a 0, ()) := by
 rw [qgW]
 simp only [List.length_singleton, qJ (show (0 + 1) * 16 <= 140737488355328 by omega), cT]
 rfl
theorem q7X {t : List DE} {now : Int} {args : List BA} {r : List DE × BA} (hb : tabB t = true) (hw : wB args <= 1048576) (h : exeB t now args = r) : ji t now args = some (r, ()) := by
 rw [(q8q t now args (wY hb) hw).2, h]
theorem qiH (code : List Int) : qbM code = some (true, ()) := by
 rw [qeN, q7e]
 by_cases hb : (code.length : Int) > 1048576
 ·simp only [oB, dYT hb, cT]
 obtain ⟨p, hP, hp12, hpm⟩ := qb1 code (by omega)
 have m0 := hpm (p.getD 0 0) (yg (by omega))
 have m1 := hpm (p.getD 1 0) (yg (by omega))
 have t0 := q6Y m0.1 (show (1 : Int) <= 90 by decide)
 have t1 := q6Y m1.1 (show (1 : Int) <= 50 by decide)
 have p0 : (decide ((0 : Int) <= 0) && decide (0 < (p.length : Int))) = true := by rw [hp12]; rfl
 have p1 : (decide ((0 : Int) <= 1) && decide (1 < (p.length : Int))) = true := by rw [hp12]; rfl
 simp only [oB, dYF hb, cF, hP, p0, p1, cT, qlw, Int.toNat_zero, Int.toNat_one]
 generalize Int.tmod (p.getD 0 0) 90 = now at t0 ⊢
 generalize Int.tmod (p.getD 1 0) 50 = k at t1 ⊢
 have w1 : w64 (1 + k) = 1 + k := ql (by omega) (by omega)
 rw [w1]
 obtain ⟨n, hn⟩ : ∃ n, n = 1 + k := ⟨_, rfl⟩
 rw [<- hn]
 have hn1 : 1 <= n /\ n <= 50 := by omega
 have w2 : w64 (now + n) = now + n := ql (by omega) (by omega)
 have w3 : w64 (now + n - 1) = now + n - 1 := ql (by omega) (by omega)
 have w4 : w64 (now + n + 9) = now + n + 9 := ql (by omega) (by omega)
 have hx : c_a.size <= 60 := by decide
 have hD := q0n n (by omega) (by omega)
 have T : ∀ u : Int, 0 <= u -> u <= 100000 -> tabB (eT c_q c_a u) = true := fun u h0 h1 => q7E kq c_a hx ⟨h0, h1⟩
 have wa : ∀ s : BA, s.size <= 60 -> wB [yj, c_q, s] <= 1048576 := fun s hs => wsm (by simp) fun x h => by
  simp only [List.mem_cons, List.not_mem_nil, or_false] at h
  rcases h with rfl | rfl | rfl
  ·decide
  ·decide
  ·omega
 have wb : wB [zZ, c_q] <= 1048576 /\ wB [qZ, c_q] <= 1048576 /\ wB [wZ, c_q] <= 1048576 := by
  refine ⟨?_, ?_, ?_⟩ <;> exact wsm (by decide) (fun s hs => by revert s; decide)
 have q1 := q7X (T 0 (by omega) (by omega)) (wa _ (by omega)) (qmw kq c_a hx (now := now) (n := n) (by omega) hn1)
 have q2 := q7X (T (now + n) (by omega) (by omega)) wb.1 (qmI kq c_a hx (now := now + n - 1) (u := now + n) (by omega) (by omega) (.inr (by omega)))
 rw [if_neg (show ¬ now + n = 0 by omega), show now + n - (now + n - 1) = 1 by omega] at q2
 have q3 := q7X (T (now + n) (by omega) (by omega)) wb.2.1 (qid kq c_a hx (now := now + n - 1) (u := now + n) (by omega) (by omega))
 rw [dYT (show now + n - 1 < now + n by omega), cT] at q3
 have q4 := q7X (T (now + n) (by omega) (by omega)) wb.2.1 (qid kq c_a hx (now := now + n) (u := now + n) (by omega) (by omega))
 rw [dYF (show ¬ now + n < now + n by omega), cF] at q4
 have q5 := q7X (T (now + n) (by omega) (by omega)) wb.2.2 (qlL kq c_a hx (now := now + n - 1) (u := now + n) (by omega) (by omega) (by omega))
 have q6 := q7X (T 0 (by omega) (by omega)) wb.1 (qmI kq c_a hx (now := now + n + 9) (u := 0) (by omega) (by omega) (.inl rfl))
 rw [if_pos rfl] at q6
 have q7 := q7X q2R wb.1 (ql6 c_q (now := now + n) (by omega))
 have q8 := q7X (T 0 (by omega) (by omega)) (wa _ (by rw [<- dec0]; decide)) (qnu kq c_a hx (now := now) (by omega))
 rw [<- dec0] at q8
 simp only [w2, w3, w4, jm n (by omega) (by omega), oB, q1, q2, q3, q4, q5, q6, q7, q8, qM, dYT num0, dYT num1, dYT qoa, dYT qog, cT, List.length_nil, show (((0 : Nat) : Int) == 0) = true from rfl]
 rw [qbR _ _ (by simp) (fun e he => by rw [List.mem_singleton] at he; subst he; simp)]
 simp only [decide_true, oB]
end Go.Den.S
