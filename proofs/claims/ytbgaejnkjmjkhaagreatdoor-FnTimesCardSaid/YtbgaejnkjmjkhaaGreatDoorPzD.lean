/- PzD: equations of the functions of this seat as the executor tells them, or plain facts about them. Conditions: none here. -/
import Derived.Test.YtbgaejnkjmjkhaaGreatDoorPzC
set_option linter.all false
namespace Go.Den.S
open Go Go.Den
theorem q0T (s : BA) : (y8 s).size = s.size + 3 := by
 unfold y8
 have e1 : (j6 : BA).size = 1 := rfl
 have e2 : (qB : BA).size = 2 := rfl
 simp only [ByteArray.size_append, e1, e2]; omega
theorem q6o (s : BA) : (q02 s).size = s.size + 3 := by
 unfold q02
 have e1 : (q0j : BA).size = 1 := rfl
 have e2 : (qB : BA).size = 2 := rfl
 simp only [ByteArray.size_append, e1, e2]; omega
theorem zx (n : Int) (h0 : -9000000000000000000 <= n) (h1 : n <= 9000000000000000000) : (numB n).size <= 23 := by
 unfold numB
 have e1 : (q1Z : BA).size = 1 := rfl
 have e2 : (qB : BA).size = 2 := rfl
 have := q0n n (by omega) (by omega)
 simp only [ByteArray.size_append, e1, e2]; omega
theorem qir (xs : List Int) : (q4Y xs).size = xs.length := by
 show (xs.map _).toArray.size = _
 simp
theorem qg0 (l : List BA) (hl : l.length <= 1000000000000) : (arrB l).size <= 23 + (l.map ByteArray.size).sum := by
 unfold arrB
 have e1 : (q1f : BA).size = 1 := rfl
 have e2 : (qB : BA).size = 2 := rfl
 have := q0n (l.length : Int) (by omega) (by omega)
 rw [qir, List.length_append, q7K, qlW]
 simp only [ByteArray.size_append, e1, e2]; omega
theorem qkP (l : List BA) (n : Nat) (h : ∀ s ∈ l, s.size <= n) : (l.map ByteArray.size).sum <= n * l.length := by
 induction l with
 | nil => simp
 | cons x r ih =>
  have h1 := h x (List.mem_cons_self ..)
  have h2 := ih fun s hs => h s (List.mem_cons_of_mem _ hs)
  simp only [List.map_cons, List.sum_cons, List.length_cons, Nat.mul_add, Nat.mul_one]; omega
theorem q6a (l : List BA) (n : Nat) (hl : l.length <= 10000000) (hn : n <= 90) (h : ∀ s ∈ l, s.size <= n) : (arrB (l.map zO)).size <= 23 + 120 * l.length := by
 have h1 := qg0 (l.map zO) (by rw [List.length_map]; omega)
 have h2 := qkP (l.map zO) 120 fun s hs => by
  obtain ⟨x, hx, rfl⟩ := List.mem_map.1 hs
  have := q5h x (by have := h x hx; omega)
  have := h x hx
  omega
 rw [List.length_map] at h2
 omega
theorem qkw : (y8 yK).size <= 30 := by rw [q0T]; decide
theorem q7A (d : DD) (t : List DE) (n : Nat) (hn : 30 <= n) (h : d.2.1.size <= n) : (wT d t).2.1.size <= n := by
 unfold wT
 have := qkw
 cases d.2.2 with
 | true => exact h
 | false =>
  cases tabB d.1 with
  | true => exact h
  | false =>
   simp only [cF]
   omega
theorem q9D (d : DD) (t : List DE) : (wT d t).2.2 = true := by
 unfold wT
 cases d.2.2 with
 | true => rfl
 | false => cases tabB d.1 <;> rfl
theorem qfj {l : List BA} {n : Nat} (h : ∀ s ∈ l, s.size <= n) (i : Nat) : (gi l i).size <= n := by
 by_cases hlt : i < l.length
 ·exact h _ (yg hlt)
 ·rw [show gi l i = eB from by unfold gi; rw [List.getD_eq_getElem?_getD, List.getElem?_eq_none (by omega)]; rfl]
  exact Nat.zero_le _
section
variable (t : List DE) (ht : tabB t = true) (k : BA) (vals : List BA) (hv : vals.length <= 2097152)
include ht hv
theorem ql8 (u : BA) (hw4 : qL t k 4 = false -> True) : (setD t u k vals).2.1.size <= 100000 := by
 obtain ⟨b1, b2, b3⟩ := q04 (k := k) ht
 unfold setD
 cases hw : qL t k 4 with
 | true => simp only [cT]; rw [q0T]; decide
 | false =>
  have ha := qbZ ht hw
  obtain ⟨_, c1, c2⟩ := @q56 [] vals _ ha
  have c3 := qco (undB t k).2.2 vals
  simp only [cF]
  cases decide (u = jP) with
  | true => simp only [cT]; have := zx (((jy (undB t k).2.2 vals).length : Int) - ((undB t k).2.2.length : Int)) (by omega) (by omega); omega
  | false =>
   simp only [cF]
   cases decide (u = q0d) with
   | true => simp only [cT]; have := zx (((undB t k).2.2.length : Int) - ((q15 (undB t k).2.2 vals).length : Int)) (by omega) (by omega); omega
   | false =>
    simp only [cF]
    cases decide (u = wD) with
    | true =>
     simp only [cT]
     have : (numB (bif memB (gi vals 0) (undB t k).2.2 then 1 else 0)).size <= 23 := by
      cases memB (gi vals 0) (undB t k).2.2 <;> exact zx _ (by decide) (by decide)
     omega
    | false =>
     simp only [cF]
     cases decide (u = q0a) with
     | true => simp only [cT]; have := zx ((undB t k).2.2.length : Int) (by omega) (by omega); omega
     | false => simp only [cF]; have := q6a (undB t k).2.2 60 (by omega) (by omega) b3; omega
theorem qlq (u : BA) : (fldD t u k vals).2.1.size <= 100000 := by
 obtain ⟨b1, b2, b3⟩ := q04 (k := k) ht
 unfold fldD
 cases hw : qL t k 3 with
 | true => simp only [cT]; rw [q0T]; decide
 | false =>
  obtain ⟨P, hP, hA, hp⟩ := q8k ht hw
  have c3 := (q30 vals hA).2
  simp only [cF, hP, q6B]
  rw [hP] at b1 b3
  cases decide (u = jG) with
  | true =>
   simp only [cT]
   have : (numB (bif hasF P (gi vals 0) then 0 else 1)).size <= 23 := by
    cases hasF P (gi vals 0) <;> exact zx _ (by decide) (by decide)
   omega
  | false =>
   simp only [cF]
   cases decide (u = jQ) with
   | true =>
    simp only [cT]
    have hn : (nilR : BA).size <= 100000 := by decide
    cases hasF P (gi vals 0) with
    | false => exact hn
    | true =>
     simp only [cT]
     have hz : (gi (qy P) (posF P (gi vals 0) * 2 + 1)).size <= 60 := qfj b3 _
     have := q5h (gi (qy P) (posF P (gi vals 0) * 2 + 1)) (by omega)
     omega
   | false =>
    simp only [cF]
    cases decide (u = q0I) with
    | true => simp only [cT]; have := zx ((P.length : Int) - ((q0G P vals).length : Int)) (by omega) (by omega); omega
    | false =>
     simp only [cF]
     cases decide (u = q1P) with
     | true => simp only [cT]; have := zx (P.length : Int) (by omega) (by omega); omega
     | false =>
      simp only [cF]
      cases decide (u = jM) with
      | true => simp only [cT]; have := q6a (qy P) 60 (by omega) (by omega) b3; omega
      | false =>
       simp only [cF]
       have hk : (q0P P).length = P.length := List.length_map ..
       have := q6a (q0P P) 60 (by omega) (by omega) (fun s hs => b3 s (qby hs))
       omega
theorem qlf (u : BA) : (lstD t u k vals).2.1.size <= 100000 := by
 obtain ⟨b1, b2, b3⟩ := q04 (k := k) ht
 have b4 : ∀ i, (zO (gi (undB t k).2.2 i)).size <= 90 := fun i => by
  have h1 := qfj b3 i
  have := q5h (gi (undB t k).2.2 i) (by omega)
  omega
 have hn : (nilR : BA).size <= 90 := by decide
 have hf : ∀ c : BA, c.size <= 100 -> (y8 c).size <= 103 := fun c h => by rw [q0T]; omega
 unfold lstD
 cases hw : qL t k 2 with
 | true => simp only [cT]; have := hf yA (by decide); omega
 | false =>
  simp only [cF]
  cases decide (u = zN) with
  | true => simp only [cT]; have := zx (((vals.reverse ++ (undB t k).2.2).length : Nat) : Int) (by omega) (by simp only [List.length_append, List.length_reverse]; omega); omega
  | false =>
   simp only [cF]
   cases decide (u = zP) with
   | true => simp only [cT]; have := zx ((((undB t k).2.2 ++ vals).length : Nat) : Int) (by omega) (by simp only [List.length_append]; omega); omega
   | false =>
    simp only [cF]
    cases decide (u = q2o) with
    | true =>
     simp only [cT]
     have := b4 0
     cases decide ((undB t k).2.2 = []) <;> simp only [cT, cF] <;> omega
    | false =>
     simp only [cF]
     cases decide (u = q1n) with
     | true =>
      simp only [cT]
      have := b4 ((undB t k).2.2.length - 1)
      cases decide ((undB t k).2.2 = []) <;> simp only [cT, cF] <;> omega
     | false =>
      simp only [cF]
      cases decide (u = q1O) with
      | true => simp only [cT]; have := zx ((undB t k).2.2.length : Int) (by omega) (by omega); omega
      | false =>
       simp only [cF]
       have hi := hf qQ (by decide)
       cases decide (u = zu) with
       | true =>
        simp only [cT]
        cases (rdI (gi vals 0)).2 with
        | false => simp only [Bool.not_false, cT]; omega
        | true =>
         simp only [Bool.not_true, cF]
         unfold idxR
         dsimp only
         generalize (if (rdI (gi vals 0)).1 < 0 then (rdI (gi vals 0)).1 + ((undB t k).2.2.length : Int) else (rdI (gi vals 0)).1) = i
         split
         ·have := b4 i.toNat; omega
         ·omega
       | false =>
        simp only [cF]
        cases (rdI (gi vals 0)).2 with
        | false => simp only [Bool.not_false, cT]; omega
        | true =>
         simp only [Bool.not_true, cF]
         cases (rdI (gi vals 1)).2 with
         | false => simp only [Bool.not_false, cT]; omega
         | true =>
          simp only [Bool.not_true, cF]
          have hl : ∀ p, (cutL (undB t k).2.2 p).length <= 24 := fun p => by unfold cutL; rw [List.length_take, List.length_drop]; omega
          have hl' := hl (bndB (rdI (gi vals 0)).1 (rdI (gi vals 1)).1 ((undB t k).2.2.length : Int))
          have := q6a (cutL (undB t k).2.2 (bndB (rdI (gi vals 0)).1 (rdI (gi vals 1)).1 ((undB t k).2.2.length : Int))) 60 (by omega) (by omega) (fun s hs => b3 s (by unfold cutL at hs; exact List.mem_of_mem_drop (List.mem_of_mem_take hs)))
          omega
theorem qkR (by_ : Int) (h1 : -1000000000 <= by_ /\ by_ <= 1000000000) : (cntD t k by_).2.1.size <= 1000 := by
 have hf : ∀ c : BA, c.size <= 100 -> (y8 c).size <= 103 := fun c h => by rw [q0T]; omega
 have hi := hf qQ (by decide)
 have hm := hf yK (by decide)
 unfold cntD
 dsimp only
 generalize (bif (fndB t k).2 then rdI (undB t k).2.1 else (0, true)) = r
 cases r.2 with
 | false => simp only [Bool.not_false, cT]; omega
 | true =>
  simp only [Bool.not_true, cF]
  cases hin : (decide (-1000000000 <= r.1 + by_) && decide (r.1 + by_ <= 1000000000)) with
  | false => simp only [Bool.not_false, cT]; omega
  | true =>
   simp only [Bool.and_eq_true, decide_eq_true_eq] at hin
   simp only [Bool.not_true, cF]
   have := zx (r.1 + by_) (by omega) (by omega)
   omega
theorem qls (u : BA) (hs : ∀ s ∈ vals, s.size <= 4194304) : (txtD t u k vals).2.1.size <= 100000 := by
 obtain ⟨b1, b2, b3⟩ := q04 (k := k) ht
 have hf : ∀ c : BA, c.size <= 100 -> (y8 c).size <= 103 := fun c h => by rw [q0T]; omega
 have hw' := hf yA (by decide)
 have hi := hf qQ (by decide)
 have hok : (q02 c_OK).size <= 100 := by rw [q6o]; decide
 have hr := qgo (fndB t k).1 (fndB t k).2 (qjK t ht k)
 unfold txtD
 cases decide (u = q0x) with
 | true => simp only [cT]; omega
 | false =>
  simp only [cF]
  cases decide (u = j4) with
  | true =>
   simp only [cT]
   have n0 := zx 0 (by decide) (by decide)
   have n1 := zx 1 (by decide) (by decide)
   cases (fndB t k).2 <;> simp only [cT, cF] <;> omega
  | false =>
   simp only [cF]
   cases qL t k 1 with
   | true => simp only [cT]; omega
   | false =>
    simp only [cF]
    cases decide (u = jC) with
    | true => simp only [cT]; omega
    | false =>
     simp only [cF]
     cases decide (u = zw) with
     | true => simp only [cT]; omega
     | false =>
      simp only [cF]
      cases decide (u = zn) with
      | true =>
       simp only [cT]
       have := qfj hs 0
       have := zx (((undB t k).2.1 ++ gi vals 0).size : Int) (by omega) (by rw [ByteArray.size_append]; omega)
       omega
      | false =>
       simp only [cF]
       cases decide (u = yT) with
       | true => simp only [cT]; have := zx ((undB t k).2.1.size : Int) (by omega) (by omega); omega
       | false =>
        simp only [cF]
        cases (byB u vals).2 with
        | false => simp only [Bool.not_false, cT]; omega
        | true =>
         simp only [Bool.not_true, cF]
         have := qkR t ht k vals hv (byB u vals).1 (qk7 u vals)
         omega
theorem ql3 (now : Int) (hnow : 0 <= now /\ now <= 100000) (u : BA) (hk : k.size <= 4194304) : (keyD t now u k vals).2.1.size <= 10000000 := by
 have hf : ∀ c : BA, c.size <= 100 -> (y8 c).size <= 103 := fun c h => by rw [q0T]; omega
 have hi := hf qQ (by decide)
 have hm := hf yK (by decide)
 have n0 := zx 0 (by decide) (by decide)
 have n1 := zx 1 (by decide) (by decide)
 have ok2 : Ok2 t := ⟨wY ht, q1J ht⟩
 unfold keyD
 dsimp only
 cases decide (u = zD) with
 | true => simp only [cT]; have := q5h k (by omega); omega
 | false =>
  simp only [cF]
  cases decide (u = wG) with
  | true =>
   simp only [cT]
   obtain ⟨q1, q2, _⟩ := q57 true (k :: vals) (0, t) ok2
   simp only [List.length_cons] at q1 q2
   have := zx ((k :: vals).foldl (cntK true) (0, t)).1 (by omega) (by omega)
   omega
  | false =>
   simp only [cF]
   cases decide (u = qZ) with
   | true =>
    simp only [cT]
    obtain ⟨q1, q2, _⟩ := q57 false (k :: vals) (0, t) ok2
    simp only [List.length_cons] at q1 q2
    have := zx ((k :: vals).foldl (cntK false) (0, t)).1 (by omega) (by omega)
    omega
   | false =>
    simp only [cF]
    cases decide (u = jr) with
    | true => simp only [cT]; rw [q6o]; have := qcW (fndB t k).1.1; omega
    | false =>
     simp only [cF]
     cases decide (u = yj) with
     | true =>
      simp only [cT]
      cases (rdI (gi vals 0)).2 <;> simp only [Bool.not_true, Bool.not_false, cT, cF] <;> try omega
      cases (fndB t k).2 <;> simp only [Bool.not_true, Bool.not_false, cT, cF] <;> try omega
      cases decide ((rdI (gi vals 0)).1 <= 0) <;> simp only [cT, cF] <;> try omega
      cases decide (now + (rdI (gi vals 0)).1 > 100000) <;> simp only [cT, cF] <;> omega
     | false =>
      simp only [cF]
      cases decide (u = zZ) with
      | true =>
       simp only [cT]
       have hl : -1000000 <= q58 (fndB t k).1 (fndB t k).2 now /\ q58 (fndB t k).1 (fndB t k).2 now <= 1000000 := by
        unfold q58
        cases hfd : (fndB t k).2 with
        | false => simp only [Bool.not_false, cT]; omega
        | true =>
         obtain ⟨v1, _⟩ := q5T ht hfd
         obtain ⟨_, v2, v3⟩ := q8K v1
         simp only [Bool.not_true, cF]
         cases decide ((fndB t k).1.2.1 = 0) <;> simp only [cT, cF] <;> omega
       have := zx (q58 (fndB t k).1 (fndB t k).2 now) (by omega) (by omega)
       omega
      | false =>
       simp only [cF]
       cases decide ((fndB t k).1.2.1 = 0) <;> simp only [cT, cF] <;> omega
end
theorem qiw (t : List DE) (args : List BA) (ha : wB args <= 1048576) : (jZ t args).2.1.size <= 1000000000 := by
 have hl : args.length <= 1048576 := q0p ha
 unfold jZ
 cases hp : isB t args setN with
 | false => exact Nat.zero_le _
 | true =>
  unfold isB at hp
  simp only [Bool.and_eq_true] at hp
  refine q7A _ _ _ (by omega) ?_
  match args with
  | a :: k :: vals => simp only [List.length_cons] at hl; have := ql8 t hp.1 k vals (by omega) (upB a) (fun _ => trivial); show (setD t (upB a) k vals).2.1.size <= _; omega
  | [] => exact Nat.zero_le _
  | [a] => exact Nat.zero_le _
theorem qgx (t : List DE) (args : List BA) (ha : wB args <= 1048576) : (zL t args).2.1.size <= 1000000000 := by
 have hl : args.length <= 1048576 := q0p ha
 unfold zL
 cases hp : isB t args fldN with
 | false => exact Nat.zero_le _
 | true =>
  unfold isB at hp
  simp only [Bool.and_eq_true] at hp
  refine q7A _ _ _ (by omega) ?_
  match args with
  | a :: k :: vals => simp only [List.length_cons] at hl; have := qlq t hp.1 k vals (by omega) (upB a); show (fldD t (upB a) k vals).2.1.size <= _; omega
  | [] => exact Nat.zero_le _
  | [a] => exact Nat.zero_le _
theorem qie (t : List DE) (args : List BA) (ha : wB args <= 1048576) : (jg t args).2.1.size <= 1000000000 := by
 have hl : args.length <= 1048576 := q0p ha
 unfold jg
 cases hp : isB t args lstN with
 | false => exact Nat.zero_le _
 | true =>
  unfold isB at hp
  simp only [Bool.and_eq_true] at hp
  refine q7A _ _ _ (by omega) ?_
  match args with
  | a :: k :: vals => simp only [List.length_cons] at hl; have := qlf t hp.1 k vals (by omega) (upB a); show (lstD t (upB a) k vals).2.1.size <= _; omega
  | [] => exact Nat.zero_le _
  | [a] => exact Nat.zero_le _
theorem qih (t : List DE) (args : List BA) (ha : wB args <= 1048576) : (jl t args).2.1.size <= 1000000000 := by
 have hl : args.length <= 1048576 := q0p ha
 have hs : ∀ s ∈ args, s.size <= 1048576 := fun s hs => q2t ha hs
 unfold jl
 cases hp : isB t args txtN with
 | false => exact Nat.zero_le _
 | true =>
  unfold isB at hp
  simp only [Bool.and_eq_true] at hp
  refine q7A _ _ _ (by omega) ?_
  match args with
  | [] => exact Nat.zero_le _
  | a :: r =>
   simp only [List.length_cons] at hl
   dsimp only
   cases decide (upB a = ze) with
   | true =>
    have h1 := qh7 t hp.1 r (by omega)
    have h2 : (q2G t r).length <= 100000000 := q0p h1
    have h3 : ((q2G t r).map ByteArray.size).sum <= 100000000 := by unfold wB wl at h1; omega
    have := qg0 (q2G t r) (by omega)
    show (arrB (q2G t r)).size <= _
    omega
   | false =>
    cases decide (upB a = w9) with
    | true => show (q02 c_OK).size <= _; rw [q6o]; decide
    | false =>
     match r with
     | [] => exact Nat.zero_le _
     | k :: vals => simp only [List.length_cons] at hl; have := qls t hp.1 k vals (by omega) (upB a) (fun s h => by have := hs s (List.mem_cons_of_mem _ (List.mem_cons_of_mem _ h)); omega); show (txtD t (upB a) k vals).2.1.size <= _; omega
theorem qiD (t : List DE) (now : Int) (args : List BA) (ha : wB args <= 1048576) : (q1H t now args).2.1.size <= 1000000000 := by
 have hl : args.length <= 1048576 := q0p ha
 have hs : ∀ s ∈ args, s.size <= 1048576 := fun s hs => q2t ha hs
 unfold q1H
 cases hp : ((decide (0 <= now) && decide (now <= 100000)) && isB t args keyN) with
 | false => exact Nat.zero_le _
 | true =>
  unfold isB at hp
  simp only [Bool.and_eq_true, decide_eq_true_eq] at hp
  refine q7A _ _ _ (by omega) ?_
  match args with
  | [] => exact Nat.zero_le _
  | a :: r =>
   simp only [List.length_cons] at hl
   obtain ⟨z1, z2⟩ := qcX hp.2.1
   have hlt := q0o hp.2.1
   dsimp only
   cases decide (upB a = wX) with
   | true => show (q02 q5t).size <= _; rw [q6o]; decide
   | false =>
    cases decide (upB a = zo) with
    | true => have := q6a (q2X t) 60 (by omega) (by omega) z2; show (arrB ((q2X t).map zO)).size <= _; omega
    | false =>
     cases decide (upB a = yS) with
     | true => have := zx (t.length : Int) (by omega) (by omega); show (numB (t.length : Int)).size <= _; omega
     | false =>
      cases decide (upB a = yF) with
      | true => show (q02 c_OK).size <= _; rw [q6o]; decide
      | false =>
       match r with
       | [] => exact Nat.zero_le _
       | k :: vals =>
        simp only [List.length_cons] at hl
        have := ql3 t hp.2.1 k vals (by omega) now hp.1 (upB a) (by have := hs k (List.mem_cons_of_mem _ (List.mem_cons_self ..)); omega)
        show (keyD t now (upB a) k vals).2.1.size <= _
        omega
end Go.Den.S
