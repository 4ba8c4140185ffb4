/- PzD: equations of the functions of this seat as the executor tells them, or plain facts about them. Conditions: none here. -/
import Derived.Test.YthfdlonnbkffnaaGreatDoorPzC
set_option linter.all false
namespace Go.Den.S
open Go Go.Den
theorem q0v (s : BA) : (yw s).size = s.size + 3 := by
 unfold yw
 have e1 : (zJ : BA).size = 1 := rfl
 have e2 : (qy : BA).size = 2 := rfl
 simp only [ByteArray.size_append, e1, e2]; omega
theorem q6W (s : BA) : (jR s).size = s.size + 3 := by
 unfold jR
 have e1 : (jQ : BA).size = 1 := rfl
 have e2 : (qy : BA).size = 2 := rfl
 simp only [ByteArray.size_append, e1, e2]; omega
theorem wS (n : Int) (h0 : -9000000000000000000 <= n) (h1 : n <= 9000000000000000000) : (numB n).size <= 23 := by
 unfold numB
 have e1 : (q1K : BA).size = 1 := rfl
 have e2 : (qy : BA).size = 2 := rfl
 have := q1N n (by omega) (by omega)
 simp only [ByteArray.size_append, e1, e2]; omega
theorem qih (xs : List Int) : (qco xs).size = xs.length := by
 show (xs.map _).toArray.size = _
 simp
theorem qfY (l : List BA) (hl : l.length <= 1000000000000) : (arrB l).size <= 23 + (l.map ByteArray.size).sum := by
 unfold arrB
 have e1 : (q0T : BA).size = 1 := rfl
 have e2 : (qy : BA).size = 2 := rfl
 have := q1N (l.length : Int) (by omega) (by omega)
 rw [qih, List.length_append, q83, qlG]
 simp only [ByteArray.size_append, e1, e2]; omega
theorem qkM (l : List BA) (n : Nat) (h : ∀ s ∈ l, s.size <= n) : (l.map ByteArray.size).sum <= n * l.length := by
 induction l with
 | nil => simp
 | cons x r ih =>
  have h1 := h x (List.mem_cons_self ..)
  have h2 := ih fun s hs => h s (List.mem_cons_of_mem _ hs)
  simp only [List.map_cons, List.sum_cons, List.length_cons, Nat.mul_add, Nat.mul_one]; omega
theorem q6R (l : List BA) (n : Nat) (hl : l.length <= 10000000) (hn : n <= 90) (h : ∀ s ∈ l, s.size <= n) : (arrB (l.map zG)).size <= 23 + 120 * l.length := by
 have h1 := qfY (l.map zG) (by rw [List.length_map]; omega)
 have h2 := qkM (l.map zG) 120 fun s hs => by
  obtain ⟨x, hx, rfl⟩ := List.mem_map.1 hs
  have := q57 x (by have := h x hx; omega)
  have := h x hx
  omega
 rw [List.length_map] at h2
 omega
theorem qjB : (yw yx).size <= 30 := by rw [q0v]; decide
theorem q8a (d : DD) (t : List DE) (n : Nat) (hn : 30 <= n) (h : d.2.1.size <= n) : (zX d t).2.1.size <= n := by
 unfold zX
 have := qjB
 cases d.2.2 with
 | true => exact h
 | false =>
  cases tabB d.1 with
  | true => exact h
  | false =>
   simp only [cF]
   omega
theorem qfi {l : List BA} {n : Nat} (h : ∀ s ∈ l, s.size <= n) (i : Nat) : (gi l i).size <= n := by
 by_cases hlt : i < l.length
 ·exact h _ (yg hlt)
 ·rw [show gi l i = eB from by unfold gi; rw [List.getD_eq_getElem?_getD, List.getElem?_eq_none (by omega)]; rfl]
  exact Nat.zero_le _
section
variable (t : List DE) (ht : tabB t = true) (k : BA) (vals : List BA) (hv : vals.length <= 2097152)
include ht hv
theorem qkv (u : BA) (hw4 : qH t k 4 = false -> True) : (setD t u k vals).2.1.size <= 100000 := by
 obtain ⟨b1, b2, b3⟩ := jE (k := k) ht
 unfold setD
 cases hw : qH t k 4 with
 | true => simp only [cT]; rw [q0v]; decide
 | false =>
  have ha := qcD ht hw
  obtain ⟨_, c1, c2⟩ := @q5d [] vals _ ha
  have c3 := qcB (undB t k).2.2 vals
  simp only [cF]
  cases decide (u = jK) with
  | true => simp only [cT]; have := wS (((zT (undB t k).2.2 vals).length : Int) - ((undB t k).2.2.length : Int)) (by omega) (by omega); omega
  | false =>
   simp only [cF]
   cases decide (u = q02) with
   | true => simp only [cT]; have := wS (((undB t k).2.2.length : Int) - ((q0B (undB t k).2.2 vals).length : Int)) (by omega) (by omega); omega
   | false =>
    simp only [cF]
    cases decide (u = wz) with
    | true =>
     simp only [cT]
     have : (numB (bif memB (gi vals 0) (undB t k).2.2 then 1 else 0)).size <= 23 := by
      cases memB (gi vals 0) (undB t k).2.2 <;> exact wS _ (by decide) (by decide)
     omega
    | false =>
     simp only [cF]
     cases decide (u = jW) with
     | true => simp only [cT]; have := wS ((undB t k).2.2.length : Int) (by omega) (by omega); omega
     | false => simp only [cF]; have := q6R (undB t k).2.2 60 (by omega) (by omega) b3; omega
theorem qkF (u : BA) : (fldD t u k vals).2.1.size <= 100000 := by
 obtain ⟨b1, b2, b3⟩ := jE (k := k) ht
 unfold fldD
 cases hw : qH t k 3 with
 | true => simp only [cT]; rw [q0v]; decide
 | false =>
  obtain ⟨P, hP, hA, hp⟩ := q90 ht hw
  have c3 := (q2V vals hA).2
  simp only [cF, hP, q6V]
  rw [hP] at b1 b3
  cases decide (u = jH) with
  | true =>
   simp only [cT]
   have : (numB (bif hasF P (gi vals 0) then 0 else 1)).size <= 23 := by
    cases hasF P (gi vals 0) <;> exact wS _ (by decide) (by decide)
   omega
  | false =>
   simp only [cF]
   cases decide (u = jL) with
   | true =>
    simp only [cT]
    have hn : (nilR : BA).size <= 100000 := by decide
    cases hasF P (gi vals 0) with
    | false => exact hn
    | true =>
     simp only [cT]
     have hz : (gi (qB P) (posF P (gi vals 0) * 2 + 1)).size <= 60 := qfi b3 _
     have := q57 (gi (qB P) (posF P (gi vals 0) * 2 + 1)) (by omega)
     omega
   | false =>
    simp only [cF]
    cases decide (u = q0H) with
    | true => simp only [cT]; have := wS ((P.length : Int) - ((q0j P vals).length : Int)) (by omega) (by omega); omega
    | false =>
     simp only [cF]
     cases decide (u = q2m) with
     | true => simp only [cT]; have := wS (P.length : Int) (by omega) (by omega); omega
     | false =>
      simp only [cF]
      cases decide (u = jC) with
      | true => simp only [cT]; have := q6R (qB P) 60 (by omega) (by omega) b3; omega
      | false =>
       simp only [cF]
       have hk : (q4u P).length = P.length := List.length_map ..
       have := q6R (q4u P) 60 (by omega) (by omega) (fun s hs => b3 s (qbP hs))
       omega
theorem qkq (u : BA) : (lstD t u k vals).2.1.size <= 100000 := by
 obtain ⟨b1, b2, b3⟩ := jE (k := k) ht
 have b4 : ∀ i, (zG (gi (undB t k).2.2 i)).size <= 90 := fun i => by
  have h1 := qfi b3 i
  have := q57 (gi (undB t k).2.2 i) (by omega)
  omega
 have hn : (nilR : BA).size <= 90 := by decide
 have hf : ∀ c : BA, c.size <= 100 -> (yw c).size <= 103 := fun c h => by rw [q0v]; omega
 unfold lstD
 cases hw : qH t k 2 with
 | true => simp only [cT]; have := hf y5 (by decide); omega
 | false =>
  simp only [cF]
  cases decide (u = zH) with
  | true => simp only [cT]; have := wS (((vals.reverse ++ (undB t k).2.2).length : Nat) : Int) (by omega) (by simp only [List.length_append, List.length_reverse]; omega); omega
  | false =>
   simp only [cF]
   cases decide (u = zF) with
   | true => simp only [cT]; have := wS ((((undB t k).2.2 ++ vals).length : Nat) : Int) (by omega) (by simp only [List.length_append]; omega); omega
   | false =>
    simp only [cF]
    cases decide (u = q2a) with
    | true =>
     simp only [cT]
     have := b4 0
     cases decide ((undB t k).2.2 = []) <;> simp only [cT, cF] <;> omega
    | false =>
     simp only [cF]
     cases decide (u = q0Z) with
     | true =>
      simp only [cT]
      have := b4 ((undB t k).2.2.length - 1)
      cases decide ((undB t k).2.2 = []) <;> simp only [cT, cF] <;> omega
     | false =>
      simp only [cF]
      cases decide (u = q2i) with
      | true => simp only [cT]; have := wS ((undB t k).2.2.length : Int) (by omega) (by omega); omega
      | false =>
       simp only [cF]
       have hi := hf qL (by decide)
       cases decide (u = zn) with
       | true =>
        simp only [cT]
        cases (rdI (gi vals 0)).2 with
        | false => simp only [Bool.not_false, cT]; omega
        | true =>
         simp only [Bool.not_true, cF]
         unfold idxR
         dsimp only
         generalize (if (rdI (gi vals 0)).1 < 0 then (rdI (gi vals 0)).1 + ((undB t k).2.2.length : Int) else (rdI (gi vals 0)).1) = i
         split
         ·have := b4 i.toNat; omega
         ·omega
       | false =>
        simp only [cF]
        cases (rdI (gi vals 0)).2 with
        | false => simp only [Bool.not_false, cT]; omega
        | true =>
         simp only [Bool.not_true, cF]
         cases (rdI (gi vals 1)).2 with
         | false => simp only [Bool.not_false, cT]; omega
         | true =>
          simp only [Bool.not_true, cF]
          have hl : ∀ p, (cutL (undB t k).2.2 p).length <= 24 := fun p => by unfold cutL; rw [List.length_take, List.length_drop]; omega
          have hl' := hl (bndB (rdI (gi vals 0)).1 (rdI (gi vals 1)).1 ((undB t k).2.2.length : Int))
          have := q6R (cutL (undB t k).2.2 (bndB (rdI (gi vals 0)).1 (rdI (gi vals 1)).1 ((undB t k).2.2.length : Int))) 60 (by omega) (by omega) (fun s hs => b3 s (by unfold cutL at hs; exact List.mem_of_mem_drop (List.mem_of_mem_take hs)))
          omega
theorem qkR (by_ : Int) (h1 : -1000000000 <= by_ /\ by_ <= 1000000000) : (cntD t k by_).2.1.size <= 1000 := by
 have hf : ∀ c : BA, c.size <= 100 -> (yw c).size <= 103 := fun c h => by rw [q0v]; omega
 have hi := hf qL (by decide)
 have hm := hf yx (by decide)
 unfold cntD
 dsimp only
 generalize (bif (fndB t k).2 then rdI (undB t k).2.1 else (0, true)) = r
 cases r.2 with
 | false => simp only [Bool.not_false, cT]; omega
 | true =>
  simp only [Bool.not_true, cF]
  cases hin : (decide (-1000000000 <= r.1 + by_) && decide (r.1 + by_ <= 1000000000)) with
  | false => simp only [Bool.not_false, cT]; omega
  | true =>
   simp only [Bool.and_eq_true, decide_eq_true_eq] at hin
   simp only [Bool.not_true, cF]
   have := wS (r.1 + by_) (by omega) (by omega)
   omega
theorem qkB (u : BA) (hs : ∀ s ∈ vals, s.size <= 4194304) : (txtD t u k vals).2.1.size <= 100000 := by
 obtain ⟨b1, b2, b3⟩ := jE (k := k) ht
 have hf : ∀ c : BA, c.size <= 100 -> (yw c).size <= 103 := fun c h => by rw [q0v]; omega
 have hw' := hf y5 (by decide)
 have hi := hf qL (by decide)
 have hok : (jR c_OK).size <= 100 := by rw [q6W]; decide
 have hr := qgc (fndB t k).1 (fndB t k).2 (qka t ht k)
 unfold txtD
 cases decide (u = q0L) with
 | true => simp only [cT]; omega
 | false =>
  simp only [cF]
  cases decide (u = zN) with
  | true =>
   simp only [cT]
   have n0 := wS 0 (by decide) (by decide)
   have n1 := wS 1 (by decide) (by decide)
   cases (fndB t k).2 <;> simp only [cT, cF] <;> omega
  | false =>
   simp only [cF]
   cases qH t k 1 with
   | true => simp only [cT]; omega
   | false =>
    simp only [cF]
    cases decide (u = jr) with
    | true => simp only [cT]; omega
    | false =>
     simp only [cF]
     cases decide (u = z8) with
     | true => simp only [cT]; omega
     | false =>
      simp only [cF]
      cases decide (u = za) with
      | true =>
       simp only [cT]
       have := qfi hs 0
       have := wS (((undB t k).2.1 ++ gi vals 0).size : Int) (by omega) (by rw [ByteArray.size_append]; omega)
       omega
      | false =>
       simp only [cF]
       cases decide (u = yM) with
       | true => simp only [cT]; have := wS ((undB t k).2.1.size : Int) (by omega) (by omega); omega
       | false =>
        simp only [cF]
        cases (byB u vals).2 with
        | false => simp only [Bool.not_false, cT]; omega
        | true =>
         simp only [Bool.not_true, cF]
         have := qkR t ht k vals hv (byB u vals).1 (qk4 u vals)
         omega
theorem qkY (now : Int) (hnow : 0 <= now /\ now <= 100000) (u : BA) (hk : k.size <= 4194304) : (keyD t now u k vals).2.1.size <= 10000000 := by
 have hf : ∀ c : BA, c.size <= 100 -> (yw c).size <= 103 := fun c h => by rw [q0v]; omega
 have hi := hf qL (by decide)
 have hm := hf yx (by decide)
 have n0 := wS 0 (by decide) (by decide)
 have n1 := wS 1 (by decide) (by decide)
 have ok2 : Ok2 t := ⟨wR ht, q1m ht⟩
 unfold keyD
 dsimp only
 cases decide (u = q05) with
 | true => simp only [cT]; have := q57 k (by omega); omega
 | false =>
  simp only [cF]
  cases decide (u = zh) with
  | true =>
   simp only [cT]
   obtain ⟨q1, q2, _⟩ := q59 true (k :: vals) (0, t) ok2
   simp only [List.length_cons] at q1 q2
   have := wS ((k :: vals).foldl (cntK true) (0, t)).1 (by omega) (by omega)
   omega
  | false =>
   simp only [cF]
   cases decide (u = wm) with
   | true =>
    simp only [cT]
    obtain ⟨q1, q2, _⟩ := q59 false (k :: vals) (0, t) ok2
    simp only [List.length_cons] at q1 q2
    have := wS ((k :: vals).foldl (cntK false) (0, t)).1 (by omega) (by omega)
    omega
   | false =>
    simp only [cF]
    cases decide (u = q06) with
    | true => simp only [cT]; rw [q6W]; have := qdp (fndB t k).1.1; omega
    | false =>
     simp only [cF]
     cases decide (u = zD) with
     | true =>
      simp only [cT]
      cases (rdI (gi vals 0)).2 <;> simp only [Bool.not_true, Bool.not_false, cT, cF] <;> try omega
      cases (fndB t k).2 <;> simp only [Bool.not_true, Bool.not_false, cT, cF] <;> try omega
      cases decide ((rdI (gi vals 0)).1 <= 0) <;> simp only [cT, cF] <;> try omega
      cases decide (now + (rdI (gi vals 0)).1 > 100000) <;> simp only [cT, cF] <;> omega
     | false =>
      simp only [cF]
      cases decide (u = q3b) with
      | true =>
       simp only [cT]
       have hl : -1000000 <= q6G (fndB t k).1 (fndB t k).2 now /\ q6G (fndB t k).1 (fndB t k).2 now <= 1000000 := by
        unfold q6G
        cases hfd : (fndB t k).2 with
        | false => simp only [Bool.not_false, cT]; omega
        | true =>
         obtain ⟨v1, _⟩ := q6a ht hfd
         obtain ⟨_, v2, v3⟩ := q9C v1
         simp only [Bool.not_true, cF]
         cases decide ((fndB t k).1.2.1 = 0) <;> simp only [cT, cF] <;> omega
       have := wS (q6G (fndB t k).1 (fndB t k).2 now) (by omega) (by omega)
       omega
      | false =>
       simp only [cF]
       cases decide ((fndB t k).1.2.1 = 0) <;> simp only [cT, cF] <;> omega
end
theorem qiB (t : List DE) (args : List BA) (ha : wB args <= 1048576) : (q3g t args).2.1.size <= 1000000000 := by
 have hl : args.length <= 1048576 := wN ha
 unfold q3g
 cases hp : isB t args setN with
 | false => exact Nat.zero_le _
 | true =>
  unfold isB at hp
  simp only [Bool.and_eq_true] at hp
  refine q8a _ _ _ (by omega) ?_
  match args with
  | a :: k :: vals => simp only [List.length_cons] at hl; have := qkv t hp.1 k vals (by omega) (upB a) (fun _ => trivial); show (setD t (upB a) k vals).2.1.size <= _; omega
  | [] => exact Nat.zero_le _
  | [a] => exact Nat.zero_le _
theorem qgM (t : List DE) (args : List BA) (ha : wB args <= 1048576) : (q1g t args).2.1.size <= 1000000000 := by
 have hl : args.length <= 1048576 := wN ha
 unfold q1g
 cases hp : isB t args fldN with
 | false => exact Nat.zero_le _
 | true =>
  unfold isB at hp
  simp only [Bool.and_eq_true] at hp
  refine q8a _ _ _ (by omega) ?_
  match args with
  | a :: k :: vals => simp only [List.length_cons] at hl; have := qkF t hp.1 k vals (by omega) (upB a); show (fldD t (upB a) k vals).2.1.size <= _; omega
  | [] => exact Nat.zero_le _
  | [a] => exact Nat.zero_le _
theorem qia (t : List DE) (args : List BA) (ha : wB args <= 1048576) : (q2c t args).2.1.size <= 1000000000 := by
 have hl : args.length <= 1048576 := wN ha
 unfold q2c
 cases hp : isB t args lstN with
 | false => exact Nat.zero_le _
 | true =>
  unfold isB at hp
  simp only [Bool.and_eq_true] at hp
  refine q8a _ _ _ (by omega) ?_
  match args with
  | a :: k :: vals => simp only [List.length_cons] at hl; have := qkq t hp.1 k vals (by omega) (upB a); show (lstD t (upB a) k vals).2.1.size <= _; omega
  | [] => exact Nat.zero_le _
  | [a] => exact Nat.zero_le _
theorem qhD (t : List DE) (args : List BA) (ha : wB args <= 1048576) : (q25 t args).2.1.size <= 1000000000 := by
 have hl : args.length <= 1048576 := wN ha
 have hs : ∀ s ∈ args, s.size <= 1048576 := fun s hs => jA ha hs
 unfold q25
 cases hp : isB t args txtN with
 | false => exact Nat.zero_le _
 | true =>
  unfold isB at hp
  simp only [Bool.and_eq_true] at hp
  refine q8a _ _ _ (by omega) ?_
  match args with
  | [] => exact Nat.zero_le _
  | a :: r =>
   simp only [List.length_cons] at hl
   dsimp only
   cases decide (upB a = zR) with
   | true =>
    have h1 := qh8 t hp.1 r (by omega)
    have h2 : (q2s t r).length <= 100000000 := wN h1
    have h3 : ((q2s t r).map ByteArray.size).sum <= 100000000 := by unfold wB wl at h1; omega
    have := qfY (q2s t r) (by omega)
    show (arrB (q2s t r)).size <= _
    omega
   | false =>
    cases decide (upB a = zI) with
    | true => show (jR c_OK).size <= _; rw [q6W]; decide
    | false =>
     match r with
     | [] => exact Nat.zero_le _
     | k :: vals => simp only [List.length_cons] at hl; have := qkB t hp.1 k vals (by omega) (upB a) (fun s h => by have := hs s (List.mem_cons_of_mem _ (List.mem_cons_of_mem _ h)); omega); show (txtD t (upB a) k vals).2.1.size <= _; omega
theorem qis (t : List DE) (now : Int) (args : List BA) (ha : wB args <= 1048576) : (q7k t now args).2.1.size <= 1000000000 := by
 have hl : args.length <= 1048576 := wN ha
 have hs : ∀ s ∈ args, s.size <= 1048576 := fun s hs => jA ha hs
 unfold q7k
 cases hp : ((decide (0 <= now) && decide (now <= 100000)) && isB t args keyN) with
 | false => exact Nat.zero_le _
 | true =>
  unfold isB at hp
  simp only [Bool.and_eq_true, decide_eq_true_eq] at hp
  refine q8a _ _ _ (by omega) ?_
  match args with
  | [] => exact Nat.zero_le _
  | a :: r =>
   simp only [List.length_cons] at hl
   obtain ⟨z1, z2⟩ := qdk hp.2.1
   have hlt := q0N hp.2.1
   dsimp only
   cases decide (upB a = q0f) with
   | true => show (jR q5H).size <= _; rw [q6W]; decide
   | false =>
    cases decide (upB a = q0i) with
    | true => have := q6R (q2L t) 60 (by omega) (by omega) z2; show (arrB ((q2L t).map zG)).size <= _; omega
    | false =>
     cases decide (upB a = zM) with
     | true => have := wS (t.length : Int) (by omega) (by omega); show (numB (t.length : Int)).size <= _; omega
     | false =>
      cases decide (upB a = wM) with
      | true => show (jR c_OK).size <= _; rw [q6W]; decide
      | false =>
       match r with
       | [] => exact Nat.zero_le _
       | k :: vals =>
        simp only [List.length_cons] at hl
        have := qkY t hp.2.1 k vals (by omega) now hp.1 (upB a) (by have := hs k (List.mem_cons_of_mem _ (List.mem_cons_self ..)); omega)
        show (keyD t now (upB a) k vals).2.1.size <= _
        omega
end Go.Den.S
