/- PzE: equations of the functions of this seat as the executor tells them, or plain facts about them. Conditions: none here. -/
import Derived.Test.YtbgaejnkjmjkhaaGreatDoorPzD
set_option linter.all false
namespace Go.Den.S
open Go Go.Den
def exeB (t : List DE) (now : Int) (args : List BA) : List DE × BA :=
 bif !(tabB t && (decide (0 <= now) && decide (now <= 100000))) then (t, y8 q20)
 else bif !(decide (unkB args = eB)) then (t, unkB args)
 else bif (jl (qP t now) args).2.2 then ((jl (qP t now) args).1, (jl (qP t now) args).2.1)
 else bif (jg (qP t now) args).2.2 then ((jg (qP t now) args).1, (jg (qP t now) args).2.1)
 else bif (zL (qP t now) args).2.2 then ((zL (qP t now) args).1, (zL (qP t now) args).2.1)
 else bif (jZ (qP t now) args).2.2 then ((jZ (qP t now) args).1, (jZ (qP t now) args).2.1)
 else ((q1H (qP t now) now args).1, (q1H (qP t now) now args).2.1)
theorem q92 (t : List DE) (c : Bool) (d : DD) : Back t (bif c then wT d t else noR) := by
 cases c with
 | true => exact q3I d t
 | false => exact .inr q2R
theorem qcn (t : List DE) (now : Int) (args : List BA) : (exeB t now args).1 = t \/ tabB (exeB t now args).1 = true := by
 unfold exeB
 cases h1 : (tabB t && (decide (0 <= now) && decide (now <= 100000))) with
 | false => exact .inl rfl
 | true =>
  simp only [Bool.and_eq_true] at h1
  have hl := q3c h1.1 now
  have fin : ∀ r : RS, Back (qP t now) r -> tabB r.1 = true := fun r h => h.elim (fun e => e ▸ hl) id
  simp only [Bool.not_true, cF]
  cases decide (unkB args = eB) with
  | false => exact .inl rfl
  | true =>
   right
   simp only [Bool.not_true, cF]
   cases (jl (qP t now) args).2.2 with
   | true => exact fin _ (q92 _ _ _)
   | false =>
    simp only [cF]
    cases (jg (qP t now) args).2.2 with
    | true => exact fin _ (q92 _ _ _)
    | false =>
     simp only [cF]
     cases (zL (qP t now) args).2.2 with
     | true => exact fin _ (q92 _ _ _)
     | false =>
      simp only [cF]
      cases (jZ (qP t now) args).2.2 with
      | true => exact fin _ (q92 _ _ _)
      | false => exact fin _ (q92 _ _ _)
theorem qmb (args : List BA) : (unkB args).size <= 100 := by
 have h1 : (y8 jH).size <= 100 := by rw [q0T]; decide
 have h2 : (y8 q17).size <= 100 := by rw [q0T]; decide
 unfold unkB
 split
 ·exact h1
 ·cases memB (upB _) cmds with
  | false => exact h1
  | true => cases j5 _ with
   | true => exact Nat.zero_le _
   | false => exact h2
theorem qmx (t : List DE) (now : Int) (args : List BA) (ha : wB args <= 1048576) : (exeB t now args).2.size <= 1000000000 := by
 unfold exeB
 cases (tabB t && (decide (0 <= now) && decide (now <= 100000))) with
 | false => show (y8 q20).size <= _; rw [q0T]; decide
 | true =>
  simp only [Bool.not_true, cF]
  cases decide (unkB args = eB) with
  | false => have := qmb args; show (unkB args).size <= _; omega
  | true =>
   simp only [Bool.not_true, cF]
   cases (jl (qP t now) args).2.2 with
   | true => exact qih _ _ ha
   | false =>
    simp only [cF]
    cases (jg (qP t now) args).2.2 with
    | true => exact qie _ _ ha
    | false =>
     simp only [cF]
     cases (zL (qP t now) args).2.2 with
     | true => exact qgx _ _ ha
     | false =>
      simp only [cF]
      cases (jZ (qP t now) args).2.2 with
      | true => exact qiw _ _ ha
      | false => exact qiD _ _ _ ha
theorem q8q (t : List DE) (now : Int) (args : List BA) (h : Bd t) (ha : wB args <= 1048576) : q6k t now args = some (exeB t now args, ()) /\ ji t now args = some (exeB t now args, ()) := by
 have hl : args.length <= 1048576 := q0p ha
 have hs : ∀ s ∈ args, s.size <= 1048576 := fun s hs => q2t ha hs
 rw [qeB, qeq, q4H t h, q6j t h]
 simp only [oB, q06, q0M, yC t h, q1b t h, q2L q20 (by decide), q4l q20 (by decide), qeG args (by omega) (fun s h => by have := hs s h; omega), q9n args (by omega) (fun s h => by have := hs s h; omega), qM]
 unfold exeB
 cases ht : tabB t with
 | false => exact ⟨rfl, rfl⟩
 | true =>
  simp only [Bool.not_true, cF, Bool.true_and]
  cases hn : (decide (0 <= now) && decide (now <= 100000)) with
  | false => exact ⟨rfl, rfl⟩
  | true =>
   simp only [Bool.not_true, cF]
   cases hu : decide (unkB args = eB) with
   | false => exact ⟨rfl, rfl⟩
   | true =>
    have hb := wY (q3c ht now)
    obtain ⟨s1, i1⟩ := qkv (qP t now) args hb ha
    obtain ⟨s2, i2⟩ := qky (qP t now) args hb ha
    obtain ⟨s3, i3⟩ := qiz (qP t now) args hb ha
    obtain ⟨s4, i4⟩ := qln (qP t now) args hb ha
    obtain ⟨s5, i5⟩ := qlD (qP t now) now args hb ha
    simp only [Bool.not_true, cF, qbl t now h, qhR t now h, oB, s1, i1, s2, i2, s3, i3, s4, i4, s5, i5]
    cases (jl (qP t now) args).2.2 with
    | true => exact ⟨rfl, rfl⟩
    | false =>
     simp only [Bool.not_false, cT, cF]
     cases (jg (qP t now) args).2.2 with
     | true => exact ⟨rfl, rfl⟩
     | false =>
      simp only [Bool.not_false, cT, cF]
      cases (zL (qP t now) args).2.2 with
      | true => exact ⟨rfl, rfl⟩
      | false =>
       simp only [Bool.not_false, cT, cF]
       cases (jZ (qP t now) args).2.2 with
       | true => exact ⟨rfl, rfl⟩
       | false => exact ⟨rfl, rfl⟩
def zk (now : Int) : List (List BA) -> List DE -> List DE × List BA
 | [], t => (t, [])
 | a :: r, t => ((zk now r (exeB t now a).1).1, (exeB t now a).2 :: (zk now r (exeB t now a).1).2)
theorem q72 (now : Int) : ∀ (l : List (List BA)) (t : List DE), (zk now l t).2.length = l.length
 | [], _ => rfl
 | a :: r, t => by unfold zk; simp only [List.length_cons, q72 now r]
theorem qh8 (now : Int) : ∀ (l : List (List BA)) (t : List DE), (zk now l t).1 = t \/ tabB (zk now l t).1 = true
 | [], _ => .inl rfl
 | a :: r, t => by
  unfold zk
  rcases qh8 now r (exeB t now a).1 with h | h
  ·rcases qcn t now a with k | k
   ·left; dsimp only; rw [h, k]
   ·right; dsimp only; rw [h]; exact k
  ·right; exact h
theorem qgk (now : Int) : ∀ (l : List (List BA)) (t : List DE), (∀ a ∈ l, wB a <= 1048576) -> ∀ s ∈ (zk now l t).2, s.size <= 1000000000
 | [], _, _, s, hs => by cases hs
 | a :: r, t, h, s, hs => by
  unfold zk at hs
  rcases List.mem_cons.1 hs with rfl | hs
  ·exact qmx _ _ _ (h a (List.mem_cons_self ..))
  ·exact qgk now r _ (fun a h' => h a (List.mem_cons_of_mem _ h')) s hs
theorem qmT {t t' : List DE} (h : Bd t) (k : t' = t \/ tabB t' = true) : Bd t' := k.elim (fun e => e ▸ h) wY
theorem qdx {R : Type} (F : List DE -> List BA -> Int -> Option R) (fin : List DE × List BA -> Option R) (now : Int) (list : List (List BA))
  (hF : ∀ (x : List DE) (acc : List BA) (i : Nat) (hi : i < list.length), i < 50 -> Bd x -> acc.length = i -> F x acc (i : Int) = F (exeB x now (list[i])).1 (acc ++ [(exeB x now (list[i])).2]) ((i + 1 : Nat) : Int))
  (hE : ∀ (x : List DE) (acc : List BA) (i : Nat), (list.length <= i \/ 50 <= i) -> F x acc (i : Int) = fin (x, acc)) :
  ∀ (n i : Nat) (x : List DE) (acc : List BA), n + i = 50 -> acc.length = i -> Bd x -> F x acc (i : Int) = fin ((zk now ((list.drop i).take n) x).1, acc ++ (zk now ((list.drop i).take n) x).2)
 | 0, i, x, acc, hn, ha, hx => by
  rw [hE x acc i (by omega)]
  simp [zk]
 | n + 1, i, x, acc, hn, ha, hx => by
  by_cases hi : i < list.length
  ·rw [hF x acc i hi (by omega) hx ha, qdx F fin now list hF hE n (i + 1) _ _ (by omega) (by simp [ha]) (qmT hx (qcn _ _ _)), List.drop_eq_getElem_cons hi, List.take_succ_cons]
   simp only [zk, List.append_assoc, List.singleton_append]
  ·rw [hE x acc i (by omega), List.drop_eq_nil_of_le (by omega)]
   simp [zk]
theorem qa4 (t : List DE) (now : Int) (list : List (List BA)) (h : Bd t) (ha : ∀ a ∈ list, wB a <= 1048576) (hl : list.length <= 100000000) : q9r t now list = some (zk now (list.take 50) t, ()) /\ q60 t now list = some (zk now (list.take 50) t, ()) := by
 rw [qh4, qib, yC t h, q1b t h]
 simp only [oB]
 constructor
 ·have := qdx (fun x acc i => q6G now list x acc i) (fun r => some (r, ())) now list
   (fun x acc i hi h50 hx hacc => by
    conv => lhs; rw [q9h]
    simp only [dYT (show (i : Int) < (list.length : Int) by omega), dYT (show (i : Int) < 50 by omega), dYT (show (0 : Int) <= (i : Int) by omega), Bool.and_self, cT, Int.toNat_natCast, za hi, (q8q x now list[i] hx (ha _ (List.getElem_mem hi))).1, oB, qJ (show (acc.length + 1) * 16 <= 140737488355328 by omega), show w64 ((i : Int) + 1) = ((i + 1 : Nat) : Int) from qA (by omega)])
   (fun x acc i hi => by
    rw [q9h]
    rcases hi with hi | hi
    ·simp only [dYF (show ¬ (i : Int) < (list.length : Int) by omega), cF]
    ·simp only [dYF (show ¬ (i : Int) < 50 by omega), cF]
     cases decide ((i : Int) < (list.length : Int)) <;> rfl) 50 0 t [] rfl rfl h
  exact this
 ·have := qdx (fun x acc i => q6u now list x acc i) (fun r => some (r, ())) now list
   (fun x acc i hi h50 hx hacc => by
    conv => lhs; rw [q9A]
    have hm : decide ((i : Int) < (bif (decide (50 < (list.length : Int))) then 50 else (list.length : Int))) = true := by
     cases hc : decide (50 < (list.length : Int)) with
     | true => exact dYT (by rw [cT]; omega)
     | false => exact dYT (by rw [cF]; omega)
    simp only [hm, dYT (show (i : Int) < (list.length : Int) by omega), dYT (show (0 : Int) <= (i : Int) by omega), Bool.and_self, cT, Int.toNat_natCast, za hi, (q8q x now list[i] hx (ha _ (List.getElem_mem hi))).2, oB, qJ (show (acc.length + 1) * 16 <= 140737488355328 by omega), show w64 ((i : Int) + 1) = ((i + 1 : Nat) : Int) from qA (by omega)])
   (fun x acc i hi => by
    rw [q9A]
    have hm : decide ((i : Int) < (bif (decide (50 < (list.length : Int))) then 50 else (list.length : Int))) = false := by
     cases hc : decide (50 < (list.length : Int)) with
     | true => exact dYF (by rw [cT]; have := of_decide_eq_true hc; omega)
     | false => exact dYF (by rw [cF]; have := of_decide_eq_false hc; omega)
    simp only [hm, cF]) 50 0 t [] rfl rfl h
  exact this
def doB (t : List DE) (now : Int) (list : List (List BA)) (all : Bool) : List DE × BA :=
 ((zk now (list.take 50) t).1, bif all then arrB (zk now (list.take 50) t).2 else gi (zk now (list.take 50) t).2 0)
theorem qlu (t : List DE) (now : Int) (list : List (List BA)) (ha : ∀ a ∈ list, wB a <= 1048576) : wB (zk now (list.take 50) t).2 <= 10000000000000 := by
 have h1 := q72 now (list.take 50) t
 have h2 := qkP _ 1000000000 (qgk now (list.take 50) t fun a h => ha a (List.mem_of_mem_take h))
 have h3 : (list.take 50).length <= 50 := by rw [List.length_take]; omega
 unfold wB wl
 omega
theorem qlH (t : List DE) (now : Int) (list : List (List BA)) (all : Bool) (h : Bd t) (ha : ∀ a ∈ list, wB a <= 1048576) (hl : list.length <= 100000000) : q9L t now list all = some (doB t now list all, ()) := by
 obtain ⟨s1, i1⟩ := qa4 t now list h ha hl
 have hw := qlu t now list ha
 rw [qfW, i1]
 simp only [oB, qae _ hw]
 unfold doB
 cases all with
 | true => rfl
 | false =>
  cases hz : (zk now (list.take 50) t).2 with
  | nil => rfl
  | cons x r =>
   have e1 : (((x :: r).length : Int) == 0) = false := by rw [wO]; exact dYF (by simp only [List.length_cons]; omega)
   have e2 : decide ((0 : Int) < ((x :: r).length : Int)) = true := dYT (by simp only [List.length_cons]; omega)
   simp only [cF, e1, e2, cT, Int.le_refl, decide_true, Bool.and_self]
   rfl
end Go.Den.S
