/- PzE: equations of the functions of this seat as the executor tells them, or plain facts about them. Conditions: none here. -/
import Derived.Test.YthfdlonnbkffnaaGreatDoorPzD
set_option linter.all false
namespace Go.Den.S
open Go Go.Den
def exeB (t : List DE) (now : Int) (args : List BA) : List DE × BA :=
 bif !(tabB t && (decide (0 <= now) && decide (now <= 100000))) then (t, yw q1J)
 else bif !(decide (unkB args = eB)) then (t, unkB args)
 else bif (q25 (wY t now) args).2.2 then ((q25 (wY t now) args).1, (q25 (wY t now) args).2.1)
 else bif (q2c (wY t now) args).2.2 then ((q2c (wY t now) args).1, (q2c (wY t now) args).2.1)
 else bif (q1g (wY t now) args).2.2 then ((q1g (wY t now) args).1, (q1g (wY t now) args).2.1)
 else bif (q3g (wY t now) args).2.2 then ((q3g (wY t now) args).1, (q3g (wY t now) args).2.1)
 else ((q7k (wY t now) now args).1, (q7k (wY t now) now args).2.1)
theorem q9u (t : List DE) (c : Bool) (d : DD) : Back t (bif c then zX d t else noR) := by
 cases c with
 | true => exact q3v d t
 | false => exact .inr q1Y
theorem qfe (t : List DE) (now : Int) (args : List BA) : (exeB t now args).1 = t \/ tabB (exeB t now args).1 = true := by
 unfold exeB
 cases h1 : (tabB t && (decide (0 <= now) && decide (now <= 100000))) with
 | false => exact .inl rfl
 | true =>
  simp only [Bool.and_eq_true] at h1
  have hl := qhe h1.1 now
  have fin : ∀ r : RS, Back (wY t now) r -> tabB r.1 = true := fun r h => h.elim (fun e => e ▸ hl) id
  simp only [Bool.not_true, cF]
  cases decide (unkB args = eB) with
  | false => exact .inl rfl
  | true =>
   right
   simp only [Bool.not_true, cF]
   cases (q25 (wY t now) args).2.2 with
   | true => exact fin _ (q9u _ _ _)
   | false =>
    simp only [cF]
    cases (q2c (wY t now) args).2.2 with
    | true => exact fin _ (q9u _ _ _)
    | false =>
     simp only [cF]
     cases (q1g (wY t now) args).2.2 with
     | true => exact fin _ (q9u _ _ _)
     | false =>
      simp only [cF]
      cases (q3g (wY t now) args).2.2 with
      | true => exact fin _ (q9u _ _ _)
      | false => exact fin _ (q9u _ _ _)
theorem qlt (args : List BA) : (unkB args).size <= 100 := by
 have h1 : (yw q1q).size <= 100 := by rw [q0v]; decide
 have h2 : (yw q2W).size <= 100 := by rw [q0v]; decide
 unfold unkB
 split
 ·exact h1
 ·cases memB (upB _) cmds with
  | false => exact h1
  | true => cases jY _ with
   | true => exact Nat.zero_le _
   | false => exact h2
theorem qlZ (t : List DE) (now : Int) (args : List BA) (ha : wB args <= 1048576) : (exeB t now args).2.size <= 1000000000 := by
 unfold exeB
 cases (tabB t && (decide (0 <= now) && decide (now <= 100000))) with
 | false => show (yw q1J).size <= _; rw [q0v]; decide
 | true =>
  simp only [Bool.not_true, cF]
  cases decide (unkB args = eB) with
  | false => have := qlt args; show (unkB args).size <= _; omega
  | true =>
   simp only [Bool.not_true, cF]
   cases (q25 (wY t now) args).2.2 with
   | true => exact qhD _ _ ha
   | false =>
    simp only [cF]
    cases (q2c (wY t now) args).2.2 with
    | true => exact qia _ _ ha
    | false =>
     simp only [cF]
     cases (q1g (wY t now) args).2.2 with
     | true => exact qgM _ _ ha
     | false =>
      simp only [cF]
      cases (q3g (wY t now) args).2.2 with
      | true => exact qiB _ _ ha
      | false => exact qis _ _ _ ha
theorem qaV (t : List DE) (now : Int) (args : List BA) (h : Bd t) (ha : wB args <= 1048576) : q6X t now args = some (exeB t now args, ()) /\ q4x t now args = some (exeB t now args, ()) := by
 have hl : args.length <= 1048576 := wN ha
 have hs : ∀ s ∈ args, s.size <= 1048576 := fun s hs => jA ha hs
 rw [qe0, qe1, q6w t h, q6x t h]
 simp only [oB, jF, q0p, qW t h, q0P t h, q2y q1J (by decide), q4f q1J (by decide), qeA args (by omega) (fun s h => by have := hs s h; omega), qel args (by omega) (fun s h => by have := hs s h; omega), qG]
 unfold exeB
 cases ht : tabB t with
 | false => exact ⟨rfl, rfl⟩
 | true =>
  simp only [Bool.not_true, cF, Bool.true_and]
  cases hn : (decide (0 <= now) && decide (now <= 100000)) with
  | false => exact ⟨rfl, rfl⟩
  | true =>
   simp only [Bool.not_true, cF]
   cases hu : decide (unkB args = eB) with
   | false => exact ⟨rfl, rfl⟩
   | true =>
    have hb := wR (qhe ht now)
    obtain ⟨s1, i1⟩ := qjA (wY t now) args hb ha
    obtain ⟨s2, i2⟩ := qjK (wY t now) args hb ha
    obtain ⟨s3, i3⟩ := qij (wY t now) args hb ha
    obtain ⟨s4, i4⟩ := qkP (wY t now) args hb ha
    obtain ⟨s5, i5⟩ := ql8 (wY t now) now args hb ha
    simp only [Bool.not_true, cF, qhf t now h, qi9 t now h, oB, s1, i1, s2, i2, s3, i3, s4, i4, s5, i5]
    cases (q25 (wY t now) args).2.2 with
    | true => exact ⟨rfl, rfl⟩
    | false =>
     simp only [Bool.not_false, cT, cF]
     cases (q2c (wY t now) args).2.2 with
     | true => exact ⟨rfl, rfl⟩
     | false =>
      simp only [Bool.not_false, cT, cF]
      cases (q1g (wY t now) args).2.2 with
      | true => exact ⟨rfl, rfl⟩
      | false =>
       simp only [Bool.not_false, cT, cF]
       cases (q3g (wY t now) args).2.2 with
       | true => exact ⟨rfl, rfl⟩
       | false => exact ⟨rfl, rfl⟩
def q0q (now : Int) : List (List BA) -> List DE -> List DE × List BA
 | [], t => (t, [])
 | a :: r, t => ((q0q now r (exeB t now a).1).1, (exeB t now a).2 :: (q0q now r (exeB t now a).1).2)
theorem qdo (now : Int) : ∀ (l : List (List BA)) (t : List DE), (q0q now l t).2.length = l.length
 | [], _ => rfl
 | a :: r, t => by unfold q0q; simp only [List.length_cons, qdo now r]
theorem qdF (now : Int) : ∀ (l : List (List BA)) (t : List DE), (q0q now l t).1 = t \/ tabB (q0q now l t).1 = true
 | [], _ => .inl rfl
 | a :: r, t => by
  unfold q0q
  rcases qdF now r (exeB t now a).1 with h | h
  ·rcases qfe t now a with k | k
   ·left; dsimp only; rw [h, k]
   ·right; dsimp only; rw [h]; exact k
  ·right; exact h
theorem qfV (now : Int) : ∀ (l : List (List BA)) (t : List DE), (∀ a ∈ l, wB a <= 1048576) -> ∀ s ∈ (q0q now l t).2, s.size <= 1000000000
 | [], _, _, s, hs => by cases hs
 | a :: r, t, h, s, hs => by
  unfold q0q at hs
  rcases List.mem_cons.1 hs with rfl | hs
  ·exact qlZ _ _ _ (h a (List.mem_cons_self ..))
  ·exact qfV now r _ (fun a h' => h a (List.mem_cons_of_mem _ h')) s hs
theorem qmI {t t' : List DE} (h : Bd t) (k : t' = t \/ tabB t' = true) : Bd t' := k.elim (fun e => e ▸ h) wR
theorem qdm {R : Type} (F : List DE -> List BA -> Int -> Option R) (fin : List DE × List BA -> Option R) (now : Int) (list : List (List BA))
  (hF : ∀ (x : List DE) (acc : List BA) (i : Nat) (hi : i < list.length), i < 50 -> Bd x -> acc.length = i -> F x acc (i : Int) = F (exeB x now (list[i])).1 (acc ++ [(exeB x now (list[i])).2]) ((i + 1 : Nat) : Int))
  (hE : ∀ (x : List DE) (acc : List BA) (i : Nat), (list.length <= i \/ 50 <= i) -> F x acc (i : Int) = fin (x, acc)) :
  ∀ (n i : Nat) (x : List DE) (acc : List BA), n + i = 50 -> acc.length = i -> Bd x -> F x acc (i : Int) = fin ((q0q now ((list.drop i).take n) x).1, acc ++ (q0q now ((list.drop i).take n) x).2)
 | 0, i, x, acc, hn, ha, hx => by
  rw [hE x acc i (by omega)]
  simp [q0q]
 | n + 1, i, x, acc, hn, ha, hx => by
  by_cases hi : i < list.length
  ·rw [hF x acc i hi (by omega) hx ha, qdm F fin now list hF hE n (i + 1) _ _ (by omega) (by simp [ha]) (qmI hx (qfe _ _ _)), List.drop_eq_getElem_cons hi, List.take_succ_cons]
   simp only [q0q, List.append_assoc, List.singleton_append]
  ·rw [hE x acc i (by omega), List.drop_eq_nil_of_le (by omega)]
   simp [q0q]
theorem qjd (t : List DE) (now : Int) (list : List (List BA)) (h : Bd t) (ha : ∀ a ∈ list, wB a <= 1048576) (hl : list.length <= 100000000) : qa9 t now list = some (q0q now (list.take 50) t, ()) /\ q7X t now list = some (q0q now (list.take 50) t, ()) := by
 rw [qid, qh3, qW t h, q0P t h]
 simp only [oB]
 constructor
 ·have := qdm (fun x acc i => q6A now list x acc i) (fun r => some (r, ())) now list
   (fun x acc i hi h50 hx hacc => by
    conv => lhs; rw [qa6]
    simp only [dYT (show (i : Int) < (list.length : Int) by omega), dYT (show (i : Int) < 50 by omega), dYT (show (0 : Int) <= (i : Int) by omega), Bool.and_self, cT, Int.toNat_natCast, zm hi, (qaV x now list[i] hx (ha _ (List.getElem_mem hi))).1, oB, yA (show (acc.length + 1) * 16 <= 140737488355328 by omega), show w64 ((i : Int) + 1) = ((i + 1 : Nat) : Int) from qz (by omega)])
   (fun x acc i hi => by
    rw [qa6]
    rcases hi with hi | hi
    ·simp only [dYF (show ¬ (i : Int) < (list.length : Int) by omega), cF]
    ·simp only [dYF (show ¬ (i : Int) < 50 by omega), cF]
     cases decide ((i : Int) < (list.length : Int)) <;> rfl) 50 0 t [] rfl rfl h
  exact this
 ·have := qdm (fun x acc i => q6K now list x acc i) (fun r => some (r, ())) now list
   (fun x acc i hi h50 hx hacc => by
    conv => lhs; rw [q9Z]
    have hm : decide ((i : Int) < (bif (decide (50 < (list.length : Int))) then 50 else (list.length : Int))) = true := by
     cases hc : decide (50 < (list.length : Int)) with
     | true => exact dYT (by rw [cT]; omega)
     | false => exact dYT (by rw [cF]; omega)
    simp only [hm, dYT (show (i : Int) < (list.length : Int) by omega), dYT (show (0 : Int) <= (i : Int) by omega), Bool.and_self, cT, Int.toNat_natCast, zm hi, (qaV x now list[i] hx (ha _ (List.getElem_mem hi))).2, oB, yA (show (acc.length + 1) * 16 <= 140737488355328 by omega), show w64 ((i : Int) + 1) = ((i + 1 : Nat) : Int) from qz (by omega)])
   (fun x acc i hi => by
    rw [q9Z]
    have hm : decide ((i : Int) < (bif (decide (50 < (list.length : Int))) then 50 else (list.length : Int))) = false := by
     cases hc : decide (50 < (list.length : Int)) with
     | true => exact dYF (by rw [cT]; have := of_decide_eq_true hc; omega)
     | false => exact dYF (by rw [cF]; have := of_decide_eq_false hc; omega)
    simp only [hm, cF]) 50 0 t [] rfl rfl h
  exact this
def doB (t : List DE) (now : Int) (list : List (List BA)) (all : Bool) : List DE × BA :=
 ((q0q now (list.take 50) t).1, bif all then arrB (q0q now (list.take 50) t).2 else gi (q0q now (list.take 50) t).2 0)
theorem qmU (t : List DE) (now : Int) (list : List (List BA)) (ha : ∀ a ∈ list, wB a <= 1048576) : wB (q0q now (list.take 50) t).2 <= 10000000000000 := by
 have h1 := qdo now (list.take 50) t
 have h2 := qkM _ 1000000000 (qfV now (list.take 50) t fun a h => ha a (List.mem_of_mem_take h))
 have h3 : (list.take 50).length <= 50 := by rw [List.length_take]; omega
 unfold wB wl
 omega
theorem qga (t : List DE) (now : Int) (list : List (List BA)) (all : Bool) (h : Bd t) (ha : ∀ a ∈ list, wB a <= 1048576) (hl : list.length <= 100000000) : q5D t now list all = some (doB t now list all, ()) /\ q4j t now list all = some (doB t now list all, ()) := by
 obtain ⟨s1, i1⟩ := qjd t now list h ha hl
 have hw := qmU t now list ha
 rw [qeZ, qf4, s1, i1]
 simp only [oB, qaO _ hw, qaQ _ hw]
 unfold doB
 cases all with
 | true => exact ⟨rfl, rfl⟩
 | false =>
  cases hz : (q0q now (list.take 50) t).2 with
  | nil => exact ⟨rfl, rfl⟩
  | cons x r =>
   have e1 : (((x :: r).length : Int) == 0) = false := by rw [q0l]; exact dYF (by simp only [List.length_cons]; omega)
   have e2 : decide ((0 : Int) < ((x :: r).length : Int)) = true := dYT (by simp only [List.length_cons]; omega)
   simp only [cF, e1, e2, cT, Int.le_refl, decide_true, Bool.and_self]
   exact ⟨rfl, rfl⟩
theorem qey (t : List DE) (now : Int) (list : List (List BA)) (all : Bool) : (doB t now list all).1 = t \/ tabB (doB t now list all).1 = true := qdF now (list.take 50) t
end Go.Den.S
