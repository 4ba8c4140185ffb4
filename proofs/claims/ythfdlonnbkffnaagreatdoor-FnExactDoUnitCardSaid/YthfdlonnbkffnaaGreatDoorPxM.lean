/- PxM: equations of the functions of this seat as the executor tells them, or plain facts about them. Conditions: none here. -/
import Derived.Test.YthfdlonnbkffnaaGreatDoorPxL
set_option linter.all false
namespace Go.Den.S
open Go Go.Den
def digB (c : UInt8) : Bool := decide (48 <= c.toNat) && decide (c.toNat <= 57)
def valL (l : List UInt8) (a : Nat) : Nat := l.foldl (fun a c => 10 * a + (c.toNat - 48)) a
theorem qls (l m : List UInt8) (a : Nat) : valL (l ++ m) a = valL m (valL l a) := by simp [valL]
theorem qcj (d : Nat) (h : d < 10) : (UInt8.ofNat (48 + d)).toNat = 48 + d := by
 rw [UInt8.toNat_ofNat']
 omega
theorem q7E (k : Nat) : ∀ u : Nat, u < 10 ^ (k + 1) -> (∀ c ∈ Lib.decDigits u, digB c = true) /\ valL (Lib.decDigits u) 0 = u := by
 induction k with
 | zero =>
  intro u h
  have h : u < 10 := by simpa using h
  rw [Lib.decDigits, dif_pos h]
  have := qcj u h
  refine ⟨fun c hc => ?_, ?_⟩
  ·simp only [List.mem_singleton] at hc
   rw [hc]
   unfold digB
   rw [this, dYT (by omega), dYT (by omega)]; rfl
  ·show 10 * 0 + ((UInt8.ofNat (48 + u)).toNat - 48) = u
   rw [this]; omega
 | succ k ih =>
  intro u h
  by_cases hu : u < 10
  ·rw [Lib.decDigits, dif_pos hu]
   have := qcj u hu
   refine ⟨fun c hc => ?_, ?_⟩
   ·simp only [List.mem_singleton] at hc
    rw [hc]
    unfold digB
    rw [this, dYT (by omega), dYT (by omega)]; rfl
   ·show 10 * 0 + ((UInt8.ofNat (48 + u)).toNat - 48) = u
    rw [this]; omega
  ·obtain ⟨h1, h2⟩ := ih (u / 10) (by rw [Nat.pow_succ] at h; omega)
   have := qcj (u % 10) (by omega)
   rw [qch u hu]
   refine ⟨fun c hc => ?_, ?_⟩
   ·rcases List.mem_append.1 hc with hc | hc
    ·exact h1 c hc
    ·simp only [List.mem_singleton] at hc
     rw [hc]
     unfold digB
     rw [this, dYT (by omega), dYT (by omega)]; rfl
   ·rw [qls, h2]
    show 10 * (u / 10) + ((UInt8.ofNat (48 + u % 10)).toNat - 48) = u
    rw [this]; omega
def rdL (s : BA) (l : List UInt8) (a : Nat) : Int × Bool := bif l.all digB then (bif decide (valL l a <= 1000000000) && decide (decB (valL l a : Int) = s) then ((valL l a : Int), true) else (0, false)) else (0, false)
theorem qmE (s : BA) (h10 : s.size <= 10) : q0X s 0 0 = some (rdL s s.data.toList 0, ()) := by
 have hlen : s.data.toList.length = s.size := Array.length_toList
 have key := q12 s.data.toList 0 (fun i r => ∀ a : Nat, a < 10 ^ i -> q0X s (a : Int) (i : Int) = some (rdL s r a, ()))
  (fun a ha => by
   rw [q5C, hlen]
   have ha' : a < 10 ^ 10 := Nat.lt_of_lt_of_le ha (Nat.pow_le_pow_right (by omega) (by omega))
   simp only [Int.lt_irrefl, decide_false, cF]
   unfold rdL
   show _ = some ((bif (decide (a <= 1000000000) && decide (decB (a : Int) = s)) then ((a : Int), true) else (0, false)), ())
   by_cases h9 : a <= 1000000000
   ·rw [dYF (show ¬ ((a : Int) > 1000000000) by omega), dYT h9]
    simp only [cF, q1j (a : Int) (by omega) (by omega), oB, qG, Bool.true_and]
    cases decide (decB (a : Int) = s) <;> rfl
   ·rw [dYT (show ((a : Int) > 1000000000) by omega), dYF h9]; rfl)
  (fun i c r hi hx hm ih a ha => by
   rw [hlen] at hi
   have ha' : a < 10 ^ 10 := Nat.lt_of_lt_of_le ha (Nat.pow_le_pow_right (by omega) (by omega))
   have hc : c.toNat < 256 := c.toNat_lt
   have hb : bt s i = (c.toNat : Int) := by unfold bt; rw [hx]
   rw [q5C]
   have e1 : decide ((i : Int) < (s.size : Int)) = true := dYT (by omega)
   have e2 : decide (0 <= (i : Int)) = true := dYT (by omega)
   have e3 : w64 ((i : Int) + 1) = ((i + 1 : Nat) : Int) := qz (by omega)
   simp only [e1, e2, e3, Bool.and_self, cT, Int.toNat_natCast, hb]
   unfold rdL
   rw [List.all_cons]
   unfold digB
   by_cases h48 : 48 <= c.toNat
   ·by_cases h57 : c.toNat <= 57
    ·rw [dYF (show ¬ ((c.toNat : Int) < 48) by omega), dYF (show ¬ ((c.toNat : Int) > 57) by omega), dYT h48, dYT h57]
     have hw : w64 (w64 (w64 (10 * (a : Int)) + w64 (c.toNat : Int)) - 48) = ((10 * a + (c.toNat - 48) : Nat) : Int) := by
      show IntKind.i64.wrap (IntKind.i64.wrap (IntKind.i64.wrap _ + IntKind.i64.wrap _) - 48) = _
      rw [qj (n := 10 * (a : Int)) (by omega) (by omega), qj (n := (c.toNat : Int)) (by omega) (by omega), qj (n := 10 * (a : Int) + (c.toNat : Int)) (by omega) (by omega), qj (by omega) (by omega)]
      omega
     simp only [cF, hw, Bool.true_and]
     rw [ih (10 * a + (c.toNat - 48)) (by rw [Nat.pow_succ]; omega)]
     rfl
    ·rw [dYF (show ¬ ((c.toNat : Int) < 48) by omega), dYT (show ((c.toNat : Int) > 57) by omega), dYT h48, dYF h57]
     rfl
   ·rw [dYT (show ((c.toNat : Int) < 48) by omega), dYF h48]
    rfl)
 exact key 0 (by decide)
def rdD (s : BA) : Int × Bool := bif decide (s.size <= 10) then rdL s s.data.toList 0 else (0, false)
theorem q7h (s : BA) : q2l s = some (rdD s, ()) := by
 rw [qbF]
 unfold rdD
 by_cases h : s.size <= 10
 ·rw [dYF (show ¬ ((s.size : Int) > 10) by omega), dYT h]
  simp only [cF, cT]
  exact qmE s h
 ·rw [dYT (show ((s.size : Int) > 10) by omega), dYF h]; rfl
theorem qfK (s : BA) : rdD s = (0, false) \/ ∃ v : Nat, v <= 1000000000 /\ decB (v : Int) = s /\ rdD s = ((v : Int), true) := by
 unfold rdD rdL
 cases decide (s.size <= 10) with
 | false => exact .inl rfl
 | true =>
  simp only [cT]
  cases s.data.toList.all digB with
  | false => exact .inl rfl
  | true =>
   simp only [cT]
   cases h : (decide (valL s.data.toList 0 <= 1000000000) && decide (decB (valL s.data.toList 0 : Int) = s)) with
   | false => exact .inl rfl
   | true =>
    simp only [Bool.and_eq_true, decide_eq_true_eq] at h
    exact .inr ⟨_, h.1, h.2, rfl⟩
theorem q7u (v : Nat) : decB (v : Int) = mkB (Lib.decDigits v) := by
 unfold decB Lib.itoa
 rw [if_neg (by omega), Int.toNat_natCast]
theorem qiP (v : Nat) (h : v <= 1000000000) : rdD (decB (v : Int)) = ((v : Int), true) := by
 obtain ⟨h1, h2⟩ := q7E 9 v (by omega)
 have hl := qdj 9 v (by omega)
 unfold rdD rdL
 have e1 : (decB (v : Int)).data.toList = Lib.decDigits v := by rw [q7u, q3P]
 rw [e1, h2, dYT (show (decB (v : Int)).size <= 10 by rw [q7u, qdr]; omega), show (Lib.decDigits v).all digB = true from List.all_eq_true.2 h1, dYT h, dYT rfl]
 rfl
theorem qgl (s : BA) : (ByteArray.extract s 1 s.size).data.toList = s.data.toList.drop 1 := by
 have hlen : s.data.toList.length = s.size := Array.length_toList
 simp only [ByteArray.data_extract, Array.toList_extract, List.extract_eq_take_drop]
 rw [List.take_of_length_le]
 rw [List.length_drop, hlen]
 exact Nat.le_refl _
def negB (s : BA) : Bool := decide (1 < s.size) && decide (s.data.toList.getD 0 0 = 45)
def rdI (s : BA) : Int × Bool := bif negB s then
  (bif !(rdD (ByteArray.extract s 1 s.size)).2 then (0, false) else bif decide ((rdD (ByteArray.extract s 1 s.size)).1 = 0) then (0, false) else (-(rdD (ByteArray.extract s 1 s.size)).1, true))
 else rdD s
theorem q1n (s : BA) (hs : s.size <= 100000000) : q0w s = some (rdI s, ()) := by
 rw [qeg]
 unfold rdI negB
 have hb : (bt s (Int.toNat 0) == 45) = decide (s.data.toList.getD 0 0 = 45) := by
  show (((s.data.toList.getD 0 0).toNat : Int) == 45) = _
  generalize s.data.toList.getD 0 0 = c
  rw [q0l]
  refine decide_eq_decide.2 ⟨fun h => ?_, fun h => by rw [h]; rfl⟩
  have : c.toNat = (45 : UInt8).toNat := by
   show c.toNat = 45
   omega
  exact UInt8.toNat_inj.1 this
 by_cases h1 : 1 < s.size
 ·have k1 : decide ((s.size : Int) > 1) = true := dYT (by omega)
  have k2 : (decide ((0 : Int) <= 0) && decide ((0 : Int) < (s.size : Int))) = true := by rw [dYT (show (0 : Int) < (s.size : Int) by omega)]; rfl
  have k3 : (decide ((0 : Int) <= 1) && (decide ((1 : Int) <= (s.size : Int)) && decide ((s.size : Int) <= (s.size : Int)))) = true := by rw [dYT (show (1 : Int) <= (s.size : Int) by omega), dYT (Int.le_refl _)]; rfl
  simp only [k1, k2, k3, hb, cT, dYT h1, Bool.true_and, q7h, oB, show Int.toNat 1 = 1 from rfl, Int.toNat_natCast, q0l]
  cases decide (s.data.toList.getD 0 0 = 45) with
  | false => rfl
  | true =>
   simp only [cT]
   rcases qfK (ByteArray.extract s 1 s.size) with h | ⟨v, h2, _, h4⟩
   ·rw [h]; rfl
   ·rw [h4]
    simp only [Bool.not_true, cF]
    have e : w64 (0 - (v : Int)) = -(v : Int) := by show IntKind.i64.wrap _ = _; rw [qj (by omega) (by omega)]; omega
    rw [e]
    cases decide ((v : Int) = 0) <;> rfl
 ·have k1 : decide ((s.size : Int) > 1) = false := dYF (by omega)
  simp only [k1, cF, dYF h1, Bool.false_and, q7h, oB]
theorem qdA (v : Nat) (h : 1 <= v) : decB (-(v : Int)) = mkB (45 :: Lib.decDigits v) := by
 unfold decB Lib.itoa
 rw [if_pos (by omega)]
 simp
theorem qjh (s : BA) : rdI s = (0, false) \/ ∃ n : Int, -1000000000 <= n /\ n <= 1000000000 /\ decB n = s /\ rdI s = (n, true) := by
 have hlen : s.data.toList.length = s.size := Array.length_toList
 unfold rdI
 cases hn : negB s with
 | false =>
  simp only [cF]
  rcases qfK s with h | ⟨v, h1, h2, h3⟩
  ·exact .inl h
  ·exact .inr ⟨(v : Int), by omega, by omega, h2, h3⟩
 | true =>
  unfold negB at hn
  simp only [Bool.and_eq_true, decide_eq_true_eq] at hn
  rcases qfK (ByteArray.extract s 1 s.size) with h | ⟨v, h1, h2, h3⟩
  ·rw [h]; exact .inl rfl
  ·rw [h3]
   by_cases hv : v = 0
   ·subst hv; exact .inl rfl
   ·right
    refine ⟨-(v : Int), by omega, by omega, ?_, by rw [dYF (show ¬ ((v : Int) = 0) by omega)]; rfl⟩
    rw [qdA v (by omega)]
    refine q7P ?_
    rw [q3P]
    have h4 : Lib.decDigits v = s.data.toList.drop 1 := by rw [<- qgl s, <- h2, q7u, q3P]
    rw [h4]
    have h0 := hn.2
    match hd : s.data.toList, hlen with
    | [], hlen => simp at hlen; omega
    | c :: r, _ =>
     rw [hd] at h0
     have h0 : c = 45 := h0
     rw [h0]; rfl
theorem qa2 (v : Nat) : ∃ c r, Lib.decDigits v = c :: r /\ digB c = true := by
 have h1 : (Lib.decDigits v) ≠ [] := by
  rw [Lib.decDigits]
  split <;> simp
 match hd : Lib.decDigits v, h1 with
 | c :: r, _ => exact ⟨c, r, rfl, by
   obtain ⟨k, hk⟩ : ∃ k, v < 10 ^ (k + 1) := ⟨v, by
    have : ∀ n : Nat, n < 10 ^ (n + 1) := fun n => Nat.lt_of_lt_of_le (Nat.lt_pow_self (by omega)) (Nat.pow_le_pow_right (by omega) (by omega))
    exact this v⟩
   have := (q7E k v hk).1 c (by rw [hd]; exact List.mem_cons_self ..)
   exact this⟩
theorem qjb (n : Int) (h0 : -1000000000 <= n) (h1 : n <= 1000000000) : rdI (decB n) = (n, true) := by
 by_cases hn : n < 0
 ·obtain ⟨v, rfl⟩ : ∃ v : Nat, n = -(v : Int) := ⟨n.natAbs, by omega⟩
  have hs := qdA v (by omega)
  obtain ⟨c, r, hc, _⟩ := qa2 v
  have hneg : negB (decB (-(v : Int))) = true := by
   unfold negB
   rw [hs, qdr, q3P, hc]
   simp
  have he : ByteArray.extract (decB (-(v : Int))) 1 (decB (-(v : Int))).size = decB (v : Int) := q7P (by
   rw [qgl, hs, q3P, q7u, q3P]; rfl)
  unfold rdI
  rw [hneg, he, qiP v (by omega), dYF (show ¬ ((v : Int) = 0) by omega)]
  rfl
 ·obtain ⟨v, rfl⟩ : ∃ v : Nat, n = (v : Int) := ⟨n.toNat, by omega⟩
  obtain ⟨c, r, hc, hd⟩ := qa2 v
  have hneg : negB (decB (v : Int)) = false := by
   unfold negB
   rw [q7u, q3P, hc]
   have : ¬ c = 45 := fun e => by
    rw [e] at hd
    exact absurd hd (by decide)
   rw [dYF (show ¬ (List.getD (c :: r) 0 0 = 45) from this), Bool.and_false]
  unfold rdI
  rw [hneg, qiP v (by omega)]
  rfl
theorem q9H : ∀ (l : List UInt8) (a : Nat), (∀ c ∈ l, digB c = true) -> valL l a <= 1000000000000 -> Lib.parseUint10 a l = .ok (valL l a)
 | [], a, _, _ => rfl
 | c :: r, a, h, hb => by
  have hc := h c (List.mem_cons_self ..)
  unfold digB at hc
  simp only [Bool.and_eq_true, decide_eq_true_eq] at hc
  have mono : ∀ (l : List UInt8) (a : Nat), a <= valL l a := by
   intro l
   induction l with
   | nil => intro a; exact Nat.le_refl _
   | cons x l ih => intro a; exact Nat.le_trans (by omega) (ih (10 * a + (x.toNat - 48)))
  have hv : valL (c :: r) a = valL r (10 * a + (c.toNat - 48)) := rfl
  have hm := mono r (10 * a + (c.toNat - 48))
  rw [hv] at hb ⊢
  unfold Lib.parseUint10
  rw [if_pos hc, if_neg (by omega), if_neg (by omega), show a * 10 + (c.toNat - 48) = 10 * a + (c.toNat - 48) by omega]
  exact q9H r _ (fun x hx => h x (List.mem_cons_of_mem _ hx)) hb
theorem qbh (n : Int) (h0 : -1000000000 <= n) (h1 : n <= 1000000000) : Lib.atoiAll (decB n).data.toList = .ok n := by
 by_cases hn : n < 0
 ·obtain ⟨v, rfl⟩ : ∃ v : Nat, n = -(v : Int) := ⟨n.natAbs, by omega⟩
  obtain ⟨d1, d2⟩ := q7E 9 v (by omega)
  obtain ⟨c, r, hc, _⟩ := qa2 v
  have hp := q9H (Lib.decDigits v) 0 d1 (by rw [d2]; omega)
  rw [d2] at hp
  rw [qdA v (by omega), q3P]
  unfold Lib.atoiAll Lib.parseMag
  have e45 : (45 : UInt8).toNat = 45 := rfl
  simp only [e45, or_true, if_true, hp, hc, reduceCtorEq, if_false, not_true_eq_false, false_and, true_and]
  rw [<- hc, hp]
  simp only
  rw [if_neg (by omega)]
 ·obtain ⟨v, rfl⟩ : ∃ v : Nat, n = (v : Int) := ⟨n.toNat, by omega⟩
  obtain ⟨d1, d2⟩ := q7E 9 v (by omega)
  obtain ⟨c, r, hc, hd⟩ := qa2 v
  have hp := q9H (Lib.decDigits v) 0 d1 (by rw [d2]; omega)
  rw [d2, hc] at hp
  rw [q7u, q3P, hc]
  unfold digB at hd
  simp only [Bool.and_eq_true, decide_eq_true_eq] at hd
  unfold Lib.atoiAll Lib.parseMag
  have n43 : ¬ (c.toNat = 43) := by omega
  have n45 : ¬ (c.toNat = 45) := by omega
  simp only [n43, n45, or_self, reduceCtorEq, hp, not_false_eq_true, true_and, false_and, if_false]
  rw [if_neg (by omega)]
theorem qk6 {l : List UInt8} {v : Int} (h : Lib.atoiAll l = .ok v) : -9223372036854775808 <= v /\ v <= 9223372036854775807 := by
 unfold Lib.atoiAll at h
 split at h
 ·cases h
 ·rename_i c r
  simp only at h
  split at h
  ·cases h
  ·cases h
  ·rename_i u hu
   split at h
   ·cases h
   ·rename_i h1
    split at h
    ·cases h
    ·rename_i h2
     injection h with h
     by_cases hn : c.toNat = 45
     ·rw [if_pos hn] at h; omega
     ·rw [if_neg hn] at h; omega
theorem qeK (s : BA) (hs : s.size <= 100000000) : q9s s = some (rdI s, ()) := by
 rw [qez, qe7]
 unfold q45
 simp only [dYT (show s.size <= 281474976710656 by omega), cT]
 have hS := qjh s
 have no : (∀ n : Int, -1000000000 <= n -> n <= 1000000000 -> decB n = s -> False) -> rdI s = (0, false) := fun h => hS.elim id fun ⟨n, h1, h2, h3, _⟩ => (h n h1 h2 h3).elim
 cases ha : Lib.atoiAll s.data.toList with
 | range =>
  rw [no fun n h1 h2 h3 => by rw [<- h3, qbh n h1 h2] at ha; cases ha]
  rfl
 | ok v =>
  obtain ⟨r1, r2⟩ := qk6 ha
  simp only [oB, cF, jT v r1 r2, qG, q0p]
  by_cases hd : decB v = s
  ·rw [dYT hd]
   simp only [Bool.not_true, cF]
   by_cases hr : -1000000000 <= v /\ v <= 1000000000
   ·rw [dYT hr.1, dYT hr.2]
    have := qjb v hr.1 hr.2
    rw [hd] at this
    rw [this]; rfl
   ·have hb : (decide (-1000000000 <= v) && decide (v <= 1000000000)) = false := by
     rw [Bool.and_eq_false_iff, decide_eq_false_iff_not, decide_eq_false_iff_not]
     omega
    rw [hb, no fun n h1 h2 h3 => by
     rw [<- h3, qbh n h1 h2] at ha
     injection ha with ha
     omega]
    rfl
  ·rw [dYF hd, no fun n h1 h2 h3 => by
    rw [<- h3, qbh n h1 h2] at ha
    injection ha with ha
    rw [ha] at h3
    exact hd h3]
   rfl
 | _ =>
  rw [no fun n h1 h2 h3 => by rw [<- h3, qbh n h1 h2] at ha; cases ha]
  rfl
end Go.Den.S
