/- PuFam: equations of the functions of this seat as the executor tells them, or plain facts about them. Conditions: none here. -/
import Derived.Test.YthfdlonnbkffnaaGreatDoorEqD0
import Derived.Test.YthfdlonnbkffnaaGreatDoorEqD1
import Derived.Test.YthfdlonnbkffnaaGreatDoorDenFour
set_option linter.all false
namespace Go.Den.S
open Go Go.Den
theorem q9w (a : List BA) (left : Int) (h0 : 0 <= left) (h1 : left <= 2097152) (hl : a.length <= 9223372036854775807) (hs : ∀ s ∈ a, ByteArray.size s <= 9223372036854775807) :
  q3e a left = some (szv (wl ByteArray.size a) left, ()) := by
 rw [qcR]
 have e : w64 (left - (a.length : Int)) = left - (a.length : Int) := qj (by omega) (by omega)
 rw [e]
 rw [show wl ByteArray.size a = a.length + (a.map ByteArray.size).sum from rfl]
 by_cases h : left - (a.length : Int) < 0
 ·simp only [dYT h, cT]
  unfold szv
  rw [if_neg (by omega)]
 ·simp only [dYF h, cF]
  have key := q12 a eB (fun i r => ∀ left : Int, 0 <= left -> left <= 2097152 -> q3c a left (i : Int) = some (szv ((r.map (ByteArray.size)).sum) left, ())) (fun left h0 h1 => by
   rw [q6H]
   simp [szv, h0]) (fun i x r hi hx hm ih left h0 h1 => by
   rw [q6H]
   have hx1 : ByteArray.size x <= 9223372036854775807 := hs x hm
   have k1 : decide ((i : Int) < (a.length : Int)) = true := dYT (by omega)
   have k2 : decide (0 <= (i : Int)) = true := dYT (by omega)
   have k3 : w64 (left - (ByteArray.size x : Int)) = left - (ByteArray.size x : Int) := qj (by omega) (by omega)
   have k4 : w64 ((i : Int) + 1) = ((i + 1 : Nat) : Int) := qz (by omega)
   simp only [k1, k2, Bool.and_self, cT, Int.toNat_natCast, hx, k3, k4, List.map_cons, List.sum_cons]
   by_cases hn : left - (ByteArray.size x : Int) < 0
   ·simp only [dYT hn, cT]
    unfold szv
    rw [if_neg (by omega)]
   ·simp only [dYF hn, cF]
    rw [ih _ (by omega) (by omega)]
    unfold szv
    split <;> split <;> first | rfl | omega | (congr 2; omega))
  refine (key _ (by omega) (by omega)).trans ?_
  unfold szv
  split <;> split <;> first | rfl | omega | (congr 2; omega)
theorem q9j (a : List BA) (ha : a.length <= 2097152) : q0e a = some (a, ()) := by
 rw [qcP]
 have e : lim a.length 16 = true := yA (by omega)
 simp only [Int.le_refl, decide_true, Int.natCast_nonneg, Int.toNat_natCast, e, Bool.and_self, cT]
 refine (q8n (fun out i => q0O a out i) a eB (List.replicate a.length eB) (by simp) fun out i hi hl => ?_).trans ?_
 ·show q0O a out i = _
  rw [q6l]
  have e : w64 ((i : Int) + 1) = (i : Int) + 1 := qj (by omega) (by omega)
  have h1 : decide ((i : Int) < (a.length : Int)) = true := dYT (by omega)
  have h2 : decide ((i : Int) < (out.length : Int)) = true := dYT (by omega)
  have h3 : decide (0 <= (i : Int)) = true := dYT (by omega)
  simp only [h1, h2, h3, e, Bool.and_self, cT, Int.toNat_natCast]
 ·show q0O a a (a.length : Int) = _
  rw [q6l]
  simp
theorem q6J (a b : List BA) (ha : a.length <= 2097152) : q0n a b = some (decide (a = b), ()) := by
 rw [qcV]
 by_cases hl : a.length = b.length
 ·have e : ((a.length : Int) != (b.length : Int)) = false := by simp [hl]
  simp only [e, cF]
  refine qcH (fun i => q38 a b i) a b eB hl (fun i hi => ?_) ?_
  ·rw [q6t]
   have e : w64 ((i : Int) + 1) = (i : Int) + 1 := qj (by omega) (by omega)
   have h1 : decide ((i : Int) < (a.length : Int)) = true := dYT (by omega)
   have h2 : decide ((i : Int) < (b.length : Int)) = true := dYT (by omega)
   have h3 : decide (0 <= (i : Int)) = true := dYT (by omega)
   simp only [h1, h2, h3, e, Bool.and_self, cT, Int.toNat_natCast, qG]
   by_cases h : a.getD i eB = b.getD i eB <;> simp only [h, decide_true, decide_false, Bool.not_true, Bool.not_false, cT, cF, if_true, if_false]
  ·rw [q6t]
   simp
 ·have e : ((a.length : Int) != (b.length : Int)) = true := by simp; omega
  simp only [e, cT]
  have : a ≠ b := fun h => hl (by rw [h])
  simp [this]
theorem q8K (a : List (List BA)) (left : Int) (h0 : 0 <= left) (h1 : left <= 2097152) (hl : a.length <= 9223372036854775807) (hs : ∀ l ∈ a, l.length <= 9223372036854775807 /\ ∀ s ∈ l, ByteArray.size s <= 9223372036854775807) :
  q2J a left = some (szv (wl (wl ByteArray.size) a) left, ()) := by
 rw [qck]
 have e : w64 (left - (a.length : Int)) = left - (a.length : Int) := qj (by omega) (by omega)
 rw [e]
 rw [show wl (wl ByteArray.size) a = a.length + (a.map (wl ByteArray.size)).sum from rfl]
 by_cases h : left - (a.length : Int) < 0
 ·simp only [dYT h, cT]
  unfold szv
  rw [if_neg (by omega)]
 ·simp only [dYF h, cF]
  have key := q12 a [] (fun i r => ∀ left : Int, 0 <= left -> left <= 2097152 -> q2O a left (i : Int) = some (szv ((r.map (wl ByteArray.size)).sum) left, ())) (fun left h0 h1 => by
   rw [q64]
   simp [szv, h0]) (fun i x r hi hx hm ih left h0 h1 => by
   rw [q64]
   have k1 : decide ((i : Int) < (a.length : Int)) = true := dYT (by omega)
   have k2 : decide (0 <= (i : Int)) = true := dYT (by omega)
   have k4 : w64 ((i : Int) + 1) = ((i + 1 : Nat) : Int) := qz (by omega)
   simp only [k1, k2, Bool.and_self, cT, Int.toNat_natCast, hx, k4, List.map_cons, List.sum_cons, q9w x left h0 h1 (hs x hm).1 (hs x hm).2, oB]
   by_cases hn : szv (wl ByteArray.size x) left < 0
   ·simp only [dYT hn, cT]
    have := qmt hn h0
    unfold szv
    rw [if_neg (by omega)]
   ·simp only [dYF hn, cF]
    obtain ⟨k5, k6⟩ := q6g hn
    rw [k6, ih _ (by omega) (by omega)]
    unfold szv
    split <;> split <;> first | rfl | omega | (congr 2; omega))
  refine (key _ (by omega) (by omega)).trans ?_
  unfold szv
  split <;> split <;> first | rfl | omega | (congr 2; omega)
theorem q8M (a : List (List BA)) (ha : wl (wl ByteArray.size) a <= 2097152) : zq a = some (a, ()) := by
 have hlen : a.length <= 2097152 := wN ha
 rw [qc0]
 have e : lim a.length 24 = true := yA (by omega)
 simp only [Int.le_refl, decide_true, Int.natCast_nonneg, Int.toNat_natCast, e, Bool.and_self, cT]
 refine (q8n (fun out i => q0m a out i) a [] (List.replicate a.length []) (by simp) fun out i hi hl => ?_).trans ?_
 ·show q0m a out i = _
  rw [q6c]
  have e : w64 ((i : Int) + 1) = (i : Int) + 1 := qj (by omega) (by omega)
  have h1 : decide ((i : Int) < (a.length : Int)) = true := dYT (by omega)
  have h2 : decide ((i : Int) < (out.length : Int)) = true := dYT (by omega)
  have h3 : decide (0 <= (i : Int)) = true := dYT (by omega)
  simp only [h1, h2, h3, e, Bool.and_self, cT, Int.toNat_natCast, q9j _ (wN (jA ha (yg hi))), oB]
 ·show q0m a a (a.length : Int) = _
  rw [q6c]
  simp
theorem q8H (a b : List (List BA)) (ha : wl (wl ByteArray.size) a <= 2097152) : q2F a b = some (decide (a = b), ()) := by
 have hlen : a.length <= 2097152 := wN ha
 rw [qcv]
 by_cases hl : a.length = b.length
 ·have e : ((a.length : Int) != (b.length : Int)) = false := by simp [hl]
  simp only [e, cF]
  refine qcH (fun i => q2D a b i) a b [] hl (fun i hi => ?_) ?_
  ·rw [q66]
   have e : w64 ((i : Int) + 1) = (i : Int) + 1 := qj (by omega) (by omega)
   have h1 : decide ((i : Int) < (a.length : Int)) = true := dYT (by omega)
   have h2 : decide ((i : Int) < (b.length : Int)) = true := dYT (by omega)
   have h3 : decide (0 <= (i : Int)) = true := dYT (by omega)
   simp only [h1, h2, h3, e, Bool.and_self, cT, Int.toNat_natCast, q6J _ _ (wN (jA ha (yg hi))), oB]
   by_cases h : a.getD i [] = b.getD i [] <;> simp only [h, decide_true, decide_false, Bool.not_true, Bool.not_false, cT, cF, if_true, if_false]
  ·rw [q66]
   simp
 ·have e : ((a.length : Int) != (b.length : Int)) = true := by simp; omega
  simp only [e, cT]
  have : a ≠ b := fun h => hl (by rw [h])
  simp [this]
end Go.Den.S
