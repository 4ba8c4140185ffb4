/- PxA: equations of the functions of this seat as the executor tells them, or plain facts about them. Conditions: none here. -/
import Derived.Test.YtbgaejnkjmjkhaaDoorPuUnk
import Derived.Test.YtbgaejnkjmjkhaaDoorDenFour
import Derived.Lib.ItoaNum
import Derived.Lib.AtoiAll
set_option linter.all false
namespace Go.Den.S
open Go Go.Den
def mkB (l : List UInt8) : BA := ⟨l.toArray⟩
theorem jS (l : List UInt8) : (mkB l).data.toList = l := by simp [mkB]
theorem q5u (l : List UInt8) : (mkB l).size = l.length := by simp [mkB, ByteArray.size]
theorem q6j (l m : List UInt8) : mkB l ++ mkB m = mkB (l ++ m) := q1R (by simp [mkB])
def decB (n : Int) : BA := mkB (Lib.itoa n)
theorem q0d (n : Int) (h0 : -9223372036854775808 <= n) (h1 : n <= 9223372036854775807) : jC n = some (decB n, ()) := by
 rw [q5D, q5T]
 unfold q00
 simp only [dYT h0, dYT h1, Bool.and_self, cT, oB]
 rfl
theorem q47 (d : Nat) (h : d < 10) : q0D (d : Int) = some (((48 + d : Nat) : Int), ()) := by
 rw [q52]
 have e : (Go.IntKind.u8.wrap (w64 (48 + (d : Int)))) = ((48 + d : Nat) : Int) := by
  show IntKind.u8.wrap (IntKind.i64.wrap _) = _
  rw [qH (by omega) (by omega), q7j (by omega) (by omega)]; omega
 simp only [dYT (show (d : Int) < 10 by omega), cT, e]
theorem q4c (u : Nat) (h : ¬ u < 10) : Lib.decDigits u = Lib.decDigits (u / 10) ++ [UInt8.ofNat (48 + u % 10)] := by
 rw [Lib.decDigits, dif_neg h]
theorem q5k (k u : Nat) (h : u < 10 ^ (k + 1)) : (Lib.decDigits u).length <= k + 1 := by
 induction k generalizing u with
 | zero =>
  rw [Lib.decDigits, dif_pos (by simpa using h)]
  simp
 | succ k ih =>
  by_cases hu : u < 10
  ·rw [Lib.decDigits, dif_pos hu]; simp
  ·rw [q4c u hu, List.length_append]
   have := ih (u / 10) (by rw [Nat.pow_succ] at h; omega)
   simp only [List.length_singleton]
   omega
theorem q8A (neg : Bool) (k u : Nat) (acc : BA) (h1 : 1 <= u) (h2 : u < 10 ^ (k + 1)) (h3 : u <= 9000000000000000000) (h4 : acc.size + k <= 1000000)
  (ih : 10 <= u -> yP (if neg then -((u / 10 : Nat) : Int) else ((u / 10 : Nat) : Int)) neg ((⟨List.toArray [UInt8.ofNat (48 + u % 10)]⟩ : BA) ++ acc) = some ((if neg then mkB (45 :: Lib.decDigits (u / 10)) else mkB (Lib.decDigits (u / 10))) ++ ((⟨List.toArray [UInt8.ofNat (48 + u % 10)]⟩ : BA) ++ acc), ())) :
  yP (if neg then -(u : Int) else (u : Int)) neg acc = some ((if neg then mkB (45 :: Lib.decDigits u) else mkB (Lib.decDigits u)) ++ acc, ()) := by
 have hsz : ∀ x : UInt8, (⟨List.toArray [x]⟩ : BA).size = 1 := fun _ => rfl
 have hround : yP (if neg then -(u : Int) else (u : Int)) neg acc = yP (if neg then -((u / 10 : Nat) : Int) else ((u / 10 : Nat) : Int)) neg ((⟨List.toArray [UInt8.ofNat (48 + u % 10)]⟩ : BA) ++ acc) := by
  conv => lhs; rw [q1Z]
  have hbyte : UInt8.ofNat (Int.toNat ((48 + u % 10 : Nat) : Int)) = UInt8.ofNat (48 + u % 10) := by rw [Int.toNat_natCast]
  cases neg with
  | false =>
   have k1 : ((u : Int) != 0) = true := by simp; omega
   have k2 : Int.tmod (u : Int) 10 = ((u % 10 : Nat) : Int) := by rw [Int.tmod_eq_emod_of_nonneg (by omega)]; omega
   have k3 : w64 (Int.tdiv (u : Int) 10) = ((u / 10 : Nat) : Int) := by
    show IntKind.i64.wrap _ = _
    rw [Int.tdiv_eq_ediv_of_nonneg (by omega), qH (by omega) (by omega)]; omega
   simp only [Bool.false_eq_true, if_false, k1, k2, k3, cT, dYF (show ¬ (((u % 10 : Nat) : Int) < 0) by omega), cF, q47 (u % 10) (by omega), oB, List.map_cons, List.map_nil, hbyte, hsz, qN (show 1 + acc.size <= 9223372036854775807 by omega)]
  | true =>
   have k1 : ((-(u : Int)) != 0) = true := by simp; omega
   have k2 : Int.tmod (-(u : Int)) 10 = -((u % 10 : Nat) : Int) := by rw [Int.neg_tmod, Int.tmod_eq_emod_of_nonneg (by omega)]; omega
   have k3 : w64 (Int.tdiv (-(u : Int)) 10) = -((u / 10 : Nat) : Int) := by
    show IntKind.i64.wrap _ = _
    rw [Int.neg_tdiv, Int.tdiv_eq_ediv_of_nonneg (by omega), qH (by omega) (by omega)]; omega
   have k4 : w64 (0 - (-((u % 10 : Nat) : Int))) = ((u % 10 : Nat) : Int) := by
    show IntKind.i64.wrap _ = _
    rw [qH (by omega) (by omega)]; omega
   simp only [if_true, k1, k2, k3, k4, cT]
   by_cases hz : (-((u % 10 : Nat) : Int)) < 0
   ·simp only [dYT hz, cT, q47 (u % 10) (by omega), oB, List.map_cons, List.map_nil, hbyte, hsz, qN (show 1 + acc.size <= 9223372036854775807 by omega)]
   ·have h0 : u % 10 = 0 := by omega
    have e0 : (-((u % 10 : Nat) : Int)) = ((0 : Nat) : Int) := by omega
    have hz' : decide ((-((u % 10 : Nat) : Int)) < 0) = false := dYF hz
    simp only [hz', cF]
    rw [e0]
    simp only [q47 0 (by omega), oB, List.map_cons, List.map_nil, hsz, qN (show 1 + acc.size <= 9223372036854775807 by omega), cT, Int.toNat_natCast]
    rw [h0]
 rw [hround]
 have hone : (⟨List.toArray [UInt8.ofNat (48 + u % 10)]⟩ : BA) = mkB [UInt8.ofNat (48 + u % 10)] := rfl
 by_cases hu : u < 10
 ·have e0 : u / 10 = 0 := by omega
  have e1 : u % 10 = u := by omega
  rw [e0, q1Z]
  have e2 : (if neg = true then -((0 : Nat) : Int) else ((0 : Nat) : Int)) = 0 := by split <;> rfl
  have hd : Lib.decDigits u = [UInt8.ofNat (48 + u)] := by rw [Lib.decDigits, dif_pos hu]
  rw [e2, hd]
  cases neg with
  | false => simp only [show ((0 : Int) != 0) = false from rfl, cF, e1, Bool.false_eq_true, if_false]; rfl
  | true =>
   have e3 : (zl : BA) = mkB [45] := rfl
   have e4 : (zl : BA).size = 1 := rfl
   simp only [show ((0 : Int) != 0) = false from rfl, cF, cT, ByteArray.size_append, e4, hsz, qN (show 1 + (1 + acc.size) <= 9223372036854775807 by omega), e1, if_true]
   rw [e3, show (⟨List.toArray [UInt8.ofNat (48 + u)]⟩ : BA) = mkB [UInt8.ofNat (48 + u)] from rfl, <- ByteArray.append_assoc, q6j]
   rfl
 ·rw [ih (by omega), hone, q4c u hu]
  cases neg with
  | false => simp only [Bool.false_eq_true, if_false]; rw [<- ByteArray.append_assoc, q6j]
  | true => simp only [if_true]; rw [<- ByteArray.append_assoc, q6j]; rfl
theorem q7S (neg : Bool) (k : Nat) : ∀ (u : Nat) (acc : BA), 1 <= u -> u < 10 ^ (k + 1) -> u <= 9000000000000000000 -> acc.size + k <= 1000000 ->
  yP (if neg then -(u : Int) else (u : Int)) neg acc = some ((if neg then mkB (45 :: Lib.decDigits u) else mkB (Lib.decDigits u)) ++ acc, ()) := by
 induction k with
 | zero => exact fun u acc h1 h2 h3 h4 => q8A neg 0 u acc h1 h2 h3 h4 (fun h => absurd h2 (by rw [Nat.zero_add, Nat.pow_one]; omega))
 | succ k ih =>
  exact fun u acc h1 h2 h3 h4 => q8A neg (k + 1) u acc h1 h2 h3 h4 fun h => ih (u / 10) _ (by omega) (by rw [Nat.pow_succ] at h2; omega) (by omega) (by
   rw [ByteArray.size_append]
   have : ∀ x : UInt8, (⟨List.toArray [x]⟩ : BA).size = 1 := fun _ => rfl
   rw [this]; omega)
theorem q0e (n : Int) (h0 : -9000000000000000000 <= n) (h1 : n <= 9000000000000000000) : jv n = some (decB n, ()) := by
 rw [q6e]
 by_cases hz : n = 0
 ·subst hz
  have : decB 0 = c_0 := by
   unfold decB Lib.itoa
   rw [if_neg (by omega), show Int.toNat 0 = 0 from rfl, Lib.decDigits, dif_pos (by omega)]; rfl
  simp only [show ((0 : Int) == 0) = true from rfl, cT, this]
 ·have k0 : (n == 0) = false := by simpa using hz
  simp only [k0, cF]
  by_cases hn : n < 0
  ·have := q7S true 18 n.natAbs eB (by omega) (by omega) (by omega) (by decide)
   simp only [if_true, show -((n.natAbs : Nat) : Int) = n by omega] at this
   rw [dYT hn, this]
   unfold decB Lib.itoa
   rw [if_pos hn, ByteArray.append_empty]
  ·have := q7S false 18 n.toNat eB (by omega) (by omega) (by omega) (by decide)
   simp only [Bool.false_eq_true, if_false, show ((n.toNat : Nat) : Int) = n by omega] at this
   rw [dYF hn, this]
   unfold decB Lib.itoa
   rw [if_neg hn, ByteArray.append_empty]
theorem jJ (n : Int) (h0 : -9223372036854775808 <= n) (h1 : n <= 9223372036854775807) : (decB n).size <= 20 := by
 unfold decB Lib.itoa
 rw [q5u]
 split
 ·have := q5k 18 n.natAbs (by omega)
  simp only [List.length_cons]; omega
 ·have := q5k 18 n.toNat (by omega)
  omega
def numB (n : Int) : BA := (je ++ decB n) ++ qh
theorem wL (n : Int) (h0 : -9000000000000000000 <= n) (h1 : n <= 9000000000000000000) : yK n = some (numB n, ()) := by
 rw [q6o, q0d n (by omega) (by omega)]
 have e1 : (je : BA).size = 1 := rfl
 have e2 : (qh : BA).size = 2 := rfl
 have := jJ n (by omega) (by omega)
 simp only [oB, e1, e2, ByteArray.size_append, qN (show 1 + (decB n).size <= 9223372036854775807 by omega), qN (show 1 + (decB n).size + 2 <= 9223372036854775807 by omega), cT]
 rfl
theorem q6A (n : Int) (h0 : -9000000000000000000 <= n) (h1 : n <= 9000000000000000000) : q3a n = some (numB n, ()) := by
 rw [q6H, q0e n (by omega) (by omega)]
 have e1 : (je : BA).size = 1 := rfl
 have e2 : (qh : BA).size = 2 := rfl
 have := jJ n (by omega) (by omega)
 simp only [oB, e1, e2, ByteArray.size_append, qN (show 1 + (decB n).size <= 9223372036854775807 by omega), qN (show 1 + (decB n).size + 2 <= 9223372036854775807 by omega), cT]
 rfl
def zZ (s : BA) : BA := (((wC ++ decB (s.size : Int)) ++ qh) ++ s) ++ qh
theorem q4v (s : BA) (h : s.size <= 1000000000) : q33 s = some (zZ s, ()) := by
 rw [q8D, q0d _ (by omega) (by omega)]
 have e1 : (wC : BA).size = 1 := rfl
 have e2 : (qh : BA).size = 2 := rfl
 have := jJ (s.size : Int) (by omega) (by omega)
 simp only [oB, e1, e2, ByteArray.size_append, qN (show 1 + (decB (s.size : Int)).size <= 9223372036854775807 by omega), qN (show 1 + (decB (s.size : Int)).size + 2 <= 9223372036854775807 by omega),
  qN (show 1 + (decB (s.size : Int)).size + 2 + s.size <= 9223372036854775807 by omega), qN (show 1 + (decB (s.size : Int)).size + 2 + s.size + 2 <= 9223372036854775807 by omega), cT]
 rfl
theorem q8G (s : BA) (h : s.size <= 1000000000) : q2T s = some (zZ s, ()) := by
 rw [q7N, q0e _ (by omega) (by omega)]
 have e1 : (wC : BA).size = 1 := rfl
 have e2 : (qh : BA).size = 2 := rfl
 have := jJ (s.size : Int) (by omega) (by omega)
 simp only [oB, e1, e2, ByteArray.size_append, qN (show 1 + (decB (s.size : Int)).size <= 9223372036854775807 by omega), qN (show 1 + (decB (s.size : Int)).size + 2 <= 9223372036854775807 by omega),
  qN (show 1 + (decB (s.size : Int)).size + 2 + s.size <= 9223372036854775807 by omega), qN (show 1 + (decB (s.size : Int)).size + 2 + s.size + 2 <= 9223372036854775807 by omega), cT]
 rfl
theorem qa6 (s : BA) (h : s.size <= 1000000000) : (zZ s).size <= s.size + 30 := by
 have e1 : (wC : BA).size = 1 := rfl
 have e2 : (qh : BA).size = 2 := rfl
 have := jJ (s.size : Int) (by omega) (by omega)
 unfold zZ
 simp only [ByteArray.size_append, e1, e2]
 omega
end Go.Den.S
