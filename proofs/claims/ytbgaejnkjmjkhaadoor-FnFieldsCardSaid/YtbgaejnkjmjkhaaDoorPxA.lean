/- PxA: equations of the functions of this seat as the executor tells them, or plain facts about them. Conditions: none here. -/
import Derived.Test.YtbgaejnkjmjkhaaDoorPuUnk
import Derived.Test.YtbgaejnkjmjkhaaDoorDenFour
import Derived.Lib.ItoaNum
import Derived.Lib.AtoiAll
set_option linter.all false
namespace Go.Den.S
open Go Go.Den
def mkB (l : List UInt8) : BA := ⟨l.toArray⟩
theorem q77 (l : List UInt8) : (mkB l).size = l.length := by simp [mkB, ByteArray.size]
theorem q8B (l m : List UInt8) : mkB l ++ mkB m = mkB (l ++ m) := q5A (by simp [mkB])
def decB (n : Int) : BA := mkB (Lib.itoa n)
theorem q2f (n : Int) (h0 : -9223372036854775808 <= n) (h1 : n <= 9223372036854775807) : q19 n = some (decB n, ()) := by
 rw [q7n, q7M]
 unfold q0L
 simp only [dYT h0, dYT h1, Bool.and_self, cT, oB]
 rfl
theorem q63 (d : Nat) (h : d < 10) : q1n (d : Int) = some (((48 + d : Nat) : Int), ()) := by
 rw [q6C]
 have e : (Go.IntKind.u8.wrap (w64 (48 + (d : Int)))) = ((48 + d : Nat) : Int) := by
  show IntKind.u8.wrap (IntKind.i64.wrap _) = _
  rw [qG (by omega) (by omega), q8X (by omega) (by omega)]; omega
 simp only [dYT (show (d : Int) < 10 by omega), cT, e]
theorem q5W (u : Nat) (h : ¬ u < 10) : Lib.decDigits u = Lib.decDigits (u / 10) ++ [UInt8.ofNat (48 + u % 10)] := by
 rw [Lib.decDigits, dif_neg h]
theorem q9N (k u : Nat) (h : u < 10 ^ (k + 1)) : (Lib.decDigits u).length <= k + 1 := by
 induction k generalizing u with
 | zero =>
  rw [Lib.decDigits, dif_pos (by simpa using h)]
  simp
 | succ k ih =>
  by_cases hu : u < 10
  ·rw [Lib.decDigits, dif_pos hu]; simp
  ·rw [q5W u hu, List.length_append]
   have := ih (u / 10) (by rw [Nat.pow_succ] at h; omega)
   simp only [List.length_singleton]
   omega
theorem qaH (neg : Bool) (k u : Nat) (acc : BA) (h1 : 1 <= u) (h2 : u < 10 ^ (k + 1)) (h3 : u <= 9000000000000000000) (h4 : acc.size + k <= 1000000)
  (ih : 10 <= u -> wF (if neg then -((u / 10 : Nat) : Int) else ((u / 10 : Nat) : Int)) neg ((⟨List.toArray [UInt8.ofNat (48 + u % 10)]⟩ : BA) ++ acc) = some ((if neg then mkB (45 :: Lib.decDigits (u / 10)) else mkB (Lib.decDigits (u / 10))) ++ ((⟨List.toArray [UInt8.ofNat (48 + u % 10)]⟩ : BA) ++ acc), ())) :
  wF (if neg then -(u : Int) else (u : Int)) neg acc = some ((if neg then mkB (45 :: Lib.decDigits u) else mkB (Lib.decDigits u)) ++ acc, ()) := by
 have hsz : ∀ x : UInt8, (⟨List.toArray [x]⟩ : BA).size = 1 := fun _ => rfl
 have hround : wF (if neg then -(u : Int) else (u : Int)) neg acc = wF (if neg then -((u / 10 : Nat) : Int) else ((u / 10 : Nat) : Int)) neg ((⟨List.toArray [UInt8.ofNat (48 + u % 10)]⟩ : BA) ++ acc) := by
  conv => lhs; rw [q31]
  have hbyte : UInt8.ofNat (Int.toNat ((48 + u % 10 : Nat) : Int)) = UInt8.ofNat (48 + u % 10) := by rw [Int.toNat_natCast]
  cases neg with
  | false =>
   have k1 : ((u : Int) != 0) = true := by simp; omega
   have k2 : Int.tmod (u : Int) 10 = ((u % 10 : Nat) : Int) := by rw [Int.tmod_eq_emod_of_nonneg (by omega)]; omega
   have k3 : w64 (Int.tdiv (u : Int) 10) = ((u / 10 : Nat) : Int) := by
    show IntKind.i64.wrap _ = _
    rw [Int.tdiv_eq_ediv_of_nonneg (by omega), qG (by omega) (by omega)]; omega
   simp only [Bool.false_eq_true, if_false, k1, k2, k3, cT, dYF (show ¬ (((u % 10 : Nat) : Int) < 0) by omega), cF, q63 (u % 10) (by omega), oB, List.map_cons, List.map_nil, hbyte, hsz, yx (show 1 + acc.size <= 9223372036854775807 by omega)]
  | true =>
   have k1 : ((-(u : Int)) != 0) = true := by simp; omega
   have k2 : Int.tmod (-(u : Int)) 10 = -((u % 10 : Nat) : Int) := by rw [Int.neg_tmod, Int.tmod_eq_emod_of_nonneg (by omega)]; omega
   have k3 : w64 (Int.tdiv (-(u : Int)) 10) = -((u / 10 : Nat) : Int) := by
    show IntKind.i64.wrap _ = _
    rw [Int.neg_tdiv, Int.tdiv_eq_ediv_of_nonneg (by omega), qG (by omega) (by omega)]; omega
   have k4 : w64 (0 - (-((u % 10 : Nat) : Int))) = ((u % 10 : Nat) : Int) := by
    show IntKind.i64.wrap _ = _
    rw [qG (by omega) (by omega)]; omega
   simp only [if_true, k1, k2, k3, k4, cT]
   by_cases hz : (-((u % 10 : Nat) : Int)) < 0
   ·simp only [dYT hz, cT, q63 (u % 10) (by omega), oB, List.map_cons, List.map_nil, hbyte, hsz, yx (show 1 + acc.size <= 9223372036854775807 by omega)]
   ·have h0 : u % 10 = 0 := by omega
    have e0 : (-((u % 10 : Nat) : Int)) = ((0 : Nat) : Int) := by omega
    have hz' : decide ((-((u % 10 : Nat) : Int)) < 0) = false := dYF hz
    simp only [hz', cF]
    rw [e0]
    simp only [q63 0 (by omega), oB, List.map_cons, List.map_nil, hsz, yx (show 1 + acc.size <= 9223372036854775807 by omega), cT, Int.toNat_natCast]
    rw [h0]
 rw [hround]
 have hone : (⟨List.toArray [UInt8.ofNat (48 + u % 10)]⟩ : BA) = mkB [UInt8.ofNat (48 + u % 10)] := rfl
 by_cases hu : u < 10
 ·have e0 : u / 10 = 0 := by omega
  have e1 : u % 10 = u := by omega
  rw [e0, q31]
  have e2 : (if neg = true then -((0 : Nat) : Int) else ((0 : Nat) : Int)) = 0 := by split <;> rfl
  have hd : Lib.decDigits u = [UInt8.ofNat (48 + u)] := by rw [Lib.decDigits, dif_pos hu]
  rw [e2, hd]
  cases neg with
  | false => simp only [show ((0 : Int) != 0) = false from rfl, cF, e1, Bool.false_eq_true, if_false]; rfl
  | true =>
   have e3 : (zU : BA) = mkB [45] := rfl
   have e4 : (zU : BA).size = 1 := rfl
   simp only [show ((0 : Int) != 0) = false from rfl, cF, cT, ByteArray.size_append, e4, hsz, yx (show 1 + (1 + acc.size) <= 9223372036854775807 by omega), e1, if_true]
   rw [e3, show (⟨List.toArray [UInt8.ofNat (48 + u)]⟩ : BA) = mkB [UInt8.ofNat (48 + u)] from rfl, <- ByteArray.append_assoc, q8B]
   rfl
 ·rw [ih (by omega), hone, q5W u hu]
  cases neg with
  | false => simp only [Bool.false_eq_true, if_false]; rw [<- ByteArray.append_assoc, q8B]
  | true => simp only [if_true]; rw [<- ByteArray.append_assoc, q8B]; rfl
theorem q9V (neg : Bool) (k : Nat) : ∀ (u : Nat) (acc : BA), 1 <= u -> u < 10 ^ (k + 1) -> u <= 9000000000000000000 -> acc.size + k <= 1000000 ->
  wF (if neg then -(u : Int) else (u : Int)) neg acc = some ((if neg then mkB (45 :: Lib.decDigits u) else mkB (Lib.decDigits u)) ++ acc, ()) := by
 induction k with
 | zero => exact fun u acc h1 h2 h3 h4 => qaH neg 0 u acc h1 h2 h3 h4 (fun h => absurd h2 (by rw [Nat.zero_add, Nat.pow_one]; omega))
 | succ k ih =>
  exact fun u acc h1 h2 h3 h4 => qaH neg (k + 1) u acc h1 h2 h3 h4 fun h => ih (u / 10) _ (by omega) (by rw [Nat.pow_succ] at h2; omega) (by omega) (by
   rw [ByteArray.size_append]
   have : ∀ x : UInt8, (⟨List.toArray [x]⟩ : BA).size = 1 := fun _ => rfl
   rw [this]; omega)
theorem q0X (n : Int) (h0 : -9000000000000000000 <= n) (h1 : n <= 9000000000000000000) : q09 n = some (decB n, ()) := by
 rw [q7W]
 by_cases hz : n = 0
 ·subst hz
  have : decB 0 = c_0 := by
   unfold decB Lib.itoa
   rw [if_neg (by omega), show Int.toNat 0 = 0 from rfl, Lib.decDigits, dif_pos (by omega)]; rfl
  simp only [show ((0 : Int) == 0) = true from rfl, cT, this]
 ·have k0 : (n == 0) = false := by simpa using hz
  simp only [k0, cF]
  by_cases hn : n < 0
  ·have := q9V true 18 n.natAbs eB (by omega) (by omega) (by omega) (by decide)
   simp only [if_true, show -((n.natAbs : Nat) : Int) = n by omega] at this
   rw [dYT hn, this]
   unfold decB Lib.itoa
   rw [if_pos hn, ByteArray.append_empty]
  ·have := q9V false 18 n.toNat eB (by omega) (by omega) (by omega) (by decide)
   simp only [Bool.false_eq_true, if_false, show ((n.toNat : Nat) : Int) = n by omega] at this
   rw [dYF hn, this]
   unfold decB Lib.itoa
   rw [if_neg hn, ByteArray.append_empty]
theorem q0l (n : Int) (h0 : -9223372036854775808 <= n) (h1 : n <= 9223372036854775807) : (decB n).size <= 20 := by
 unfold decB Lib.itoa
 rw [q77]
 split
 ·have := q9N 18 n.natAbs (by omega)
  simp only [List.length_cons]; omega
 ·have := q9N 18 n.toNat (by omega)
  omega
def numB (n : Int) : BA := (jW ++ decB n) ++ qm
theorem zm (n : Int) (h0 : -9000000000000000000 <= n) (h1 : n <= 9000000000000000000) : y7 n = some (numB n, ()) := by
 rw [q8w, q2f n (by omega) (by omega)]
 have e1 : (jW : BA).size = 1 := rfl
 have e2 : (qm : BA).size = 2 := rfl
 have := q0l n (by omega) (by omega)
 simp only [oB, e1, e2, ByteArray.size_append, yx (show 1 + (decB n).size <= 9223372036854775807 by omega), yx (show 1 + (decB n).size + 2 <= 9223372036854775807 by omega), cT]
 rfl
theorem q4S (n : Int) (h0 : -9000000000000000000 <= n) (h1 : n <= 9000000000000000000) : q2T n = some (numB n, ()) := by
 rw [q84, q0X n (by omega) (by omega)]
 have e1 : (jW : BA).size = 1 := rfl
 have e2 : (qm : BA).size = 2 := rfl
 have := q0l n (by omega) (by omega)
 simp only [oB, e1, e2, ByteArray.size_append, yx (show 1 + (decB n).size <= 9223372036854775807 by omega), yx (show 1 + (decB n).size + 2 <= 9223372036854775807 by omega), cT]
 rfl
def yj (s : BA) : BA := (((wP ++ decB (s.size : Int)) ++ qm) ++ s) ++ qm
theorem q5I (s : BA) (h : s.size <= 1000000000) : q4g s = some (yj s, ()) := by
 rw [qap, q2f _ (by omega) (by omega)]
 have e1 : (wP : BA).size = 1 := rfl
 have e2 : (qm : BA).size = 2 := rfl
 have := q0l (s.size : Int) (by omega) (by omega)
 simp only [oB, e1, e2, ByteArray.size_append, yx (show 1 + (decB (s.size : Int)).size <= 9223372036854775807 by omega), yx (show 1 + (decB (s.size : Int)).size + 2 <= 9223372036854775807 by omega),
  yx (show 1 + (decB (s.size : Int)).size + 2 + s.size <= 9223372036854775807 by omega), yx (show 1 + (decB (s.size : Int)).size + 2 + s.size + 2 <= 9223372036854775807 by omega), cT]
 rfl
theorem q2j (s : BA) (h : s.size <= 1000000000) : q1f s = some (yj s, ()) := by
 rw [q9Z, q0X _ (by omega) (by omega)]
 have e1 : (wP : BA).size = 1 := rfl
 have e2 : (qm : BA).size = 2 := rfl
 have := q0l (s.size : Int) (by omega) (by omega)
 simp only [oB, e1, e2, ByteArray.size_append, yx (show 1 + (decB (s.size : Int)).size <= 9223372036854775807 by omega), yx (show 1 + (decB (s.size : Int)).size + 2 <= 9223372036854775807 by omega),
  yx (show 1 + (decB (s.size : Int)).size + 2 + s.size <= 9223372036854775807 by omega), yx (show 1 + (decB (s.size : Int)).size + 2 + s.size + 2 <= 9223372036854775807 by omega), cT]
 rfl
theorem qc9 (s : BA) (h : s.size <= 1000000000) : (yj s).size <= s.size + 30 := by
 have e1 : (wP : BA).size = 1 := rfl
 have e2 : (qm : BA).size = 2 := rfl
 have := q0l (s.size : Int) (by omega) (by omega)
 unfold yj
 simp only [ByteArray.size_append, e1, e2]
 omega
end Go.Den.S
