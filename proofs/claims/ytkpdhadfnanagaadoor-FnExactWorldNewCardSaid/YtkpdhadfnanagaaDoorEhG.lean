/- EhG: equations of the functions of this seat as the executor tells them, or plain facts about them. Conditions: none here. -/
import Derived.Test.YtkpdhadfnanagaaDoorEhC
import Derived.Lib.ItoaNum
set_option linter.all false
namespace Go.Den.S
open Go Go.Den
/-! ### numbers and their texts -/
def mkB (l : List UInt8) : ByteArray := ⟨l.toArray⟩
theorem mkB_data (l : List UInt8) : (mkB l).data.toList = l := by simp [mkB]
theorem mkB_size (l : List UInt8) : (mkB l).size = l.length := by simp [mkB, ByteArray.size]
theorem mkB_app (l m : List UInt8) : mkB l ++ mkB m = mkB (l ++ m) := bytes_ext (by simp [mkB])
/-- A number's text. -/
def decB (n : Int) : ByteArray := mkB (Lib.itoa n)
theorem impl_Decimal_ok (n : Int) (h0 : -9223372036854775808 ≤ n) (h1 : n ≤ 9223372036854775807) : impl_Decimal n = some (decB n, ()) := by
  rw [impl_Decimal_eq, strconv_Itoa_eq]
  unfold strconv_ItoaF
  simp only [decide_eq_true h0, decide_eq_true h1, Bool.and_self, cond_true, Option.bind_some]
  rfl
theorem figure_ok (d : Nat) (h : d < 10) : spec_l01Figure (d : Int) = some (((48 + d : Nat) : Int), ()) := by
  rw [spec_l01Figure_eq]
  have e : (Go.IntKind.u8.wrap (w64 (48 + (d : Int)))) = ((48 + d : Nat) : Int) := by
    show IntKind.u8.wrap (IntKind.i64.wrap _) = _
    rw [wrap64_id (by omega) (by omega), wrapU8_id (by omega) (by omega)]; omega
  simp only [decide_eq_true (show (d : Int) < 10 by omega), cond_true, e]
theorem decD_step (u : Nat) (h : ¬ u < 10) : Lib.decDigits u = Lib.decDigits (u / 10) ++ [UInt8.ofNat (48 + u % 10)] := by
  rw [Lib.decDigits, dif_neg h]
theorem decD_len (k u : Nat) (h : u < 10 ^ (k + 1)) : (Lib.decDigits u).length ≤ k + 1 := by
  induction k generalizing u with
  | zero =>
    rw [Lib.decDigits, dif_pos (by simpa using h)]
    simp
  | succ k ih =>
    by_cases hu : u < 10
    · rw [Lib.decDigits, dif_pos hu]; simp
    · rw [decD_step u hu, List.length_append]
      have := ih (u / 10) (by rw [Nat.pow_succ] at h; omega)
      simp only [List.length_singleton]
      omega
theorem dec_step (neg : Bool) (k u : Nat) (acc : ByteArray) (h1 : 1 ≤ u) (h2 : u < 10 ^ (k + 1)) (h3 : u ≤ 9000000000000000000) (h4 : acc.size + k ≤ 1000000)
    (ih : 10 ≤ u → spec_Decimal_L0 (if neg then -((u / 10 : Nat) : Int) else ((u / 10 : Nat) : Int)) neg ((⟨List.toArray [UInt8.ofNat (48 + u % 10)]⟩ : ByteArray) ++ acc) = some ((if neg then mkB (45 :: Lib.decDigits (u / 10)) else mkB (Lib.decDigits (u / 10))) ++ ((⟨List.toArray [UInt8.ofNat (48 + u % 10)]⟩ : ByteArray) ++ acc), ())) :
    spec_Decimal_L0 (if neg then -(u : Int) else (u : Int)) neg acc = some ((if neg then mkB (45 :: Lib.decDigits u) else mkB (Lib.decDigits u)) ++ acc, ()) := by
  have hsz : ∀ x : UInt8, (⟨List.toArray [x]⟩ : ByteArray).size = 1 := fun _ => rfl
  have hround : spec_Decimal_L0 (if neg then -(u : Int) else (u : Int)) neg acc = spec_Decimal_L0 (if neg then -((u / 10 : Nat) : Int) else ((u / 10 : Nat) : Int)) neg ((⟨List.toArray [UInt8.ofNat (48 + u % 10)]⟩ : ByteArray) ++ acc) := by
    conv => lhs; rw [spec_Decimal_L0_eq]
    have hbyte : UInt8.ofNat (Int.toNat ((48 + u % 10 : Nat) : Int)) = UInt8.ofNat (48 + u % 10) := by rw [Int.toNat_natCast]
    cases neg with
    | false =>
      have k1 : ((u : Int) != 0) = true := by simp; omega
      have k2 : Int.tmod (u : Int) 10 = ((u % 10 : Nat) : Int) := by rw [Int.tmod_eq_emod_of_nonneg (by omega)]; omega
      have k3 : w64 (Int.tdiv (u : Int) 10) = ((u / 10 : Nat) : Int) := by
        show IntKind.i64.wrap _ = _
        rw [Int.tdiv_eq_ediv_of_nonneg (by omega), wrap64_id (by omega) (by omega)]; omega
      simp only [Bool.false_eq_true, if_false, k1, k2, k3, cond_true, decide_eq_false (show ¬ (((u % 10 : Nat) : Int) < 0) by omega), cond_false, figure_ok (u % 10) (by omega), Option.bind_some, List.map_cons, List.map_nil, hbyte, hsz, limS_true (show 1 + acc.size ≤ 9223372036854775807 by omega)]
    | true =>
      have k1 : ((-(u : Int)) != 0) = true := by simp; omega
      have k2 : Int.tmod (-(u : Int)) 10 = -((u % 10 : Nat) : Int) := by rw [Int.neg_tmod, Int.tmod_eq_emod_of_nonneg (by omega)]; omega
      have k3 : w64 (Int.tdiv (-(u : Int)) 10) = -((u / 10 : Nat) : Int) := by
        show IntKind.i64.wrap _ = _
        rw [Int.neg_tdiv, Int.tdiv_eq_ediv_of_nonneg (by omega), wrap64_id (by omega) (by omega)]; omega
      have k4 : w64 (0 - (-((u % 10 : Nat) : Int))) = ((u % 10 : Nat) : Int) := by
        show IntKind.i64.wrap _ = _
        rw [wrap64_id (by omega) (by omega)]; omega
      simp only [if_true, k1, k2, k3, k4, cond_true]
      by_cases hz : (-((u % 10 : Nat) : Int)) < 0
      · simp only [decide_eq_true hz, cond_true, figure_ok (u % 10) (by omega), Option.bind_some, List.map_cons, List.map_nil, hbyte, hsz, limS_true (show 1 + acc.size ≤ 9223372036854775807 by omega)]
      · have h0 : u % 10 = 0 := by omega
        have e0 : (-((u % 10 : Nat) : Int)) = ((0 : Nat) : Int) := by omega
        have hz' : decide ((-((u % 10 : Nat) : Int)) < 0) = false := decide_eq_false hz
        simp only [hz', cond_false]
        rw [e0]
        simp only [figure_ok 0 (by omega), Option.bind_some, List.map_cons, List.map_nil, hsz, limS_true (show 1 + acc.size ≤ 9223372036854775807 by omega), cond_true, Int.toNat_natCast]
        rw [h0]
  rw [hround]
  have hone : (⟨List.toArray [UInt8.ofNat (48 + u % 10)]⟩ : ByteArray) = mkB [UInt8.ofNat (48 + u % 10)] := rfl
  by_cases hu : u < 10
  · have e0 : u / 10 = 0 := by omega
    have e1 : u % 10 = u := by omega
    rw [e0, spec_Decimal_L0_eq]
    have e2 : (if neg = true then -((0 : Nat) : Int) else ((0 : Nat) : Int)) = 0 := by split <;> rfl
    have hd : Lib.decDigits u = [UInt8.ofNat (48 + u)] := by rw [Lib.decDigits, dif_pos hu]
    rw [e2, hd]
    cases neg with
    | false => simp only [show ((0 : Int) != 0) = false from rfl, cond_false, e1, Bool.false_eq_true, if_false]; rfl
    | true =>
      have e3 : (c___1_262 : ByteArray) = mkB [45] := rfl
      have e4 : (c___1_262 : ByteArray).size = 1 := rfl
      simp only [show ((0 : Int) != 0) = false from rfl, cond_false, cond_true, ByteArray.size_append, e4, hsz, limS_true (show 1 + (1 + acc.size) ≤ 9223372036854775807 by omega), e1, if_true]
      rw [e3, show (⟨List.toArray [UInt8.ofNat (48 + u)]⟩ : ByteArray) = mkB [UInt8.ofNat (48 + u)] from rfl, ← ByteArray.append_assoc, mkB_app]
      rfl
  · rw [ih (by omega), hone, decD_step u hu]
    cases neg with
    | false => simp only [Bool.false_eq_true, if_false]; rw [← ByteArray.append_assoc, mkB_app]
    | true => simp only [if_true]; rw [← ByteArray.append_assoc, mkB_app]; rfl
theorem dec_loop (neg : Bool) (k : Nat) : ∀ (u : Nat) (acc : ByteArray), 1 ≤ u → u < 10 ^ (k + 1) → u ≤ 9000000000000000000 → acc.size + k ≤ 1000000 →
    spec_Decimal_L0 (if neg then -(u : Int) else (u : Int)) neg acc = some ((if neg then mkB (45 :: Lib.decDigits u) else mkB (Lib.decDigits u)) ++ acc, ()) := by
  induction k with
  | zero => exact fun u acc h1 h2 h3 h4 => dec_step neg 0 u acc h1 h2 h3 h4 (fun h => absurd h2 (by rw [Nat.zero_add, Nat.pow_one]; omega))
  | succ k ih =>
    exact fun u acc h1 h2 h3 h4 => dec_step neg (k + 1) u acc h1 h2 h3 h4 fun h => ih (u / 10) _ (by omega) (by rw [Nat.pow_succ] at h2; omega) (by omega) (by
      rw [ByteArray.size_append]
      have : ∀ x : UInt8, (⟨List.toArray [x]⟩ : ByteArray).size = 1 := fun _ => rfl
      rw [this]; omega)
theorem spec_Decimal_ok (n : Int) (h0 : -9000000000000000000 ≤ n) (h1 : n ≤ 9000000000000000000) : spec_Decimal n = some (decB n, ()) := by
  rw [spec_Decimal_eq]
  by_cases hz : n = 0
  · subst hz
    have : decB 0 = c_0 := by
      unfold decB Lib.itoa
      rw [if_neg (by omega), show Int.toNat 0 = 0 from rfl, Lib.decDigits, dif_pos (by omega)]; rfl
    simp only [show ((0 : Int) == 0) = true from rfl, cond_true, this]
  · have k0 : (n == 0) = false := by simpa using hz
    simp only [k0, cond_false]
    by_cases hn : n < 0
    · have := dec_loop true 18 n.natAbs ByteArray.empty (by omega) (by omega) (by omega) (by decide)
      simp only [if_true, show -((n.natAbs : Nat) : Int) = n by omega] at this
      rw [decide_eq_true hn, this]
      unfold decB Lib.itoa
      rw [if_pos hn, ByteArray.append_empty]
    · have := dec_loop false 18 n.toNat ByteArray.empty (by omega) (by omega) (by omega) (by decide)
      simp only [Bool.false_eq_true, if_false, show ((n.toNat : Nat) : Int) = n by omega] at this
      rw [decide_eq_false hn, this]
      unfold decB Lib.itoa
      rw [if_neg hn, ByteArray.append_empty]
theorem decB_size (n : Int) (h0 : -9223372036854775808 ≤ n) (h1 : n ≤ 9223372036854775807) : (decB n).size ≤ 20 := by
  unfold decB Lib.itoa
  rw [mkB_size]
  split
  · have := decD_len 18 n.natAbs (by omega)
    simp only [List.length_cons]; omega
  · have := decD_len 18 n.toNat (by omega)
    omega
end Go.Den.S
