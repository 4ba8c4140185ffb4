/- PxR: equations of the functions of this seat as the executor tells them, or plain facts about them. Conditions: none here. -/
import Derived.Test.YthfdlonnbkffnaaGreatDoorPxQ
set_option linter.all false
namespace Go.Den.S
open Go Go.Den
def txtN : List BA := [jr, q0L, zN, z8, za, yM, zV, zU, q0C, zO, zR, zI]
theorem qn7 : strings_Fields q2q = some (txtN, ()) := (wu _).trans (by kernel_rfl)
def jR (s : BA) : BA := (jQ ++ s) ++ qy
theorem q3i (s : BA) (h : s.size <= 2097152) : q1O s = some (jR s, ()) := by
 rw [qfs]
 have e1 : (jQ : BA).size = 1 := rfl
 have e2 : (qy : BA).size = 2 := rfl
 have k1 : limS (ByteArray.size jQ + ByteArray.size s) = true := yj (by omega)
 have k2 : limS (ByteArray.size (jQ ++ s) + ByteArray.size qy) = true := yj (by rw [ByteArray.size_append]; omega)
 simp only [k1, k2, cT]
 rfl
theorem q11 (s : BA) (h : s.size <= 2097152) : q2X s = some (jR s, ()) := by
 rw [qfT]
 have e1 : (jQ : BA).size = 1 := rfl
 have e2 : (qy : BA).size = 2 := rfl
 have k1 : limS (ByteArray.size jQ + ByteArray.size s) = true := yj (by omega)
 have k2 : limS (ByteArray.size (jQ ++ s) + ByteArray.size qy) = true := yj (by rw [ByteArray.size_append]; omega)
 simp only [k1, k2, cT]
 rfl
theorem bneI (a b : Int) : (a != b) = !decide (a = b) := by
 by_cases e : a = b
 ·simp [e]
 ·simp [e]
def txtR (v : DV) (found : Bool) : BA := bif !found then nilR else bif !(decide (v.1 = 1)) then nilR else zG v.2.2.1
theorem qce (v : DV) (found : Bool) (h : v.2.2.1.size <= 1000000000) : q1T v found = some (txtR v found, ()) := by
 rw [qcO, q7B, q2p _ h]
 unfold txtR
 simp only [bneI, oB]
 cases found <;> cases decide (v.1 = 1) <;> rfl
theorem qdv {t : List DE} (k : BA) (h : Bd t) : (fndB t k).1.2.2.1.size <= 4194304 := by
 unfold fndB
 cases hx : t.find? fun e => decide (e.1 = k) with
 | none => decide
 | some e => exact (h.szs e (List.mem_of_find?_eq_some hx)).2.1
theorem qek (t : List DE) (k : BA) (h : Bd t) : q2h t k = some (txtR (fndB t k).1 (fndB t k).2, ()) := by
 have hz := qdv k h
 rw [qdZ, q2o t k h]
 unfold txtR
 simp only [bneI, oB, q7J, q2g _ (show (fndB t k).1.2.2.1.size <= 1000000000 by omega)]
 cases (fndB t k).2 <;> cases decide ((fndB t k).1.1 = 1) <;> rfl
theorem qgd (t : List DE) (k x : BA) (h : Bd t) : q31 t k x = some (putB t k (1, (0, (x, []))), ()) := by
 rw [qfR, q0u t k _ h]; rfl
def cntD (t : List DE) (k : BA) (by_ : Int) : DD :=
 let v := undB t k
 let r := bif (fndB t k).2 then rdI v.2.1 else (0, true)
 bif !r.2 then (t, (yw qL, true))
 else bif !(decide (-1000000000 <= r.1 + by_) && decide (r.1 + by_ <= 1000000000)) then (t, (yw yx, true))
 else (putB t k (1, (v.1, (decB (r.1 + by_), v.2.2))), (numB (r.1 + by_), false))
theorem qmw : rdI c_0 = (0, true) := by
 have h := qjb 0 (by decide) (by decide)
 have e : decB 0 = c_0 := by
  unfold decB Lib.itoa
  rw [if_neg (by omega), show Int.toNat 0 = 0 from rfl, Lib.decDigits, dif_pos (by omega)]; rfl
 rw [e] at h
 exact h
theorem qdK (t : List DE) (ht : tabB t = true) (k : BA) (by_ : Int) (h1 : -1000000000 <= by_ /\ by_ <= 1000000000) (hw : qH t k 1 = false) : qI (t, (eB, false)) k by_ = some ((), (cntD t k by_, ())) := by
 have hb := wR ht
 have has := q1m ht
 obtain ⟨n1, n2, n3⟩ := jE (k := k) ht
 rw [q0s, q58 t k 1 hb]
 simp only [oB, hw, cF]
 unfold cntD
 cases hf : (fndB t k).2 with
 | false =>
  have hu : undB t k = (0, (eB, [])) := by
   unfold undB
   unfold fndB at hf ⊢
   cases hx : t.find? fun e => decide (e.1 = k) with
   | none => rfl
   | some e => rw [hx] at hf; cases hf
  have w1 : w64 ((0 : Int) + by_) = 0 + by_ := qj (by omega) (by omega)
  simp only [Bool.not_false, cT, q3u _ c_0 (by decide), qmw, Bool.not_true, cF, oB, w1, q0p, jT (0 + by_) (by omega) (by omega), qM (0 + by_) (by omega) (by omega), q21 _ yx (by decide), yR]
  cases hr : (decide (-1000000000 <= 0 + by_) && decide (0 + by_ <= 1000000000)) with
  | false =>
   simp only [Bool.not_false, cT]
   rw [yN _ k _ hb has]
   rfl
  | true =>
   simp only [Bool.not_true, cF]
   rw [yN _ k _ hb has, hu]
   rfl
 | true =>
  have i0 := q1u (undB t k).2.1
  have w1 : w64 ((rdI (undB t k).2.1).1 + by_) = (rdI (undB t k).2.1).1 + by_ := qj (by omega) (by omega)
  have hk : (fndB t k).1.1 = 1 := by
   unfold qH at hw
   rw [hf] at hw
   simpa using hw
  simp only [Bool.not_true, cF, cT, hk]
  rw [q3u _ _ (by omega)]
  simp only [oB, w1, q0p, jT ((rdI (undB t k).2.1).1 + by_) (by omega) (by omega), qM ((rdI (undB t k).2.1).1 + by_) (by omega) (by omega), q21 _ yx (by decide), yR]
  cases hr : (rdI (undB t k).2.1).2 with
  | false =>
   simp only [Bool.not_false, cT]
   cases hq : (decide (-1000000000 <= (rdI (undB t k).2.1).1 + by_) && decide ((rdI (undB t k).2.1).1 + by_ <= 1000000000)) with
   | false =>
    simp only [Bool.not_false, cT]
    rw [yN _ k _ hb has]
    rfl
   | true =>
    simp only [Bool.not_true, cF]
    rw [yN _ k _ hb has]
    rfl
  | true =>
   simp only [Bool.not_true, cF]
   cases hq : (decide (-1000000000 <= (rdI (undB t k).2.1).1 + by_) && decide ((rdI (undB t k).2.1).1 + by_ <= 1000000000)) with
   | false =>
    simp only [Bool.not_false, cT]
    rw [yN _ k _ hb has]
    rfl
   | true =>
    simp only [Bool.not_true, cF]
    rw [yN _ k _ hb has]
    rfl
end Go.Den.S
