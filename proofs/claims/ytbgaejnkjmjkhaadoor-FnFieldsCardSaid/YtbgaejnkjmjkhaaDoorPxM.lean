/- PxM: equations of the functions of this seat as the executor tells them, or plain facts about them. Conditions: none here. -/
import Derived.Test.YtbgaejnkjmjkhaaDoorPxL
set_option linter.all false
namespace Go.Den.S
open Go Go.Den
def digB (c : UInt8) : Bool := decide (48 <= c.toNat) && decide (c.toNat <= 57)
def valL (l : List UInt8) (a : Nat) : Nat := l.foldl (fun a c => 10 * a + (c.toNat - 48)) a
theorem qdM (l m : List UInt8) (a : Nat) : valL (l ++ m) a = valL m (valL l a) := by simp [valL]
theorem q65 (d : Nat) (h : d < 10) : (UInt8.ofNat (48 + d)).toNat = 48 + d := by
 rw [UInt8.toNat_ofNat']
 omega
theorem qaY (k : Nat) : ∀ u : Nat, u < 10 ^ (k + 1) -> (∀ c ∈ Lib.decDigits u, digB c = true) /\ valL (Lib.decDigits u) 0 = u := by
 induction k with
 | zero =>
  intro u h
  have h : u < 10 := by simpa using h
  rw [Lib.decDigits, dif_pos h]
  have := q65 u h
  refine ⟨fun c hc => ?_, ?_⟩
  ·simp only [List.mem_singleton] at hc
   rw [hc]
   unfold digB
   rw [this, dYT (by omega), dYT (by omega)]; rfl
  ·show 10 * 0 + ((UInt8.ofNat (48 + u)).toNat - 48) = u
   rw [this]; omega
 | succ k ih =>
  intro u h
  by_cases hu : u < 10
  ·rw [Lib.decDigits, dif_pos hu]
   have := q65 u hu
   refine ⟨fun c hc => ?_, ?_⟩
   ·simp only [List.mem_singleton] at hc
    rw [hc]
    unfold digB
    rw [this, dYT (by omega), dYT (by omega)]; rfl
   ·show 10 * 0 + ((UInt8.ofNat (48 + u)).toNat - 48) = u
    rw [this]; omega
  ·obtain ⟨h1, h2⟩ := ih (u / 10) (by rw [Nat.pow_succ] at h; omega)
   have := q65 (u % 10) (by omega)
   rw [q5W u hu]
   refine ⟨fun c hc => ?_, ?_⟩
   ·rcases List.mem_append.1 hc with hc | hc
    ·exact h1 c hc
    ·simp only [List.mem_singleton] at hc
     rw [hc]
     unfold digB
     rw [this, dYT (by omega), dYT (by omega)]; rfl
   ·rw [qdM, h2]
    show 10 * (u / 10) + ((UInt8.ofNat (48 + u % 10)).toNat - 48) = u
    rw [this]; omega
theorem q75 (v : Nat) : decB (v : Int) = mkB (Lib.decDigits v) := by
 unfold decB Lib.itoa
 rw [if_neg (by omega), Int.toNat_natCast]
theorem q8G (v : Nat) : ∃ c r, Lib.decDigits v = c :: r /\ digB c = true := by
 have h1 : (Lib.decDigits v) ≠ [] := by
  rw [Lib.decDigits]
  split <;> simp
 match hd : Lib.decDigits v, h1 with
 | c :: r, _ => exact ⟨c, r, rfl, by
   obtain ⟨k, hk⟩ : ∃ k, v < 10 ^ (k + 1) := ⟨v, by
    have : ∀ n : Nat, n < 10 ^ (n + 1) := fun n => Nat.lt_of_lt_of_le (Nat.lt_pow_self (by omega)) (Nat.pow_le_pow_right (by omega) (by omega))
    exact this v⟩
   have := (qaY k v hk).1 c (by rw [hd]; exact List.mem_cons_self ..)
   exact this⟩
end Go.Den.S
