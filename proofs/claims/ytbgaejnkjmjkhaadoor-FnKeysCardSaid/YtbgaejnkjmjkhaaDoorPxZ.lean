/- PxZ: equations of the functions of this seat as the executor tells them, or plain facts about them. Conditions: none here. -/
import Derived.Test.YtbgaejnkjmjkhaaDoorPxY
set_option linter.all false
namespace Go.Den.S
open Go Go.Den
def keyN : List BA := [wY, q0L, zh, wZ, wI, zP, q3E, q4i, wX, yM, yG]
theorem qdv : strings_Fields zN = some (keyN, ()) := (yL _).trans (by kernel_rfl)
theorem qdf {t : List DE} (k : BA) (ht : tabB t = true) : (fndB t k).1.2.2.2.length <= 24 /\ (fndB t k).1.2.2.1.size <= 60 /\ ∀ s ∈ (fndB t k).1.2.2.2, s.size <= 60 := qdk (k := k) ht
theorem qcy (t : List DE) (ht : tabB t = true) (now : Int) (u k : BA) (vals : List BA) (hk : k.size <= 4194304) : Bd (keyD t now u k vals).1 := by
 have hb := q1q ht
 have has := q1C ht
 obtain ⟨n1, n2, n3⟩ := qdf k ht
 have hput : ∀ n m : Int, Bd (putB t k (n, (m, (fndB t k).1.2.2))) := fun n m => qdc ht hk (show (fndB t k).1.2.2.2.length <= _ by omega) (show (fndB t k).1.2.2.1.size <= _ by omega) fun s hs => by have := n3 s hs; omega
 unfold keyD
 cases decide (u = q0L)
 ·simp only [cF]
  cases decide (u = zh)
  ·simp only [cF]
   cases decide (u = wZ)
   ·simp only [cF]
    cases decide (u = wI)
    ·simp only [cF]
     cases decide (u = zP)
     ·simp only [cF]
      cases decide (u = q3E)
      ·simp only [cF]
       cases decide ((fndB t k).1.2.1 = 0)
       ·exact hput _ _
       ·exact hb
      ·exact hb
     ·simp only [cT]
      cases (rdI (gi vals 0)).2
      ·exact hb
      ·cases (fndB t k).2
       ·exact hb
       ·cases decide ((rdI (gi vals 0)).1 <= 0)
        ·cases decide (now + (rdI (gi vals 0)).1 > 100000)
         ·exact hput _ _
         ·exact hb
        ·exact q9f hb has
    ·exact hb
   ·exact (q3I false (k :: vals) (0, t) ⟨hb, has⟩).2.2.bd
  ·exact (q3I true (k :: vals) (0, t) ⟨hb, has⟩).2.2.bd
 ·exact hb
end Go.Den.S
