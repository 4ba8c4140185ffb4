/- PxO: equations of the functions of this seat as the executor tells them, or plain facts about them. Conditions: none here. -/
import Derived.Test.YtbgaejnkjmjkhaaDoorPxM
set_option linter.all false
namespace Go.Den.S
open Go Go.Den
theorem qdh (s : BA) : -1000000000 <= (rdI s).1 /\ (rdI s).1 <= 1000000000 := by
 rcases q9C s with h | ⟨n, h1, h2, _, h3⟩
 ·rw [h]; exact ⟨by decide, by decide⟩
 ·rw [h3]; exact ⟨h1, h2⟩
theorem qbo (d : DD) (s : BA) (hs : s.size <= 100000000) : yI d s = some ((rdI s).1, ((bif !(rdI s).2 then badB d q0P else d), ())) := by
 rw [jA, q5N s hs]
 simp only [oB, q2O d q0P (by decide)]
 cases (rdI s).2 <;> rfl
end Go.Den.S
