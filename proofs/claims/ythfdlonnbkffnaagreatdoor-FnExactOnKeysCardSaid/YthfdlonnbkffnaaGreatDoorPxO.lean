/- PxO: equations of the functions of this seat as the executor tells them, or plain facts about them. Conditions: none here. -/
import Derived.Test.YthfdlonnbkffnaaGreatDoorPxM
set_option linter.all false
set_option linter.unusedSimpArgs false
set_option linter.unusedVariables false
namespace Go.Den.S
open Go Go.Den
theorem rdI_in (s : ByteArray) : -1000000000 ≤ (rdI s).1 ∧ (rdI s).1 ≤ 1000000000 := by
  rcases rdI_one s with h | ⟨n, h1, h2, _, h3⟩
  · rw [h]; exact ⟨by decide, by decide⟩
  · rw [h3]; exact ⟨h1, h2⟩
theorem number_ok (d : DD) (s : ByteArray) (hs : s.size ≤ 100000000) : __loop_example_g00124_impl_desk__number d s = some ((rdI s).1, ((bif !(rdI s).2 then badB d c_ERR_integer else d), ())) := by
  rw [__loop_example_g00124_impl_desk__number_eq, impl_ReadInt_ok s hs]
  simp only [Option.bind_some, deskfault_ok d c_ERR_integer (by decide)]
  cases (rdI s).2 <;> rfl
end Go.Den.S
