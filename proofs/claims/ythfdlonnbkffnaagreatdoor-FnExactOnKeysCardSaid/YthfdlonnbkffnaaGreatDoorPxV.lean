/- PxV: equations of the functions of this seat as the executor tells them, or plain facts about them. Conditions: none here. -/
import Derived.Test.YthfdlonnbkffnaaGreatDoorPxS
set_option linter.all false
set_option linter.unusedSimpArgs false
set_option linter.unusedVariables false
namespace Go.Den.S
open Go Go.Den
structure BdN (n : Nat) (t : List DE) : Prop where
  len : t.length ≤ n
  its : ∀ e ∈ t, e.2.2.2.2.length ≤ 4194304
  szs : ∀ e ∈ t, e.1.size ≤ 4194304 ∧ e.2.2.2.1.size ≤ 4194304 ∧ ∀ s ∈ e.2.2.2.2, s.size ≤ 4194304
theorem BdN.bd {n : Nat} {t : List DE} (h : BdN n t) (hn : n ≤ 4194304) : Bd t := ⟨Nat.le_trans h.len hn, h.its, h.szs⟩
end Go.Den.S
