/- EgD: equations of the functions of this seat as the executor tells them, or plain facts about them. Conditions: none here. -/
import Derived.Test.YtkpdhadfnanagaaDoorEgC
set_option linter.all false
namespace Go.Den.S
open Go Go.Den
/-! ### lists that go up -/
section
variable {α : Type} {lt : α → α → Bool}
end
/-! ### rows with keys -/
section
variable {β : Type}
end
end Go.Den.S
