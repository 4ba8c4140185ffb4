/- PuFam: equations of the functions of this seat as the executor tells them, or plain facts about them. Conditions: none here. -/
import Derived.Test.YtbgaejnkjmjkhaaDoorEqD0
import Derived.Test.YtbgaejnkjmjkhaaDoorDenFour
set_option linter.all false
namespace Go.Den.S
open Go Go.Den
abbrev q7Y : BA := ⟨#[65, 80, 80, 69, 78, 68]⟩
abbrev qaP : BA := ⟨#[68, 69, 67, 82]⟩
abbrev q8J : BA := ⟨#[68, 69, 67, 82, 66, 89]⟩
abbrev qco : BA := ⟨#[71, 69, 84]⟩
abbrev q8z : BA := ⟨#[71, 69, 84, 83, 69, 84]⟩
abbrev qbl : BA := ⟨#[73, 78, 67, 82]⟩
abbrev q8k : BA := ⟨#[73, 78, 67, 82, 66, 89]⟩
abbrev qbf : BA := ⟨#[77, 71, 69, 84]⟩
abbrev qdr : BA := ⟨#[77, 83, 69, 84]⟩
abbrev q4i : BA := ⟨#[80, 69, 82, 83, 73, 83, 84]⟩
abbrev qcx : BA := ⟨#[83, 69, 84]⟩
abbrev q9r : BA := ⟨#[83, 69, 84, 78, 88]⟩
abbrev q8Q : BA := ⟨#[83, 84, 82, 76, 69, 78]⟩
end Go.Den.S
