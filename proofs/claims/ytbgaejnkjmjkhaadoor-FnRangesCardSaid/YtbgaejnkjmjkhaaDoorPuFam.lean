/- PuFam: equations of the functions of this seat as the executor tells them, or plain facts about them. Conditions: none here. -/
import Derived.Test.YtbgaejnkjmjkhaaDoorEqD0
import Derived.Test.YtbgaejnkjmjkhaaDoorDenFour
set_option linter.all false
namespace Go.Den.S
open Go Go.Den
abbrev q85 : BA := ⟨#[65, 80, 80, 69, 78, 68]⟩
abbrev qaM : BA := ⟨#[68, 69, 67, 82]⟩
abbrev q80 : BA := ⟨#[68, 69, 67, 82, 66, 89]⟩
abbrev qc9 : BA := ⟨#[71, 69, 84]⟩
abbrev q8F : BA := ⟨#[71, 69, 84, 83, 69, 84]⟩
abbrev qbw : BA := ⟨#[73, 78, 67, 82]⟩
abbrev q8j : BA := ⟨#[73, 78, 67, 82, 66, 89]⟩
abbrev qb1 : BA := ⟨#[77, 71, 69, 84]⟩
abbrev qdb : BA := ⟨#[77, 83, 69, 84]⟩
abbrev q75 : BA := ⟨#[80, 69, 82, 83, 73, 83, 84]⟩
abbrev qce : BA := ⟨#[83, 69, 84]⟩
abbrev q9I : BA := ⟨#[83, 69, 84, 78, 88]⟩
abbrev q7W : BA := ⟨#[83, 84, 82, 76, 69, 78]⟩
end Go.Den.S
