/- PuFam: equations of the functions of this seat as the executor tells them, or plain facts about them. Conditions: none here. -/
import Derived.Test.YtbgaejnkjmjkhaaDoorEqD0
import Derived.Test.YtbgaejnkjmjkhaaDoorDenFour
set_option linter.all false
namespace Go.Den.S
open Go Go.Den
abbrev qa9 : BA := ⟨#[65, 80, 80, 69, 78, 68]⟩
abbrev qd0 : BA := ⟨#[68, 69, 67, 82]⟩
abbrev qaB : BA := ⟨#[68, 69, 67, 82, 66, 89]⟩
abbrev qet : BA := ⟨#[71, 69, 84]⟩
abbrev q9E : BA := ⟨#[71, 69, 84, 83, 69, 84]⟩
abbrev qdi : BA := ⟨#[73, 78, 67, 82]⟩
abbrev q9F : BA := ⟨#[73, 78, 67, 82, 66, 89]⟩
abbrev qd6 : BA := ⟨#[77, 71, 69, 84]⟩
abbrev qfD : BA := ⟨#[77, 83, 69, 84]⟩
abbrev q8O : BA := ⟨#[80, 69, 82, 83, 73, 83, 84]⟩
abbrev qew : BA := ⟨#[83, 69, 84]⟩
abbrev qb1 : BA := ⟨#[83, 69, 84, 78, 88]⟩
abbrev q9p : BA := ⟨#[83, 84, 82, 76, 69, 78]⟩
noncomputable def q3x (l : List BA) (st : Int) (x : BA) : Option ((Int × Bool) × Unit) := if st = 1 then qQ l x else zC l x
def q3s (l : List BA) (n : Int) (xs : List BA) : Option (List BA × Unit) := some (l.take n.toNat ++ xs ++ l.drop n.toNat, ())
def q4y (l : List BA) (n m : Int) : Option (List BA × Unit) := some (l.take n.toNat ++ l.drop (n.toNat + m.toNat), ())
end Go.Den.S
