/- PxJ: equations of the functions of this seat as the executor tells them, or plain facts about them. Conditions: none here. -/
import Derived.Test.YtbgaejnkjmjkhaaDoorPxI
set_option linter.all false
namespace Go.Den.S
open Go Go.Den
abbrev PF : Type := BA × BA
def yX (P : List PF) : List BA := P.flatMap fun p => [p.1, p.2]
theorem q5C (p : PF) (P : List PF) : yX (p :: P) = p.1 :: p.2 :: yX P := rfl
theorem qb7 (P Q : List PF) : yX (P ++ Q) = yX P ++ yX Q := by simp [yX]
theorem q40 : ∀ P : List PF, (yX P).length = P.length * 2
 | [] => rfl
 | p :: P => by rw [q5C, List.length_cons, List.length_cons, q40 P, List.length_cons]; omega
theorem qbB {P : List PF} {s : BA} (h : s ∈ yX P) : ∃ p ∈ P, s = p.1 \/ s = p.2 := by
 unfold yX at h
 obtain ⟨p, hp, hs⟩ := List.mem_flatMap.1 h
 simp only [List.mem_cons, List.not_mem_nil, or_false] at hs
 exact ⟨p, hp, hs⟩
theorem q4k : ∀ (P : List PF) (j : Nat) (h : j < P.length), (yX P).getD (j * 2) eB = P[j].1 /\ (yX P).getD (j * 2 + 1) eB = P[j].2
 | p :: P, 0, _ => ⟨rfl, rfl⟩
 | p :: P, j + 1, h => by
  have := q4k P j (by simpa using h)
  rw [q5C, show (j + 1) * 2 = j * 2 + 1 + 1 by omega]
  exact this
def AscF (P : List PF) : Prop := P.Pairwise fun a b => blt a.1 b.1 = true
end Go.Den.S
