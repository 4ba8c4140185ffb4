/- PuWords: equations of the functions of this seat as the executor tells them, or plain facts about them. Conditions: none here. -/
import Derived.Test.YthfdlonnbkffnaaGreatDoorPuFam
set_option linter.all false
namespace Go.Den.S
open Go Go.Den
theorem qkG {n : Int} (h0 : 0 <= n) (h : 97 <= n /\ n <= 122) : IntKind.u8.wrap (n - 32) = upN n := by
 rw [qgg (by omega) (by omega)]
 unfold upN; rw [if_pos h]
theorem qeV {n : Int} (h : ¬ (97 <= n /\ n <= 122)) : upN n = n := by unfold upN; rw [if_neg h]
theorem q83 (s : BA) : (yJ s).length = s.size := q6k s
theorem q2v (s : BA) (hs : s.size <= 9223372036854775806) : ze s = some (upB s, ()) := by
 rw [qgx]
 have hl := q83 s
 refine (qbN (fun out i => q08 ((yJ s).length : Int) i out) (yJ s) upN fun out i hi ho hg => ?_).trans ?_
 ·show q08 _ (i : Int) out = q08 _ ((i : Int) + 1) (out.set i (upN ((yJ s).getD i 0)))
  rw [q9M]
  have k1 : decide ((i : Int) < ((yJ s).length : Int)) = true := dYT (by omega)
  have k2 : decide ((i : Int) < (out.length : Int)) = true := dYT (by omega)
  have k3 : decide (0 <= (i : Int)) = true := dYT (by omega)
  have k4 : w64 ((i : Int) + 1) = (i : Int) + 1 := qj (by omega) (by omega)
  have hm := qej (yg (d := 0) hi)
  simp only [k1, k2, k3, k4, Bool.and_self, cT, Int.toNat_natCast, hg]
  by_cases h1 : (yJ s).getD i 0 >= 97
  ·by_cases h2 : (yJ s).getD i 0 <= 122
   ·simp only [dYT h1, dYT h2, cT, qkG hm.1 ⟨h1, h2⟩]
   ·simp only [dYT h1, dYF h2, cT, cF]
    rw [qeV (by omega), <- hg, qba (by omega)]
  ·simp only [dYF h1, cF]
   rw [qeV (by omega), <- hg, qba (by omega)]
 ·show q08 _ _ _ = _
  rw [q9M]
  have k1 : decide (((yJ s).length : Int) < ((yJ s).length : Int)) = false := dYF (by omega)
  simp only [k1, cF]
  rfl
theorem zo (s : BA) (hs : s.size <= 9223372036854775806) : yF s = some (upB s, ()) := by
 rw [qgp]
 have hl := q83 s
 refine (qbN (fun out i => q0b out i) (yJ s) upN fun out i hi ho hg => ?_).trans ?_
 ·show q0b out (i : Int) = q0b (out.set i (upN ((yJ s).getD i 0))) ((i : Int) + 1)
  rw [q9N]
  have k2 : decide ((i : Int) < (out.length : Int)) = true := dYT (by omega)
  have k3 : decide (0 <= (i : Int)) = true := dYT (by omega)
  have k4 : w64 ((i : Int) + 1) = (i : Int) + 1 := qj (by omega) (by omega)
  have hm := qej (yg (d := 0) hi)
  simp only [k2, k3, k4, Bool.and_self, cT, Int.toNat_natCast, hg]
  by_cases h1 : (yJ s).getD i 0 >= 97
  ·by_cases h2 : (yJ s).getD i 0 <= 122
   ·simp only [dYT h1, dYT h2, cT, qkG hm.1 ⟨h1, h2⟩]
   ·simp only [dYT h1, dYF h2, cT, cF]
    rw [qeV (by omega), <- hg, qba (by omega)]
  ·simp only [dYF h1, cF]
   rw [qeV (by omega), <- hg, qba (by omega)]
 ·show q0b _ _ = _
  rw [q9N]
  have k1 : decide (((yJ s).length : Int) < (((yJ s).map upN).length : Int)) = false := dYF (by simp)
  simp only [k1, cF]
  rfl
theorem qlI (l : List BA) (x : BA) (hl : l.length <= 2097152) : ∃ n : Int, q0V l x = some (n, ()) /\ (0 <= n ↔ x ∈ l) := by
 rw [q61]
 refine q12 l eB (fun i r => ∃ n : Int, zW l x (l.length : Int) (i : Int) = some (n, ()) /\ (0 <= n ↔ x ∈ r)) ?_ fun i y r hi hy hm ih => ?_
 ·rw [q1i]
  exact ⟨-1, by simp, by simp⟩
 ·rw [q1i]
  have k1 : decide ((i : Int) < (l.length : Int)) = true := dYT (by omega)
  have k3 : decide (0 <= (i : Int)) = true := dYT (by omega)
  have k4 : w64 ((i : Int) + 1) = ((i + 1 : Nat) : Int) := qz (by omega)
  simp only [k1, k3, k4, Bool.and_self, cT, Int.toNat_natCast, hy, qG]
  by_cases h : x = y
  ·exact ⟨i, by simp only [dYT h, cT], by simp [h]⟩
  ·obtain ⟨n, e1, e2⟩ := ih
   exact ⟨n, by simp only [dYF h, cF, e1], by simp [e2, h]⟩
theorem qar (l : List BA) (x : BA) (hl : l.length <= 2097152) : wo l x = some (memB x l, ()) := by
 obtain ⟨n, e1, e2⟩ := qlI l x hl
 rw [q5b, e1, oB]
 have : decide (n >= 0) = memB x l := by
  by_cases h : x ∈ l
  ·rw [wP.2 h, dYT (e2.2 h)]
  ·rw [q6m.2 h, dYF fun h' => h (e2.1 h')]
 rw [this]
theorem q4F (l : List BA) (x : BA) (hl : l.length <= 2097152) : q1a l x = some (memB x l, ()) := by
 rw [qgJ]
 refine q12 l eB (fun i r => q5O l x (i : Int) = some (memB x r, ())) ?_ fun i y r hi hy hm ih => ?_
 ·rw [q9K]
  simp [memB]
 ·rw [q9K]
  have k1 : decide ((i : Int) < (l.length : Int)) = true := dYT (by omega)
  have k3 : decide (0 <= (i : Int)) = true := dYT (by omega)
  have k4 : w64 ((i : Int) + 1) = ((i + 1 : Nat) : Int) := qz (by omega)
  simp only [k1, k3, k4, Bool.and_self, cT, Int.toNat_natCast, hy, qG]
  by_cases h : y = x
  ·subst h; simp [memB]
  ·have : x ≠ y := fun e => h e.symm
   simp only [dYF h, cF, ih, memB, dYF this, Bool.false_or]
abbrev cmds : List BA := [q0f, q05, jr, q0L, zN, z8, za, yM, zV, zU, q0C, zO, zR, zI, zh, wm, q06, zD, q3b, q1d, q0i, zM, wM, zH, zF, q2a, q0Z, q2i, je, zn, jH, jL, q0H, q2m, jC, q63, jK, q02, wz, jW, q0J]
theorem q9B : q5P = some (cmds, ()) := qdy
abbrev ar0 : List BA := [q0f, q0i, zM, wM]
abbrev ar1 : List BA := [q05, jr, yM, zV, zU, q06, q3b, q1d, q2a, q0Z, q2i, q2m, jC, q63, jW, q0J]
abbrev ar2 : List BA := [q0L, zN, z8, za, q0C, zO, zD, zn, jL, wz]
abbrev ar3 : List BA := [je, jH]
abbrev ar4 : List BA := [zR, zh, wm]
abbrev ar5 : List BA := [zH, zF, q0H, jK, q02]
end Go.Den.S
