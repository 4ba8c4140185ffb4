/- LawD: equations of the functions of this seat as the executor tells them, or plain facts about them. Conditions: none here. -/
import Derived.Test.YtkpdhadfnanagaaDoorExtD
import Derived.Test.YtkpdhadfnanagaaDoorRows
import Derived.Test.YtkpdhadfnanagaaDoorCards
import Derived.Test.YtkpdhadfnanagaaDoorTie
import Derived.WalkKit
import Derived.ProofKit
import Derived.LaidMore
import Derived.OpenShut
import Derived.Stop.Joined
import Derived.SevenTiedAt
set_option linter.all false
set_option linter.unusedSimpArgs false
set_option linter.unusedVariables false
namespace Go.Proofs.YtkpdhadfnanagaaDoor
open Go Go.Den Go.Den.S
set_option linter.unusedVariables false
set_option maxRecDepth 100000
theorem own : ownKnob Tryd.prog.godebug = none := by kernel_rfl
theorem count : noCount Tryd.prog := noCount_of (by kernel_rfl)
theorem gTab : Tryd.prog.globalNamed "strings.asciiSpace" = some 0 := by kernel_rfl
/-- The condition's list. -/
def laidA : List (String × DataW Unit) := [("unicode.White_Space", Rows.laid_unicode_White_Space), ("strings.asciiSpace", Rows.laid_strings_asciiSpace)]
theorem isTab : (Rows.laid_strings_asciiSpace : DataW Unit) = Lib.tabData .u8 Lib.asciiSpaceTab := by kernel_rfl
/-- The table of spaces, from the condition. -/
theorem tab_of {W : World} (h : laidMetH Tryd.prog laidA W) : Lib.TabIs Tryd.prog W "strings.asciiSpace" .u8 Lib.asciiSpaceTab := by
  rw [MakeChecks.laidMetH_plain _ _ _ (by kernel_rfl)] at h
  obtain ⟨ps, ⟨g0, t0, cs0, f0, p0, q0, hg0, ht0, hv0, hd0, ⟨g1, t1, cs1, f1, p1, q1, hg1, ht1, hv1, hd1, _, _⟩, _⟩, _, _⟩ := h
  rw [gTab] at hg1
  have e1 : g1 = 0 := (Option.some.inj hg1).symm
  subst e1
  have hty : (Tryd.prog.globals[0]?).map (·.type) = some t1 := ht1
  have h145 : (Tryd.prog.globals[0]?).map (·.type) = some 143 := by kernel_rfl
  rw [h145] at hty
  have e2 : t1 = 143 := (Option.some.inj hty).symm
  subst e2
  rw [isTab] at hd1
  have := Lib.cells_of_tab (n := 256) (e := 5) Tryd.underlying143 Tryd.underlying5 (by kernel_rfl) (by kernel_rfl) hd1
  show Tryd.prog.globalNamed _ >>= _ = _
  have h2 : W.var? Tryd.prog "strings.asciiSpace" = some cs1 := hv1
  show W.var? Tryd.prog "strings.asciiSpace" = _
  rw [h2, ← this]
/-- What lies there from the start: the table. -/
def glW (W : World) (b : Nat) (o : Obj) : Prop := b = 0 ∧ W.heap[b]? = some o
theorem tab_keep {W : World} (hT : Lib.TabIs Tryd.prog W "strings.asciiSpace" .u8 Lib.asciiSpaceTab) (w : World) (h : ∀ b o, glW W b o → w.heap[b]? = some o) : Lib.TabIs Tryd.prog w "strings.asciiSpace" .u8 Lib.asciiSpaceTab := by
  unfold Lib.TabIs World.var? at hT ⊢
  rw [gTab] at hT ⊢
  simp only [Option.bind_some] at hT ⊢
  cases ho : W.heap[0]? with
  | none => rw [ho] at hT; cases hT
  | some o =>
    rw [ho] at hT
    rw [h 0 o ⟨rfl, ho⟩]
    exact hT
theorem sound {W : World} (hT : Lib.TabIs Tryd.prog W "strings.asciiSpace" .u8 Lib.asciiSpaceTab) : FOk Tryd.prog V (glW W) (DF X) := DF_ok X _ (by kernel_rfl) count fun v f h x r hr => by
  by_cases hv : v = 114
  · subst hv
    have h : some (fun x => strings_FieldsF x) = some f := h
    cases h
    exact fields_ok (glW W) (tab_keep hT) x r hr
  · have : ext v = none := by
      unfold ext
      split
      · exact absurd rfl hv
      · rfl
    rw [show X.ext v = none from this] at h
    cases h
theorem door_met (os : Os) (args : Array Value) : laidMetH Tryd.prog laidA ((World.doorLaid Tryd.prog 400 os).forCall (fun _ _ => 0) ⟨#[], args, []⟩).memory :=
  laidMetH_of_parts3 (fuel := 8) (laidMet_of_run' 8 (by kernel_rfl) (by kernel_rfl)) (by kernel_rfl) (by kernel_rfl)
theorem door_ref (os : Os) (args : Array Value) : ((World.doorLaid Tryd.prog 400 os).forCall (fun _ _ => 0) ⟨#[], args, []⟩).Shaped Tryd.prog := World.shaped_of_RefB (by kernel_rfl) (by kernel_rfl)
end Go.Proofs.YtkpdhadfnanagaaDoor
