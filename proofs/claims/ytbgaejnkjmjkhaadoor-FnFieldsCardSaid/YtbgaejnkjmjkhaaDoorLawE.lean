/- LawE: equations of the functions of this seat as the executor tells them, or plain facts about them. Conditions: none here. -/
import Derived.Test.YtbgaejnkjmjkhaaDoorExtF
import Derived.Test.YtbgaejnkjmjkhaaDoorRows
import Derived.Test.YtbgaejnkjmjkhaaDoorCards
import Derived.Test.YtbgaejnkjmjkhaaDoorTie
import Derived.WalkKit
import Derived.ProofKit
import Derived.LaidMore
import Derived.OpenShut
import Derived.Stop.Joined
import Derived.SevenTiedAt
set_option linter.all false
namespace Go.Proofs.YtbgaejnkjmjkhaaDoor
open Go Go.Den Go.Den.S
set_option maxRecDepth 100000
theorem own : ownKnob Tryd.prog.godebug = none := by kernel_rfl
theorem count : q6j Tryd.prog := qcd (by kernel_rfl)
theorem gTab : Tryd.prog.globalNamed "strings.asciiSpace" = some 0 := by kernel_rfl
theorem gPow : Tryd.prog.globalNamed "internal/strconv.uint64pow10" = some 5 := by kernel_rfl
def q48 : List (String × DataW Unit) := [("math/bits.deBruijn32tab", Rows.laid_math_bits_deBruijn32tab), ("math/bits.deBruijn64tab", Rows.laid_math_bits_deBruijn64tab), ("internal/strconv.uint64pow10", Rows.laid_internal_strconv_uint64pow10), ("unicode.White_Space", Rows.laid_unicode_White_Space), ("strings.asciiSpace", Rows.laid_strings_asciiSpace)]
theorem qfM : (Rows.laid_strings_asciiSpace : DataW Unit) = Lib.tabData .u8 Lib.asciiSpaceTab := by kernel_rfl
theorem qfQ : (Rows.laid_internal_strconv_uint64pow10 : DataW Unit) = Lib.tabData .u64 Lib.pow10Tab := by kernel_rfl
theorem q6q {W : World} (h : laidMetH Tryd.prog q48 W) : Lib.TabIs Tryd.prog W "strings.asciiSpace" .u8 Lib.asciiSpaceTab /\ Lib.TabIs Tryd.prog W "internal/strconv.uint64pow10" .u64 Lib.pow10Tab := by
 rw [MakeChecks.laidMetH_plain _ _ _ (by kernel_rfl)] at h
 obtain ⟨ps, ⟨g0, t0, cs0, f0, p0, q0, hg0, ht0, hv0, hd0, ⟨g1, t1, cs1, f1, p1, q1, hg1, ht1, hv1, hd1, ⟨g2, t2, cs2, f2, p2, q2, hg2, ht2, hv2, hd2, ⟨g3, t3, cs3, f3, p3, q3, hg3, ht3, hv3, hd3, ⟨g4, t4, cs4, f4, p4, q4, hg4, ht4, hv4, hd4, _, _⟩, _⟩, _⟩, _⟩, _⟩, _, _⟩ := h
 constructor
 ·rw [gTab] at hg4
  have e1 : g4 = 0 := (Option.some.inj hg4).symm
  subst e1
  have hty : (Tryd.prog.globals[0]?).map (·.type) = some t4 := ht4
  have h1 : (Tryd.prog.globals[0]?).map (·.type) = some 108 := by kernel_rfl
  rw [h1] at hty
  have e2 : t4 = 108 := (Option.some.inj hty).symm
  subst e2
  rw [qfM] at hd4
  have := Lib.cells_of_tab (n := 256) (e := 5) Tryd.underlying108 Tryd.underlying5 (by kernel_rfl) (by kernel_rfl) hd4
  have h2 : W.var? Tryd.prog "strings.asciiSpace" = some cs4 := hv4
  show W.var? Tryd.prog "strings.asciiSpace" = _
  rw [h2, <- this]
 ·rw [gPow] at hg2
  have e1 : g2 = 5 := (Option.some.inj hg2).symm
  subst e1
  have hty : (Tryd.prog.globals[5]?).map (·.type) = some t2 := ht2
  have h1 : (Tryd.prog.globals[5]?).map (·.type) = some 159 := by kernel_rfl
  rw [h1] at hty
  have e2 : t2 = 159 := (Option.some.inj hty).symm
  subst e2
  rw [qfQ] at hd2
  have := Lib.cells_of_tab (n := 20) (e := 145) Tryd.underlying159 Tryd.underlying145 (by kernel_rfl) (by kernel_rfl) hd2
  have h2 : W.var? Tryd.prog "internal/strconv.uint64pow10" = some cs2 := hv2
  show W.var? Tryd.prog "internal/strconv.uint64pow10" = _
  rw [h2, <- this]
def glW (W : World) (b : Nat) (o : Obj) : Prop := W.heap[b]? = some o
theorem q9B {P : Program} {W w : World} {name : String} {cs : Array Value} (h : ∀ b o, glW W b o -> w.heap[b]? = some o) (hv : W.var? P name = some cs) : w.var? P name = some cs := by
 unfold World.var? at hv ⊢
 cases hg : P.globalNamed name with
 | none => rw [hg] at hv; cases hv
 | some g =>
  rw [hg] at hv
  simp only [oB] at hv ⊢
  cases ho : W.heap[g]? with
  | none => rw [ho] at hv; cases hv
  | some o =>
   rw [ho] at hv
   rw [h g o ho]
   exact hv
theorem sound {W : World} (hT : Lib.TabIs Tryd.prog W "strings.asciiSpace" .u8 Lib.asciiSpaceTab) (hP : Lib.TabIs Tryd.prog W "internal/strconv.uint64pow10" .u64 Lib.pow10Tab) : FOk Tryd.prog V (glW W) (DF X) := qfP X _ (by kernel_rfl) count fun v f h x r hr => by
 have h : ext v = some f := h
 unfold ext at h
 split at h
 ·cases h; exact q1i (qds (glW W) (fun w hw => q9B hw hT) x r hr)
 ·cases h; exact q1i (qco (glW W) x r hr)
 ·cases h; exact q1i (qfn (glW W) (fun w hw => q9B hw hP) x r hr)
 ·cases h; exact q1i (qeX (glW W) x r hr)
 ·cases h; exact q1i (qeQ (glW W) x r hr)
 ·cases h; exact q1i (qeW (glW W) x r hr)
 ·cases h; exact q1i (qfm (glW W) x r hr)
 ·cases h
theorem qax (os : Os) (args : Array Value) : laidMetH Tryd.prog q48 ((World.doorLaid Tryd.prog 400 os).forCall (fun _ _ => 0) ⟨#[], args, []⟩).memory :=
 laidMetH_of_parts3 (fuel := 8) (laidMet_of_run' 8 (by kernel_rfl) (by kernel_rfl)) (by kernel_rfl) (by kernel_rfl)
theorem q9w (os : Os) (args : Array Value) : ((World.doorLaid Tryd.prog 400 os).forCall (fun _ _ => 0) ⟨#[], args, []⟩).Shaped Tryd.prog := World.shaped_of_RefB (by kernel_rfl) (by kernel_rfl)
end Go.Proofs.YtbgaejnkjmjkhaaDoor
