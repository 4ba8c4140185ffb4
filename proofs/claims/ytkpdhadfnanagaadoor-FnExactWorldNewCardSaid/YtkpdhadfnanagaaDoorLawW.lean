/- LawW: equations of the functions of this seat as the executor tells them, or plain facts about them. Conditions: none here. -/
import Derived.Test.YtkpdhadfnanagaaDoorExtE
import Derived.Test.YtkpdhadfnanagaaDoorRows
import Derived.Test.YtkpdhadfnanagaaDoorCards
import Derived.Test.YtkpdhadfnanagaaDoorTie
import Derived.WalkKit
import Derived.ProofKit
import Derived.LaidMore
import Derived.OpenShut
import Derived.Stop.Joined
import Derived.SevenTiedAt
import Derived.Shelf.LaysM
import Derived.Lay
import Derived.LaidOnce
set_option linter.all false
namespace Go.Proofs.YtkpdhadfnanagaaDoor
open Go Go.Den Go.Den.S
set_option maxRecDepth 100000
theorem own : ownKnob Tryd.prog.godebug = none := by kernel_rfl
theorem count : noCount Tryd.prog := noCount_of (by kernel_rfl)
theorem gPow : Tryd.prog.globalNamed "internal/strconv.uint64pow10" = some 5 := by kernel_rfl
/-- The condition's list. -/
def laidW : List (String × DataW Unit) := [("math/bits.deBruijn32tab", Rows.laid_math_bits_deBruijn32tab), ("math/bits.deBruijn64tab", Rows.laid_math_bits_deBruijn64tab), ("internal/strconv.uint64pow10", Rows.laid_internal_strconv_uint64pow10)]
theorem isPow : (Rows.laid_internal_strconv_uint64pow10 : DataW Unit) = Lib.tabData .u64 Lib.pow10Tab := by kernel_rfl
/-- The table of powers, from the condition. -/
theorem tab_of {W : World} (h : laidMetH Tryd.prog laidW W) : Lib.TabIs Tryd.prog W "internal/strconv.uint64pow10" .u64 Lib.pow10Tab := by
  have hty : (Tryd.prog.globals[5]?).map (·.type) = some 191 := by kernel_rfl
  rw [MakeChecks.laidMetH_plain _ _ _ (by kernel_rfl)] at h
  obtain ⟨ps, ⟨g0, t0, cs0, f0, p0, q0, hg0, ht0, hv0, hd0, ⟨g1, t1, cs1, f1, p1, q1, hg1, ht1, hv1, hd1, ⟨g2, t2, cs2, f2, p2, q2, hg2, ht2, hv2, hd2, _, _⟩, _⟩, _⟩, _, _⟩ := h
  obtain rfl : 5 = g2 := Option.some.inj (gPow.symm.trans hg2)
  obtain rfl : 191 = t2 := Option.some.inj (hty.symm.trans ht2)
  rw [isPow] at hd2
  have := Lib.cells_of_tab (n := 20) (e := 182) Tryd.underlying191 Tryd.underlying182 (by kernel_rfl) (by kernel_rfl) hd2
  have h2 : W.var? Tryd.prog "internal/strconv.uint64pow10" = some cs2 := hv2
  show W.var? Tryd.prog "internal/strconv.uint64pow10" = _
  rw [h2, ← this]
/-- What lies there from the start. -/
def glW (W : World) (b : Nat) (o : Obj) : Prop := W.heap[b]? = some o
theorem var_keep {P : Program} {W w : World} {name : String} {cs : Array Value} (h : ∀ b o, glW W b o → w.heap[b]? = some o) (hv : W.var? P name = some cs) : w.var? P name = some cs := by
  unfold World.var? at hv ⊢
  cases hg : P.globalNamed name with
  | none => rw [hg] at hv; cases hv
  | some g =>
    rw [hg] at hv
    simp only [Option.bind_some] at hv ⊢
    cases ho : W.heap[g]? with
    | none => rw [ho] at hv; cases hv
    | some o =>
      rw [ho] at hv
      rw [h g o ho]
      exact hv
theorem sound {W : World} (hP : Lib.TabIs Tryd.prog W "internal/strconv.uint64pow10" .u64 Lib.pow10Tab) : FOk Tryd.prog V (glW W) (DF X) := DF_ok X _ (by kernel_rfl) count (MapsC.none ..) (fun v f h x r hr => by
  have h : ext v = some f := h
  unfold ext at h
  split at h
  · cases h; cases hr
  · cases h; cases hr
  · cases h; cases hr
  · cases h; cases hr
  · cases h; exact callOk_of (itoa_ok (glW W) (fun w hw => var_keep hw hP) x r hr)
  · cases h)
/-- The lift of a law: the world's shape is told, too. -/
theorem handed_and {H : Type} {enc : TypeId × Value → H} {a : Assume} {C : Checked} {os : Os} {f : FuncId} {fn : Func} {s : ChangeSpec} {laid : List (String × DataW Unit)} {conds : List PathCond} {apart fresh handsOn again : Bool}
    (own : ownKnob C.prog.godebug = none) (started : os.Started) (noInit : C.prog.inits.idxOf? f = none) (hfn : C.prog.funcs[f]? = some fn)
    (witness : ∃ (w : World) (tape : Tape) (i : Input), w.os = os ∧ (w.forCall tape i).Shaped C.prog ∧ i.vars = [] ∧ Input.okWide C.prog (w.forCall tape i) .any w.heap.size f i ∧
      ((s.pre enc C.prog fn conds apart (w.forCall tape i).memory i.args ∧ laidMetH C.prog laid (w.forCall tape i).memory) ∧ sizedMet enc C.prog fn (OpenSpec.ofChange s) apart (w.forCall tape i).memory i.args) ∧ a.holds C.prog (lone (Frame.enter C.prog f i.args .normal) [] (w.forCall tape i)))
    (hc : ∀ (W : World) (base : Nat) (args : Array Value) (ds gs : List (DataW H)) (before : List MemPlace), W.ShapedOpen C.prog →
      (∀ (j : Nat) t v, fn.params[j]? = some t → args[j]? = some v → Value.okWide C.prog W .any base t v) → DataW.Whole enc C.prog fn.params.toList s.vars apart W args.toList ds gs before → laidMetH C.prog laid W →
      Calls C.prog f args W fun e W' => ∃ v, e = .returned v ∧ s.post enc C.prog fn apart fresh handsOn again W args v W') :
    ReturnsInHanded a C os f .any (fun w args => (s.pre enc C.prog fn conds apart w args ∧ laidMetH C.prog laid w) ∧ sizedMet enc C.prog fn (OpenSpec.ofChange s) apart w args) (s.post enc C.prog fn apart fresh handsOn again) :=
  returnsInHanded_of_calls own started noInit witness fun w tape i _ hS _ ⟨_, _, _, fn', hfn', _, _, _, _, hval⟩ ⟨⟨⟨ds, gs, before, hw, _⟩, hx⟩, _⟩ _ => by
    obtain rfl := Option.some.inj (hfn'.symm.trans hfn)
    refine (hc (w.forCall tape i) w.heap.size i.args ds gs before hS hval (DataW.Whole.of_heap (w' := w.forCall tape i) (by rfl) hw) (hx.of_heap (by rfl))).mono fun e W' ⟨v, he, hp⟩ => ?_
    subst he
    exact ChangeSpec.post_blind hp
theorem door_metW (os : Os) (args : Array Value) : laidMetH Tryd.prog laidW ((World.laidAll Tryd.prog os laidW).forCall (fun _ _ => 0) ⟨#[], args, []⟩).memory := by
  rw [MakeChecks.laidMetH_plain _ _ _ (by kernel_rfl)]
  exact laidMet_laidAll _ (by kernel_rfl) (by kernel_rfl)
theorem refW (os : Os) (args : Array Value) : ((World.laidAll Tryd.prog os laidW).forCall (fun _ _ => 0) ⟨#[], args, []⟩).Shaped Tryd.prog := World.shaped_of_ZipB (by kernel_rfl) (by kernel_rfl)
end Go.Proofs.YtkpdhadfnanagaaDoor
