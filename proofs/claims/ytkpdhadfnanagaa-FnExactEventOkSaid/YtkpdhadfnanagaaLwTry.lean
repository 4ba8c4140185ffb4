/- It is proved here that for every event the program's EventOk returns what the reference's EventOk returns, and that the event reads behind the call as it did. No condition: every event that can be. -/
import Derived.Test.YtkpdhadfnanagaaPuTry
import Derived.Test.YtkpdhadfnanagaaRows
import Derived.WalkKit
import Derived.ProofKit
set_option linter.all false
set_option linter.unusedSimpArgs false
set_option linter.unusedVariables false
namespace Go.Proofs.Ytkpdhadfnanagaa.fnExactEventOk
open Go Go.Den Go.Den.STry
set_option linter.unusedVariables false
theorem own : ownKnob Try.prog.godebug = none := by kernel_rfl
theorem count : noCount Try.prog := noCount_of (by kernel_rfl)
theorem sound : FOk Try.prog V (fun _ _ => False) (DF X) := DF_ok X _ (by kernel_rfl) count fun v f h => by cases h
set_option maxRecDepth 100000 in
theorem lifted (os : Os) (started : os.Started) (H : Type) (enc : TypeId × Value → H) :
    ReturnsInHanded {} Try.checked os 4 .any (Rows.fnExactEventOkSpec.pre6 enc Try.prog Try.f4 Rows.fnExactEventOkRow.domain false) (Rows.fnExactEventOkSpec.post enc Try.prog Try.f4 false true false false) := by
  refine returnsInHanded_of_change_sized (C := Try.checked) own started (by kernel_rfl) Try.func4
    (ChangeSpec.witness6 (enc := enc) (C := Try.checked) false ⟨#[], #[.agg #[.int .i64 0, .int .i64 0, .string ByteArray.empty, .int .i64 0, .bool false, .int .i64 0, .slice none 0 0]], []⟩ 8 (by kernel_rfl) (by kernel_rfl) (by kernel_rfl) (by kernel_rfl)) ?_
  intro W base args ds gs before hval hW hcnd hsz _
  refine law_post (Ts := [T_Event]) (f := 9) (tb := 4) (gl := fun _ _ => False) Try.func4 (c := _) (by rfl) (by kernel_rfl) (by kernel_rfl) (by kernel_rfl) (by kernel_rfl) (by kernel_rfl) (by kernel_rfl) rfl ?_ hval hW (fun b o h => h.elim) ?_
  · intro ds h
    have h : ds.length = 1 := h.trans (by kernel_rfl)
    match ds, h with
    | [d], _ => exact ⟨rfl, rfl, rfl⟩
  · exact fun x h => ⟨(), sound 4 x (true, ()) (law x.1 h.1)⟩
theorem over : Rows.fnExactEventOkRow.holds Try.pinned (OpenSpec.ofChange Rows.fnExactEventOkSpec) :=
  OpenClaim.holds_of_wide 4 Try.f4 rfl rfl rfl rfl rfl rfl rfl ⟨rfl, rfl, rfl, rfl, rfl⟩ rfl rfl rfl rfl rfl (by kernel_rfl) Try.func4 (by kernel_rfl)
    (of_decide_eq_true (by kernel_rfl)) (by unfold Func.isWrapper; first | (rw [if_pos (by decide +kernel)]; kernel_rfl) | (rw [if_neg (by decide +kernel)]; exact ⟨rfl, rfl⟩))
    (fun os started H enc _ => lifted os started H enc)
end Go.Proofs.Ytkpdhadfnanagaa.fnExactEventOk
namespace Go.Proofs.Ytkpdhadfnanagaa
/-- The row, under a short name, for the claim. -/
theorem fnExactEventOk_holds : Rows.FnExactEventOkSaid := fnExactEventOk.over
#print axioms fnExactEventOk_holds
end Go.Proofs.Ytkpdhadfnanagaa
