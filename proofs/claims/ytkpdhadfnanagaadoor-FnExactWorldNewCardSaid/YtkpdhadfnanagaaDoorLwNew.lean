/- It is proved here that for every room the program's WorldNew returns what the reference's WorldNew returns, in every field, and memory that is its own: the tied card. The conditions: the library's tables hold, when the call begins, what the program's text lays. -/
import Derived.Test.YtkpdhadfnanagaaDoorLawW
import Derived.Test.YtkpdhadfnanagaaDoorFbB
set_option linter.all false
namespace Go.Proofs.YtkpdhadfnanagaaDoor.fnExactWorldNew
open Go Go.Den Go.Den.S Go.Proofs.YtkpdhadfnanagaaDoor
set_option maxRecDepth 100000
theorem lifted (os : Os) (started : os.Started) (H : Type) (enc : TypeId × Value → H) :
    ReturnsInHanded {} Tryd.checked os 9 .any (fun w args => (Rows.fnExactWorldNewSpec.pre enc Tryd.prog Tryd.f9 [] false w args ∧ laidMetH Tryd.prog laidW w) ∧ sizedMet enc Tryd.prog Tryd.f9 (OpenSpec.ofChange Rows.fnExactWorldNewSpec) false w args)
      (Rows.fnExactWorldNewSpec.post enc Tryd.prog Tryd.f9 false true false false) := by
  refine handed_and (C := Tryd.checked) (laid := laidW) own started (by kernel_rfl) Tryd.func9
    (ChangeSpec.witness_shaped (enc := enc) (C := Tryd.checked) (os := os) (X := fun w _ => laidMetH Tryd.prog laidW w) false (World.laidAll Tryd.prog os laidW) #[.int .i64 0] 8 (World.laidAll_os _ _ _) (refW os _) (by kernel_rfl) (by kernel_rfl) (by kernel_rfl) (door_metW os _)) ?_
  intro W base args ds gs before hS hval hW hL
  refine law_post (Ts := [I]) (f := 9) (tb := 4) (gl := glW W) Tryd.func9 (c := _) (by rfl) (by kernel_rfl) (by kernel_rfl) (by kernel_rfl) (by kernel_rfl) (by kernel_rfl) (by kernel_rfl) rfl ?_ hval hW (fun b o h => h) ?_
  · intro ds h
    have h : ds.length = 1 := h.trans (by kernel_rfl)
    match ds, h with
    | [d], _ => exact ⟨rfl, rfl, rfl⟩
  · exact fun x h => ⟨(), callOkS_of rfl ((sound (tab_of hL)).call 9 x (true, ()) (law_New x.1))⟩
theorem over : Rows.fnExactWorldNewRow.holds Tryd.pinned (OpenSpec.ofChange Rows.fnExactWorldNewSpec) :=
  OpenClaim.holds_of_wide 9 Tryd.f9 rfl rfl rfl rfl rfl rfl rfl ⟨rfl, rfl, rfl, rfl, rfl⟩ rfl rfl rfl rfl rfl (by kernel_rfl) Tryd.func9 (by kernel_rfl)
    (of_decide_eq_true (by kernel_rfl)) (by unfold Func.isWrapper; first | (rw [if_pos (by decide +kernel)]; kernel_rfl) | (rw [if_neg (by decide +kernel)]; exact ⟨rfl, rfl⟩))
    (fun os started H enc _ => lifted os started H enc)
end Go.Proofs.YtkpdhadfnanagaaDoor.fnExactWorldNew
namespace Go.Proofs.YtkpdhadfnanagaaDoor
theorem fnExactWorldNew_holds : Rows.FnExactWorldNewCardSaid :=
  Claim7.holds_tied_plain_at .later [] [.data, .data, .data] true (true, "b951f0c2ab14e130a701cc83cc979ebe6d82fa453c9e450966601589b7102569") false
    fnExactWorldNew.over (fun _ h => by cases h) (by kernel_rfl) (fun _ h => by cases h) fnExactWorldNew_row_tie rfl ⟨rfl, rfl⟩ (by kernel_rfl) rfl
    (fun f fn hf hfn => by
      have e1 : f = 9 := (Option.some.inj ((show Tryd.prog.funcNamed "loop.example/g00124/laws.FnExactWorldNew" = some 9 by kernel_rfl).symm.trans hf)).symm
      subst e1
      have e2 : fn = Tryd.f9 := (Option.some.inj (Tryd.func9.symm.trans hfn)).symm
      subst e2
      exact ⟨by kernel_rfl, fun j t ht => by
        have hm : t ∈ Tryd.f9.params.toList := by simpa using Array.mem_of_getElem? ht
        have hall : (Tryd.f9.params.toList.all fun u => !Tryd.prog.wantsStandIn u) = true := by kernel_rfl
        exact (show Tryd.prog.wantsStandIn t = false by simpa using List.all_eq_true.1 hall t hm)⟩)
    (by kernel_rfl)
#print axioms fnExactWorldNew_holds
end Go.Proofs.YtkpdhadfnanagaaDoor
