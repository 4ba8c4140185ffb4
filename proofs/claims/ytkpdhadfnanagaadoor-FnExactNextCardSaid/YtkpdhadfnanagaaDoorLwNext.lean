/- It is proved here that for every connection the program's Next returns what the reference's Next returns, that it leaves its argument as it was, and that what it returns shares no memory with it: the tied card. The conditions: the library's tables hold, when the call begins, what the program's text lays. -/
import Derived.Test.YtkpdhadfnanagaaDoorLawN
import Derived.Test.YtkpdhadfnanagaaDoorFaE
set_option linter.all false
namespace Go.Proofs.YtkpdhadfnanagaaDoor.fnExactNext
open Go Go.Den Go.Den.S Go.Proofs.YtkpdhadfnanagaaDoor
set_option maxRecDepth 100000
theorem lifted (os : Os) (started : os.Started) (H : Type) (enc : TypeId × Value → H) :
    ReturnsInHanded {} Tryd.checked os 8 .any (fun w args => (Rows.fnExactNextSpec.pre enc Tryd.prog Tryd.f8 [] false w args ∧ laidMetH Tryd.prog laidN w) ∧ sizedMet enc Tryd.prog Tryd.f8 (OpenSpec.ofChange Rows.fnExactNextSpec) false w args)
      (Rows.fnExactNextSpec.post enc Tryd.prog Tryd.f8 false true false false) := by
  refine handed_and (C := Tryd.checked) (laid := laidN) own started (by kernel_rfl) Tryd.func8
    (ChangeSpec.witness_shaped (enc := enc) (C := Tryd.checked) (os := os) (X := fun w _ => laidMetH Tryd.prog laidN w) false (World.laidAll Tryd.prog os laidN) #[.agg #[.string ByteArray.empty, .bool false, .bool false, .slice none 0 0, .bool false]] 8 (World.laidAll_os _ _ _) (refN os _) (by kernel_rfl) (by kernel_rfl) (by kernel_rfl) (door_metN os _)) ?_
  intro W base args ds gs before hS hval hW hL
  refine law_post (Ts := [T_Conn]) (f := 9) (tb := 4) (gl := glW W) Tryd.func8 (c := _) (by rfl) (by kernel_rfl) (by kernel_rfl) (by kernel_rfl) (by kernel_rfl) (by kernel_rfl) (by kernel_rfl) rfl ?_ hval hW (fun b o h => h) ?_
  · intro ds h
    have h : ds.length = 1 := h.trans (by kernel_rfl)
    match ds, h with
    | [d], _ => exact ⟨rfl, rfl, rfl⟩
  · exact fun x h => ⟨(), callOkS_of rfl ((sound (tab_of (.inl hL)) hS).call 8 x (true, ()) (law_Next x.1 h.1))⟩
theorem over : Rows.fnExactNextRow.holds Tryd.pinned (OpenSpec.ofChange Rows.fnExactNextSpec) :=
  OpenClaim.holds_of_wide 8 Tryd.f8 rfl rfl rfl rfl rfl rfl rfl ⟨rfl, rfl, rfl, rfl, rfl⟩ rfl rfl rfl rfl rfl (by kernel_rfl) Tryd.func8 (by kernel_rfl)
    (of_decide_eq_true (by kernel_rfl)) (by unfold Func.isWrapper; first | (rw [if_pos (by decide +kernel)]; kernel_rfl) | (rw [if_neg (by decide +kernel)]; exact ⟨rfl, rfl⟩))
    (fun os started H enc _ => lifted os started H enc)
end Go.Proofs.YtkpdhadfnanagaaDoor.fnExactNext
namespace Go.Proofs.YtkpdhadfnanagaaDoor
theorem fnExactNext_holds : Rows.FnExactNextCardSaid :=
  Claim7.holds_tied_plain_at .later [] [.data, .listed, .data, .pinned] true (true, "b951f0c2ab14e130a701cc83cc979ebe6d82fa453c9e450966601589b7102569") false
    fnExactNext.over (fun _ h => by cases h) (by kernel_rfl) (fun _ h => by cases h) fnExactNext_row_tie rfl ⟨rfl, rfl⟩ (by kernel_rfl) rfl
    (fun f fn hf hfn => by
      have e1 : f = 8 := (Option.some.inj ((show Tryd.prog.funcNamed "loop.example/g00124/laws.FnExactNext" = some 8 by kernel_rfl).symm.trans hf)).symm
      subst e1
      have e2 : fn = Tryd.f8 := (Option.some.inj (Tryd.func8.symm.trans hfn)).symm
      subst e2
      exact ⟨by kernel_rfl, fun j t ht => by
        have hm : t ∈ Tryd.f8.params.toList := by simpa using Array.mem_of_getElem? ht
        have hall : (Tryd.f8.params.toList.all fun u => !Tryd.prog.wantsStandIn u) = true := by kernel_rfl
        exact (show Tryd.prog.wantsStandIn t = false by simpa using List.all_eq_true.1 hall t hm)⟩)
    (by kernel_rfl)
#print axioms fnExactNext_holds
end Go.Proofs.YtkpdhadfnanagaaDoor
