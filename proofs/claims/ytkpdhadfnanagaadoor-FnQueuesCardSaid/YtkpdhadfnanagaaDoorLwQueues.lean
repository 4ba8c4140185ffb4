/- It is proved here that the law FnQueues answers true at every input: what is queued between MULTI and EXEC is handed on as it stood, a command that is none spoils it all, DISCARD drops it: the tied card. The conditions: the library's tables hold, when the call begins, what the program's text lays. -/
import Derived.Test.YtkpdhadfnanagaaDoorLawN
import Derived.Test.YtkpdhadfnanagaaDoorFcD
set_option linter.all false
namespace Go.Proofs.YtkpdhadfnanagaaDoor.fnQueues
open Go Go.Den Go.Den.S Go.Proofs.YtkpdhadfnanagaaDoor
set_option maxRecDepth 100000
theorem lifted (os : Os) (started : os.Started) (H : Type) (enc : TypeId × Value → H) :
    ReturnsInHanded {} Tryd.checked os 4 .any (fun w args => (Rows.fnQueuesSpec.pre enc Tryd.prog Tryd.f4 [] false w args ∧ laidMetH Tryd.prog laidQ w) ∧ sizedMet enc Tryd.prog Tryd.f4 (OpenSpec.ofChange Rows.fnQueuesSpec) false w args)
      (Rows.fnQueuesSpec.post enc Tryd.prog Tryd.f4 false true false false) := by
  refine handed_and (C := Tryd.checked) (laid := laidQ) own started (by kernel_rfl) Tryd.func4
    (ChangeSpec.witness_shaped (enc := enc) (C := Tryd.checked) (os := os) (X := fun w _ => laidMetH Tryd.prog laidQ w) false (World.doorLaid Tryd.prog 400 os) #[.slice none 0 0] 8 rfl (door_ref os _) (by kernel_rfl) (by kernel_rfl) (by kernel_rfl) (door_metQ os _)) ?_
  intro W base args ds gs before hS hval hW hL
  refine law_post (Ts := [.sl (.int .u8)]) (f := 9) (tb := 4) (gl := glW W) Tryd.func4 (c := _) (by rfl) (by kernel_rfl) (by kernel_rfl) (by kernel_rfl) (by kernel_rfl) (by kernel_rfl) (by kernel_rfl) rfl ?_ hval hW (fun b o h => h) ?_
  · intro ds h
    have h : ds.length = 1 := h.trans (by kernel_rfl)
    match ds, h with
    | [d], _ => exact ⟨rfl, rfl, rfl⟩
  · exact fun x h => ⟨(), callOkS_of rfl ((sound (tab_of (.inr hL)) hS).call 4 x (true, ()) (law_FnQueues x.1))⟩
theorem over : Rows.fnQueuesRow.holds Tryd.pinned (OpenSpec.ofChange Rows.fnQueuesSpec) :=
  OpenClaim.holds_of_wide 4 Tryd.f4 rfl rfl rfl rfl rfl rfl rfl ⟨rfl, rfl, rfl, rfl, rfl⟩ rfl rfl rfl rfl rfl (by kernel_rfl) Tryd.func4 (by kernel_rfl)
    (of_decide_eq_true (by kernel_rfl)) (by unfold Func.isWrapper; first | (rw [if_pos (by decide +kernel)]; kernel_rfl) | (rw [if_neg (by decide +kernel)]; exact ⟨rfl, rfl⟩))
    (fun os started H enc _ => lifted os started H enc)
end Go.Proofs.YtkpdhadfnanagaaDoor.fnQueues
namespace Go.Proofs.YtkpdhadfnanagaaDoor
theorem fnQueues_holds : Rows.FnQueuesCardSaid :=
  Claim7.holds_tied_plain_at .later [] [.listed, .data] true (true, "b951f0c2ab14e130a701cc83cc979ebe6d82fa453c9e450966601589b7102569") false
    fnQueues.over (fun _ h => by cases h) (by kernel_rfl) (fun _ h => by cases h) fnQueues_row_tie rfl ⟨rfl, rfl⟩ (by kernel_rfl) rfl
    (fun f fn hf hfn => by
      have e1 : f = 4 := (Option.some.inj ((show Tryd.prog.funcNamed "loop.example/g00124/laws.FnQueues" = some 4 by kernel_rfl).symm.trans hf)).symm
      subst e1
      have e2 : fn = Tryd.f4 := (Option.some.inj (Tryd.func4.symm.trans hfn)).symm
      subst e2
      exact ⟨by kernel_rfl, fun j t ht => by
        have hm : t ∈ Tryd.f4.params.toList := by simpa using Array.mem_of_getElem? ht
        have hall : (Tryd.f4.params.toList.all fun u => !Tryd.prog.wantsStandIn u) = true := by kernel_rfl
        exact (show Tryd.prog.wantsStandIn t = false by simpa using List.all_eq_true.1 hall t hm)⟩)
    (by kernel_rfl)
#print axioms fnQueues_holds
end Go.Proofs.YtkpdhadfnanagaaDoor
