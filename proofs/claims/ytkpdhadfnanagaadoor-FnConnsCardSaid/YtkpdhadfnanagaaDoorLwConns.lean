/- It is proved here that the law FnConns answers true at every input: what a drawn connection takes in stands behind, requests are taken from the front as they stand there, and one that can be none shuts it: the tied card. The conditions: the library's tables hold, when the call begins, what the program's text lays. -/
import Derived.Test.YtkpdhadfnanagaaDoorLawN
import Derived.Test.YtkpdhadfnanagaaDoorFcC
set_option linter.all false
namespace Go.Proofs.YtkpdhadfnanagaaDoor.fnConns
open Go Go.Den Go.Den.S Go.Proofs.YtkpdhadfnanagaaDoor
set_option maxRecDepth 100000
theorem lifted (os : Os) (started : os.Started) (H : Type) (enc : TypeId × Value → H) :
    ReturnsInHanded {} Tryd.checked os 7 .any (fun w args => (Rows.fnConnsSpec.pre enc Tryd.prog Tryd.f7 [] false w args ∧ laidMetH Tryd.prog laidN w) ∧ sizedMet enc Tryd.prog Tryd.f7 (OpenSpec.ofChange Rows.fnConnsSpec) false w args)
      (Rows.fnConnsSpec.post enc Tryd.prog Tryd.f7 false true false false) := by
  refine handed_and (C := Tryd.checked) (laid := laidN) own started (by kernel_rfl) Tryd.func7
    (ChangeSpec.witness_shaped (enc := enc) (C := Tryd.checked) (os := os) (X := fun w _ => laidMetH Tryd.prog laidN w) false (World.laidAll Tryd.prog os laidN) #[.slice none 0 0] 8 (World.laidAll_os _ _ _) (refN os _) (by kernel_rfl) (by kernel_rfl) (by kernel_rfl) (door_metN os _)) ?_
  intro W base args ds gs before hS hval hW hL
  refine law_post (Ts := [.sl (.int .u8)]) (f := 9) (tb := 4) (gl := glW W) Tryd.func7 (c := _) (by rfl) (by kernel_rfl) (by kernel_rfl) (by kernel_rfl) (by kernel_rfl) (by kernel_rfl) (by kernel_rfl) rfl ?_ hval hW (fun b o h => h) ?_
  · intro ds h
    have h : ds.length = 1 := h.trans (by kernel_rfl)
    match ds, h with
    | [d], _ => exact ⟨rfl, rfl, rfl⟩
  · exact fun x h => ⟨(), callOkS_of rfl ((sound (tab_of (.inl hL)) hS).call 7 x (true, ()) (law_FnConns x.1))⟩
theorem over : Rows.fnConnsRow.holds Tryd.pinned (OpenSpec.ofChange Rows.fnConnsSpec) :=
  OpenClaim.holds_of_wide 7 Tryd.f7 rfl rfl rfl rfl rfl rfl rfl ⟨rfl, rfl, rfl, rfl, rfl⟩ rfl rfl rfl rfl rfl (by kernel_rfl) Tryd.func7 (by kernel_rfl)
    (of_decide_eq_true (by kernel_rfl)) (by unfold Func.isWrapper; first | (rw [if_pos (by decide +kernel)]; kernel_rfl) | (rw [if_neg (by decide +kernel)]; exact ⟨rfl, rfl⟩))
    (fun os started H enc _ => lifted os started H enc)
end Go.Proofs.YtkpdhadfnanagaaDoor.fnConns
namespace Go.Proofs.YtkpdhadfnanagaaDoor
theorem fnConns_holds : Rows.FnConnsCardSaid :=
  Claim7.holds_tied_plain_at .later [] [.data, .listed, .data, .pinned] true (true, "b951f0c2ab14e130a701cc83cc979ebe6d82fa453c9e450966601589b7102569") false
    fnConns.over (fun _ h => by cases h) (by kernel_rfl) (fun _ h => by cases h) fnConns_row_tie rfl ⟨rfl, rfl⟩ (by kernel_rfl) rfl
    (fun f fn hf hfn => by
      have e1 : f = 7 := (Option.some.inj ((show Tryd.prog.funcNamed "loop.example/g00124/laws.FnConns" = some 7 by kernel_rfl).symm.trans hf)).symm
      subst e1
      have e2 : fn = Tryd.f7 := (Option.some.inj (Tryd.func7.symm.trans hfn)).symm
      subst e2
      exact ⟨by kernel_rfl, fun j t ht => by
        have hm : t ∈ Tryd.f7.params.toList := by simpa using Array.mem_of_getElem? ht
        have hall : (Tryd.f7.params.toList.all fun u => !Tryd.prog.wantsStandIn u) = true := by kernel_rfl
        exact (show Tryd.prog.wantsStandIn t = false by simpa using List.all_eq_true.1 hall t hm)⟩)
    (by kernel_rfl)
#print axioms fnConns_holds
end Go.Proofs.YtkpdhadfnanagaaDoor
