/- It is proved here that for every connection and request the program's Settle returns what the reference's Settle returns, that it leaves its arguments as they were, and that what it returns shares no memory with them: the tied card. The conditions: the library's two tables of spaces hold, when the call begins, what the program's text lays. -/
import Derived.Test.YtkpdhadfnanagaaDoorLawD
import Derived.Test.YtkpdhadfnanagaaDoorPuSettle
set_option linter.all false
set_option linter.unusedSimpArgs false
set_option linter.unusedVariables false
namespace Go.Proofs.YtkpdhadfnanagaaDoor.fnExactSettle
open Go Go.Den Go.Den.S Go.Proofs.YtkpdhadfnanagaaDoor
set_option linter.unusedVariables false
set_option maxRecDepth 100000
theorem lifted (os : Os) (started : os.Started) (H : Type) (enc : TypeId × Value → H) :
    ReturnsInHanded {} Tryd.checked os 6 .any (fun w args => (Rows.fnExactSettleSpec.pre enc Tryd.prog Tryd.f6 [] false w args ∧ laidMetH Tryd.prog laidA w) ∧ sizedMet enc Tryd.prog Tryd.f6 (OpenSpec.ofChange Rows.fnExactSettleSpec) false w args)
      (Rows.fnExactSettleSpec.post enc Tryd.prog Tryd.f6 false true false false) := by
  refine returnsInHanded_of_change_and (C := Tryd.checked) (X := fun w _ => laidMetH Tryd.prog laidA w) (fun _ _ _ hh h => h.of_heap hh) own started (by kernel_rfl) Tryd.func6
    (ChangeSpec.witness_shaped (enc := enc) (C := Tryd.checked) (os := os) (X := fun w _ => laidMetH Tryd.prog laidA w) false (World.doorLaid Tryd.prog 400 os) #[.agg #[.string ByteArray.empty, .bool false, .bool false, .slice none 0 0, .bool false], .slice none 0 0] 8 rfl (door_ref os _) (by kernel_rfl) (by kernel_rfl) (by kernel_rfl) (door_met os _)) ?_
  intro W base args ds gs before hval hW _ _ hL _
  refine law_post (Ts := [T_Conn, .sl .str]) (f := 9) (tb := 4) (gl := glW W) Tryd.func6 (c := _) (by rfl) (by kernel_rfl) (by kernel_rfl) (by kernel_rfl) (by kernel_rfl) (by kernel_rfl) (by kernel_rfl) rfl ?_ hval hW (fun b o h => h.2) ?_
  · intro ds h
    have h : ds.length = 2 := h.trans (by kernel_rfl)
    match ds, h with
    | [d, e], _ => exact ⟨rfl, rfl, rfl⟩
  · exact fun x h => ⟨(), sound (tab_of hL) 6 x (true, ()) (law_Settle x.1 x.2.1 h.1 h.2.1)⟩
theorem over : Rows.fnExactSettleRow.holds Tryd.pinned (OpenSpec.ofChange Rows.fnExactSettleSpec) :=
  OpenClaim.holds_of_wide 6 Tryd.f6 rfl rfl rfl rfl rfl rfl rfl ⟨rfl, rfl, rfl, rfl, rfl⟩ rfl rfl rfl rfl rfl (by kernel_rfl) Tryd.func6 (by kernel_rfl)
    (of_decide_eq_true (by kernel_rfl)) (by unfold Func.isWrapper; first | (rw [if_pos (by decide +kernel)]; kernel_rfl) | (rw [if_neg (by decide +kernel)]; exact ⟨rfl, rfl⟩))
    (fun os started H enc _ => lifted os started H enc)
end Go.Proofs.YtkpdhadfnanagaaDoor.fnExactSettle
namespace Go.Proofs.YtkpdhadfnanagaaDoor
theorem fnExactSettle_holds : Rows.FnExactSettleCardSaid :=
  Claim7.holds_tied_plain_at .later [] [.listed, .data] true (true, "b951f0c2ab14e130a701cc83cc979ebe6d82fa453c9e450966601589b7102569") false
    fnExactSettle.over (fun _ h => by cases h) (by kernel_rfl) (fun _ h => by cases h) fnExactSettle_row_tie rfl ⟨rfl, rfl⟩ (by kernel_rfl) rfl
    (fun f fn hf hfn => by
      have e1 : f = 6 := (Option.some.inj ((show Tryd.prog.funcNamed "loop.example/g00124/laws.FnExactSettle" = some 6 by kernel_rfl).symm.trans hf)).symm
      subst e1
      have e2 : fn = Tryd.f6 := (Option.some.inj (Tryd.func6.symm.trans hfn)).symm
      subst e2
      exact ⟨by kernel_rfl, fun j t ht => by
        have hm : t ∈ Tryd.f6.params.toList := by simpa using Array.mem_of_getElem? ht
        have hall : (Tryd.f6.params.toList.all fun u => !Tryd.prog.wantsStandIn u) = true := by kernel_rfl
        exact (show Tryd.prog.wantsStandIn t = false by simpa using List.all_eq_true.1 hall t hm)⟩)
    (by kernel_rfl)
#print axioms fnExactSettle_holds
end Go.Proofs.YtkpdhadfnanagaaDoor
