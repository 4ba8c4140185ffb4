/- It is proved here that for every table, time and request the program's OnKeys returns what the reference's OnKeys returns, that it leaves its arguments as they were, and that what it returns shares no memory with them: the tied card. The conditions: the library's tables hold, when the call begins, what the program's text lays. -/
import Derived.Test.YthfdlonnbkffnaaGreatDoorLawF
import Derived.Test.YthfdlonnbkffnaaGreatDoorPzB
set_option linter.all false
set_option linter.unusedSimpArgs false
set_option linter.unusedVariables false
namespace Go.Proofs.YthfdlonnbkffnaaGreatDoor.fnExactOnKeys
open Go Go.Den Go.Den.S Go.Proofs.YthfdlonnbkffnaaGreatDoor
set_option linter.unusedVariables false
set_option maxRecDepth 100000
theorem lifted (os : Os) (started : os.Started) (H : Type) (enc : TypeId × Value → H) :
    ReturnsInHanded {} Tryz.checked os 6 .any (fun w args => (Rows.fnExactOnKeysSpec.pre enc Tryz.prog Tryz.f6 [] false w args ∧ laidMetH Tryz.prog laidA w) ∧ sizedMet enc Tryz.prog Tryz.f6 (OpenSpec.ofChange Rows.fnExactOnKeysSpec) false w args)
      (Rows.fnExactOnKeysSpec.post enc Tryz.prog Tryz.f6 false true false false) := by
  refine returnsInHanded_of_change_and (C := Tryz.checked) (X := fun w _ => laidMetH Tryz.prog laidA w) (fun _ _ _ hh h => h.of_heap hh) own started (by kernel_rfl) Tryz.func6
    (ChangeSpec.witness_shaped (enc := enc) (C := Tryz.checked) (os := os) (X := fun w _ => laidMetH Tryz.prog laidA w) false (World.doorLaid Tryz.prog 400 os) #[.slice none 0 0, .int .i64 0, .slice none 0 0] 8 rfl (door_ref os _) (by kernel_rfl) (by kernel_rfl) (by kernel_rfl) (door_met os _)) ?_
  intro W base args ds gs before hval hW _ _ hL _
  refine law_post (Ts := [.sl T_Entry, .int .i64, .sl .str]) (f := 9) (tb := 4) (gl := glW W) Tryz.func6 (c := _) (by rfl) (by kernel_rfl) (by kernel_rfl) (by kernel_rfl) (by kernel_rfl) (by kernel_rfl) (by kernel_rfl) rfl ?_ hval hW (fun b o h => h) ?_
  · intro ds h
    have h : ds.length = 3 := h.trans (by kernel_rfl)
    match ds, h with
    | [d, e, g], _ => exact ⟨rfl, rfl, rfl⟩
  · exact fun x h => ⟨(), sound (tabs_of hL).1 (tabs_of hL).2.1 (tabs_of hL).2.2.1 (tabs_of hL).2.2.2 6 x (true, ()) (law_OnKeys x.1 x.2.1 x.2.2.1 h.1 h.2.2.1)⟩
theorem over : Rows.fnExactOnKeysRow.holds Tryz.pinned (OpenSpec.ofChange Rows.fnExactOnKeysSpec) :=
  OpenClaim.holds_of_wide 6 Tryz.f6 rfl rfl rfl rfl rfl rfl rfl ⟨rfl, rfl, rfl, rfl, rfl⟩ rfl rfl rfl rfl rfl (by kernel_rfl) Tryz.func6 (by kernel_rfl)
    (of_decide_eq_true (by kernel_rfl)) (by unfold Func.isWrapper; first | (rw [if_pos (by decide +kernel)]; kernel_rfl) | (rw [if_neg (by decide +kernel)]; exact ⟨rfl, rfl⟩))
    (fun os started H enc _ => lifted os started H enc)
end Go.Proofs.YthfdlonnbkffnaaGreatDoor.fnExactOnKeys
namespace Go.Proofs.YthfdlonnbkffnaaGreatDoor
theorem fnExactOnKeys_holds : Rows.FnExactOnKeysCardSaid :=
  Claim7.holds_tied_plain_at .later [] [.data, .data, .data, .sentinel, .sentinel, .listed, .data] true (true, "ebd16a25165af87bd4babf0d2ab94f3c0bb15235292d0bf412b42882d60c5e00") true
    fnExactOnKeys.over (fun _ h => by cases h) (by kernel_rfl) (fun _ h => by cases h) fnExactOnKeys_row_tie rfl ⟨rfl, rfl⟩ (by kernel_rfl) rfl
    (fun f fn hf hfn => by
      have e1 : f = 6 := (Option.some.inj ((show Tryz.prog.funcNamed "loop.example/g00124/laws.FnExactOnKeys" = some 6 by kernel_rfl).symm.trans hf)).symm
      subst e1
      have e2 : fn = Tryz.f6 := (Option.some.inj (Tryz.func6.symm.trans hfn)).symm
      subst e2
      exact ⟨by kernel_rfl, fun j t ht => by
        have hm : t ∈ Tryz.f6.params.toList := by simpa using Array.mem_of_getElem? ht
        have hall : (Tryz.f6.params.toList.all fun u => !Tryz.prog.wantsStandIn u) = true := by kernel_rfl
        exact (show Tryz.prog.wantsStandIn t = false by simpa using List.all_eq_true.1 hall t hm)⟩)
    (by kernel_rfl)
#print axioms fnExactOnKeys_holds
end Go.Proofs.YthfdlonnbkffnaaGreatDoor
