/- It is proved here that for every list of units the program's Replay returns what the reference's Replay returns, that it leaves its arguments as they were, and that what it returns shares no memory with them: the tied card. The conditions: the library's tables hold, when the call begins, what the program's text lays. -/
import Derived.Test.YthfdlonnbkffnaaGreatDoorLawF
import Derived.Test.YthfdlonnbkffnaaGreatDoorPzG
set_option linter.all false
namespace Go.Proofs.YthfdlonnbkffnaaGreatDoor.fnExactReplay
open Go Go.Den Go.Den.S Go.Proofs.YthfdlonnbkffnaaGreatDoor
set_option maxRecDepth 100000
theorem lifted (os : Os) (started : os.Started) (H : Type) (enc : TypeId × Value -> H) :
  ReturnsInHanded {} Tryz.checked os 10 .any (fun w args => (Rows.fnExactReplaySpec.pre enc Tryz.prog Tryz.f10 [] false w args /\ laidMetH Tryz.prog q4p w) /\ sizedMet enc Tryz.prog Tryz.f10 (OpenSpec.ofChange Rows.fnExactReplaySpec) false w args)
   (Rows.fnExactReplaySpec.post enc Tryz.prog Tryz.f10 false true false false) := by
 refine returnsInHanded_of_change_and (C := Tryz.checked) (X := fun w _ => laidMetH Tryz.prog q4p w) (fun _ _ _ hh h => h.of_heap hh) own started (by kernel_rfl) Tryz.func10
  (ChangeSpec.witness_shaped (enc := enc) (C := Tryz.checked) (os := os) (X := fun w _ => laidMetH Tryz.prog q4p w) false (World.doorLaid Tryz.prog 400 os) #[.slice none 0 0] 8 rfl (qbn os _) (by kernel_rfl) (by kernel_rfl) (by kernel_rfl) (qaU os _)) ?_
 intro W base args ds gs before hval hW _ _ hL _
 refine qbx (Ts := [.sl yE]) (f := 9) (tb := 4) (gl := glW W) Tryz.func10 (c := _) (by rfl) (by kernel_rfl) (by kernel_rfl) (by kernel_rfl) (by kernel_rfl) (by kernel_rfl) (by kernel_rfl) rfl ?_ hval hW (fun b o h => h) ?_
 ·intro ds h
  have h : ds.length = 1 := h.trans (by kernel_rfl)
  match ds, h with
  | [d], _ => exact ⟨rfl, rfl, rfl⟩
 ·exact fun x h => ⟨(), sound (q0Q hL).1 (q0Q hL).2.1 (q0Q hL).2.2.1 (q0Q hL).2.2.2 10 x (true, ()) (qkj x.1 h.1)⟩
theorem over : Rows.fnExactReplayRow.holds Tryz.pinned (OpenSpec.ofChange Rows.fnExactReplaySpec) :=
 OpenClaim.holds_of_wide 10 Tryz.f10 rfl rfl rfl rfl rfl rfl rfl ⟨rfl, rfl, rfl, rfl, rfl⟩ rfl rfl rfl rfl rfl (by kernel_rfl) Tryz.func10 (by kernel_rfl)
  (of_decide_eq_true (by kernel_rfl)) (by unfold Func.isWrapper; first | (rw [if_pos (by decide +kernel)]; kernel_rfl) | (rw [if_neg (by decide +kernel)]; exact ⟨rfl, rfl⟩))
  (fun os started H enc _ => lifted os started H enc)
end Go.Proofs.YthfdlonnbkffnaaGreatDoor.fnExactReplay
namespace Go.Proofs.YthfdlonnbkffnaaGreatDoor
theorem fnExactReplay_holds : Rows.FnExactReplayCardSaid :=
 Claim7.holds_tied_plain_at .later [] [.data, .data, .data, .sentinel, .sentinel, .listed, .data] true (true, "ebd16a25165af87bd4babf0d2ab94f3c0bb15235292d0bf412b42882d60c5e00") true
  fnExactReplay.over (fun _ h => by cases h) (by kernel_rfl) (fun _ h => by cases h) fnExactReplay_row_tie rfl ⟨rfl, rfl⟩ (by kernel_rfl) rfl
  (fun f fn hf hfn => by
   have e1 : f = 10 := (Option.some.inj ((show Tryz.prog.funcNamed "loop.example/g00124/laws.FnExactReplay" = some 10 by kernel_rfl).symm.trans hf)).symm
   subst e1
   have e2 : fn = Tryz.f10 := (Option.some.inj (Tryz.func10.symm.trans hfn)).symm
   subst e2
   exact ⟨by kernel_rfl, fun j t ht => by
    have hm : t ∈ Tryz.f10.params.toList := by simpa using Array.mem_of_getElem? ht
    have hall : (Tryz.f10.params.toList.all fun u => !Tryz.prog.wantsStandIn u) = true := by kernel_rfl
    exact (show Tryz.prog.wantsStandIn t = false by simpa using List.all_eq_true.1 hall t hm)⟩)
  (by kernel_rfl)
#print axioms fnExactReplay_holds
end Go.Proofs.YthfdlonnbkffnaaGreatDoor
