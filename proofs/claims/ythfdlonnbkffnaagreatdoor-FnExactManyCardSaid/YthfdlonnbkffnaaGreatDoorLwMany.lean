/- It is proved here that for every table, time and list of requests the program's Many returns what the reference's Many returns, that it leaves its arguments as they were, and that what it returns shares no memory with them: the tied card. The conditions: the library's tables hold, when the call begins, what the program's text lays. -/
import Derived.Test.YthfdlonnbkffnaaGreatDoorLawF
import Derived.Test.YthfdlonnbkffnaaGreatDoorPzG
set_option linter.all false
namespace Go.Proofs.YthfdlonnbkffnaaGreatDoor.fnExactMany
open Go Go.Den Go.Den.S Go.Proofs.YthfdlonnbkffnaaGreatDoor
set_option maxRecDepth 100000
theorem lifted (os : Os) (started : os.Started) (H : Type) (enc : TypeId × Value -> H) :
  ReturnsInHanded {} Tryz.checked os 8 .any (fun w args => (Rows.fnExactManySpec.pre enc Tryz.prog Tryz.f8 [] false w args /\ laidMetH Tryz.prog q4p w) /\ sizedMet enc Tryz.prog Tryz.f8 (OpenSpec.ofChange Rows.fnExactManySpec) false w args)
   (Rows.fnExactManySpec.post enc Tryz.prog Tryz.f8 false true false false) := by
 refine returnsInHanded_of_change_and (C := Tryz.checked) (X := fun w _ => laidMetH Tryz.prog q4p w) (fun _ _ _ hh h => h.of_heap hh) own started (by kernel_rfl) Tryz.func8
  (ChangeSpec.witness_shaped (enc := enc) (C := Tryz.checked) (os := os) (X := fun w _ => laidMetH Tryz.prog q4p w) false (World.doorLaid Tryz.prog 400 os) #[.slice none 0 0, .int .i64 0, .slice none 0 0] 8 rfl (qbn os _) (by kernel_rfl) (by kernel_rfl) (by kernel_rfl) (qaU os _)) ?_
 intro W base args ds gs before hval hW _ _ hL _
 refine qbx (Ts := [.sl qc, .int .i64, .sl (.sl .str)]) (f := 9) (tb := 4) (gl := glW W) Tryz.func8 (c := _) (by rfl) (by kernel_rfl) (by kernel_rfl) (by kernel_rfl) (by kernel_rfl) (by kernel_rfl) (by kernel_rfl) rfl ?_ hval hW (fun b o h => h) ?_
 ·intro ds h
  have h : ds.length = 3 := h.trans (by kernel_rfl)
  match ds, h with
  | [d, e, g], _ => exact ⟨rfl, rfl, rfl⟩
 ·exact fun x h => ⟨(), sound (q0Q hL).1 (q0Q hL).2.1 (q0Q hL).2.2.1 (q0Q hL).2.2.2 8 x (true, ()) (qm0 x.1 x.2.1 x.2.2.1 h.1 h.2.2.1)⟩
theorem over : Rows.fnExactManyRow.holds Tryz.pinned (OpenSpec.ofChange Rows.fnExactManySpec) :=
 OpenClaim.holds_of_wide 8 Tryz.f8 rfl rfl rfl rfl rfl rfl rfl ⟨rfl, rfl, rfl, rfl, rfl⟩ rfl rfl rfl rfl rfl (by kernel_rfl) Tryz.func8 (by kernel_rfl)
  (of_decide_eq_true (by kernel_rfl)) (by unfold Func.isWrapper; first | (rw [if_pos (by decide +kernel)]; kernel_rfl) | (rw [if_neg (by decide +kernel)]; exact ⟨rfl, rfl⟩))
  (fun os started H enc _ => lifted os started H enc)
end Go.Proofs.YthfdlonnbkffnaaGreatDoor.fnExactMany
namespace Go.Proofs.YthfdlonnbkffnaaGreatDoor
theorem fnExactMany_holds : Rows.FnExactManyCardSaid :=
 Claim7.holds_tied_plain_at .later [] [.data, .data, .data, .sentinel, .sentinel, .listed, .data] true (true, "ebd16a25165af87bd4babf0d2ab94f3c0bb15235292d0bf412b42882d60c5e00") true
  fnExactMany.over (fun _ h => by cases h) (by kernel_rfl) (fun _ h => by cases h) fnExactMany_row_tie rfl ⟨rfl, rfl⟩ (by kernel_rfl) rfl
  (fun f fn hf hfn => by
   have e1 : f = 8 := (Option.some.inj ((show Tryz.prog.funcNamed "loop.example/g00124/laws.FnExactMany" = some 8 by kernel_rfl).symm.trans hf)).symm
   subst e1
   have e2 : fn = Tryz.f8 := (Option.some.inj (Tryz.func8.symm.trans hfn)).symm
   subst e2
   exact ⟨by kernel_rfl, fun j t ht => by
    have hm : t ∈ Tryz.f8.params.toList := by simpa using Array.mem_of_getElem? ht
    have hall : (Tryz.f8.params.toList.all fun u => !Tryz.prog.wantsStandIn u) = true := by kernel_rfl
    exact (show Tryz.prog.wantsStandIn t = false by simpa using List.all_eq_true.1 hall t hm)⟩)
  (by kernel_rfl)
#print axioms fnExactMany_holds
end Go.Proofs.YthfdlonnbkffnaaGreatDoor
