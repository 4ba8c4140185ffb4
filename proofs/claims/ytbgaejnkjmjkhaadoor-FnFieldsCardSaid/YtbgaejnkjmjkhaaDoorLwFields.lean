/- It is proved here that the law FnFields answers true at every input: fields have what they were given last, and what is deleted is gone. The conditions: the library's tables hold, when the call begins, what the program's text lays. -/
import Derived.Test.YtbgaejnkjmjkhaaDoorLawE
import Derived.Test.YtbgaejnkjmjkhaaDoorPvD
set_option linter.all false
namespace Go.Proofs.YtbgaejnkjmjkhaaDoor.fnFields
open Go Go.Den Go.Den.S Go.Proofs.YtbgaejnkjmjkhaaDoor
set_option maxRecDepth 100000
theorem lifted (os : Os) (started : os.Started) (H : Type) (enc : TypeId × Value -> H) :
  ReturnsInHanded {} Tryd.checked os 3 .any (fun w args => (Rows.fnFieldsSpec.pre enc Tryd.prog Tryd.f3 [] false w args /\ laidMetH Tryd.prog q48 w) /\ sizedMet enc Tryd.prog Tryd.f3 (OpenSpec.ofChange Rows.fnFieldsSpec) false w args)
   (Rows.fnFieldsSpec.post enc Tryd.prog Tryd.f3 false true false false) := by
 refine returnsInHanded_of_change_and (C := Tryd.checked) (X := fun w _ => laidMetH Tryd.prog q48 w) (fun _ _ _ hh h => h.of_heap hh) own started (by kernel_rfl) Tryd.func3
  (ChangeSpec.witness_shaped (enc := enc) (C := Tryd.checked) (os := os) (X := fun w _ => laidMetH Tryd.prog q48 w) false (World.doorLaid Tryd.prog 400 os) #[.slice none 0 0] 8 rfl (q9w os _) (by kernel_rfl) (by kernel_rfl) (by kernel_rfl) (qax os _)) ?_
 intro W base args ds gs before hval hW _ _ hL _
 refine qa0 (Ts := [.sl (.int .u8)]) (f := 9) (tb := 4) (gl := glW W) Tryd.func3 (c := _) (by rfl) (by kernel_rfl) (by kernel_rfl) (by kernel_rfl) (by kernel_rfl) (by kernel_rfl) (by kernel_rfl) rfl ?_ hval hW (fun b o h => h) ?_
 ·intro ds h
  have h : ds.length = 1 := h.trans (by kernel_rfl)
  match ds, h with
  | [d], _ => exact ⟨rfl, rfl, rfl⟩
 ·exact fun x h => ⟨(), q7v rfl (sound (q6q hL).1 (q6q hL).2 3 x (true, ()) (q9z x.1))⟩
theorem over : Rows.fnFieldsRow.holds Tryd.pinned (OpenSpec.ofChange Rows.fnFieldsSpec) :=
 OpenClaim.holds_of_wide 3 Tryd.f3 rfl rfl rfl rfl rfl rfl rfl ⟨rfl, rfl, rfl, rfl, rfl⟩ rfl rfl rfl rfl rfl (by kernel_rfl) Tryd.func3 (by kernel_rfl)
  (of_decide_eq_true (by kernel_rfl)) (by unfold Func.isWrapper; first | (rw [if_pos (by decide +kernel)]; kernel_rfl) | (rw [if_neg (by decide +kernel)]; exact ⟨rfl, rfl⟩))
  (fun os started H enc _ => lifted os started H enc)
end Go.Proofs.YtbgaejnkjmjkhaaDoor.fnFields
namespace Go.Proofs.YtbgaejnkjmjkhaaDoor
theorem fnFields_holds : Rows.FnFieldsCardSaid :=
 Claim7.holds_tied_plain_at .later [] [.data, .data, .data, .listed, .data] true (true, "71bdd3c9c0b1a1ed04f7a6f8be07a2b24a43355a2767d398f0652410e25a1405") true
  fnFields.over (fun _ h => by cases h) (by kernel_rfl) (fun _ h => by cases h) fnFields_row_tie rfl ⟨rfl, rfl⟩ (by kernel_rfl) rfl
  (fun f fn hf hfn => by
   have e1 : f = 3 := (Option.some.inj ((show Tryd.prog.funcNamed "loop.example/g00124/laws.FnFields" = some 3 by kernel_rfl).symm.trans hf)).symm
   subst e1
   have e2 : fn = Tryd.f3 := (Option.some.inj (Tryd.func3.symm.trans hfn)).symm
   subst e2
   exact ⟨by kernel_rfl, fun j t ht => by
    have hm : t ∈ Tryd.f3.params.toList := by simpa using Array.mem_of_getElem? ht
    have hall : (Tryd.f3.params.toList.all fun u => !Tryd.prog.wantsStandIn u) = true := by kernel_rfl
    exact (show Tryd.prog.wantsStandIn t = false by simpa using List.all_eq_true.1 hall t hm)⟩)
  (by kernel_rfl)
#print axioms fnFields_holds
end Go.Proofs.YtbgaejnkjmjkhaaDoor
