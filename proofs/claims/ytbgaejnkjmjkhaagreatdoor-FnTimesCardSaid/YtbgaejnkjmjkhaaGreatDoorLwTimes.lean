/- It is proved here that the law FnTimes answers true at every input: what is given a time is there until then and not from then on, TTL tells how long, and PERSIST keeps it. The conditions: the library's tables hold, when the call begins, what the program's text lays. -/
import Derived.Test.YtbgaejnkjmjkhaaGreatDoorLawF
import Derived.Test.YtbgaejnkjmjkhaaGreatDoorPvT
set_option linter.all false
namespace Go.Proofs.YtbgaejnkjmjkhaaGreatDoor.fnTimes
open Go Go.Den Go.Den.S Go.Proofs.YtbgaejnkjmjkhaaGreatDoor
set_option maxRecDepth 100000
theorem lifted (os : Os) (started : os.Started) (H : Type) (enc : TypeId × Value -> H) :
  ReturnsInHanded {} Tryz.checked os 3 .any (fun w args => (Rows.fnTimesSpec.pre enc Tryz.prog Tryz.f3 [] false w args /\ laidMetH Tryz.prog q4I w) /\ sizedMet enc Tryz.prog Tryz.f3 (OpenSpec.ofChange Rows.fnTimesSpec) false w args)
   (Rows.fnTimesSpec.post enc Tryz.prog Tryz.f3 false true false false) := by
 refine returnsInHanded_of_change_and (C := Tryz.checked) (X := fun w _ => laidMetH Tryz.prog q4I w) (fun _ _ _ hh h => h.of_heap hh) own started (by kernel_rfl) Tryz.func3
  (ChangeSpec.witness_shaped (enc := enc) (C := Tryz.checked) (os := os) (X := fun w _ => laidMetH Tryz.prog q4I w) false (World.doorLaid Tryz.prog 400 os) #[.slice none 0 0] 8 rfl (qaL os _) (by kernel_rfl) (by kernel_rfl) (by kernel_rfl) (qaM os _)) ?_
 intro W base args ds gs before hval hW _ _ hL _
 refine qaN (Ts := [.sl (.int .u8)]) (f := 9) (tb := 4) (gl := glW W) Tryz.func3 (c := _) (by rfl) (by kernel_rfl) (by kernel_rfl) (by kernel_rfl) (by kernel_rfl) (by kernel_rfl) (by kernel_rfl) rfl ?_ hval hW (fun b o h => h) ?_
 ·intro ds h
  have h : ds.length = 1 := h.trans (by kernel_rfl)
  match ds, h with
  | [d], _ => exact ⟨rfl, rfl, rfl⟩
 ·exact fun x h => ⟨(), q8d rfl (sound (q1e hL).1 (q1e hL).2.1 (q1e hL).2.2.1 (q1e hL).2.2.2 3 x (true, ()) (qiH x.1))⟩
theorem over : Rows.fnTimesRow.holds Tryz.pinned (OpenSpec.ofChange Rows.fnTimesSpec) :=
 OpenClaim.holds_of_wide 3 Tryz.f3 rfl rfl rfl rfl rfl rfl rfl ⟨rfl, rfl, rfl, rfl, rfl⟩ rfl rfl rfl rfl rfl (by kernel_rfl) Tryz.func3 (by kernel_rfl)
  (of_decide_eq_true (by kernel_rfl)) (by unfold Func.isWrapper; first | (rw [if_pos (by decide +kernel)]; kernel_rfl) | (rw [if_neg (by decide +kernel)]; exact ⟨rfl, rfl⟩))
  (fun os started H enc _ => lifted os started H enc)
end Go.Proofs.YtbgaejnkjmjkhaaGreatDoor.fnTimes
namespace Go.Proofs.YtbgaejnkjmjkhaaGreatDoor
theorem fnTimes_holds : Rows.FnTimesCardSaid :=
 Claim7.holds_tied_plain_at .later [] [.data, .data, .data, .sentinel, .sentinel, .listed, .data] true (true, "50bb67d6b4541515d1e4cd608ce6c42dfbb625e78c5e2c06c30dabe30bd42afb") true
  fnTimes.over (fun _ h => by cases h) (by kernel_rfl) (fun _ h => by cases h) fnTimes_row_tie rfl ⟨rfl, rfl⟩ (by kernel_rfl) rfl
  (fun f fn hf hfn => by
   have e1 : f = 3 := (Option.some.inj ((show Tryz.prog.funcNamed "loop.example/g00124/laws.FnTimes" = some 3 by kernel_rfl).symm.trans hf)).symm
   subst e1
   have e2 : fn = Tryz.f3 := (Option.some.inj (Tryz.func3.symm.trans hfn)).symm
   subst e2
   exact ⟨by kernel_rfl, fun j t ht => by
    have hm : t ∈ Tryz.f3.params.toList := by simpa using Array.mem_of_getElem? ht
    have hall : (Tryz.f3.params.toList.all fun u => !Tryz.prog.wantsStandIn u) = true := by kernel_rfl
    exact (show Tryz.prog.wantsStandIn t = false by simpa using List.all_eq_true.1 hall t hm)⟩)
  (by kernel_rfl)
#print axioms fnTimes_holds
end Go.Proofs.YtbgaejnkjmjkhaaGreatDoor
