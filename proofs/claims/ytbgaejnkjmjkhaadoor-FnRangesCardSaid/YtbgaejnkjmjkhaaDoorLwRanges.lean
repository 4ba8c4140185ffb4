/- It is proved here that the law FnRanges answers true at every input: a range of a list is that part of it, and what it tells item by item is what LINDEX tells. The conditions: the library's tables hold, when the call begins, what the program's text lays. -/
import Derived.Test.YtbgaejnkjmjkhaaDoorLawF
import Derived.Test.YtbgaejnkjmjkhaaDoorPvC
set_option linter.all false
namespace Go.Proofs.YtbgaejnkjmjkhaaDoor.fnRanges
open Go Go.Den Go.Den.S Go.Proofs.YtbgaejnkjmjkhaaDoor
set_option maxRecDepth 100000
theorem lifted (os : Os) (started : os.Started) (H : Type) (enc : TypeId × Value -> H) :
  ReturnsInHanded {} Tryd.checked os 6 .any (fun w args => (Rows.fnRangesSpec.pre enc Tryd.prog Tryd.f6 [] false w args /\ laidMetH Tryd.prog q2N w) /\ sizedMet enc Tryd.prog Tryd.f6 (OpenSpec.ofChange Rows.fnRangesSpec) false w args)
   (Rows.fnRangesSpec.post enc Tryd.prog Tryd.f6 false true false false) := by
 refine returnsInHanded_of_change_and (C := Tryd.checked) (X := fun w _ => laidMetH Tryd.prog q2N w) (fun _ _ _ hh h => h.of_heap hh) own started (by kernel_rfl) Tryd.func6
  (ChangeSpec.witness_shaped (enc := enc) (C := Tryd.checked) (os := os) (X := fun w _ => laidMetH Tryd.prog q2N w) false (World.doorLaid Tryd.prog 400 os) #[.slice none 0 0] 8 rfl (q8z os _) (by kernel_rfl) (by kernel_rfl) (by kernel_rfl) (q7I os _)) ?_
 intro W base args ds gs before hval hW _ _ hL _
 refine q8B (Ts := [.sl (.int .u8)]) (f := 9) (tb := 4) (gl := glW W) Tryd.func6 (c := _) (by rfl) (by kernel_rfl) (by kernel_rfl) (by kernel_rfl) (by kernel_rfl) (by kernel_rfl) (by kernel_rfl) rfl ?_ hval hW (fun b o h => h) ?_
 ·intro ds h
  have h : ds.length = 1 := h.trans (by kernel_rfl)
  match ds, h with
  | [d], _ => exact ⟨rfl, rfl, rfl⟩
 ·exact fun x h => ⟨(), q5M rfl (sound (q10 hL).1 (q10 hL).2.1 (q10 hL).2.2.1 (q10 hL).2.2.2 6 x (true, ()) (q8v x.1))⟩
theorem over : Rows.fnRangesRow.holds Tryd.pinned (OpenSpec.ofChange Rows.fnRangesSpec) :=
 OpenClaim.holds_of_wide 6 Tryd.f6 rfl rfl rfl rfl rfl rfl rfl ⟨rfl, rfl, rfl, rfl, rfl⟩ rfl rfl rfl rfl rfl (by kernel_rfl) Tryd.func6 (by kernel_rfl)
  (of_decide_eq_true (by kernel_rfl)) (by unfold Func.isWrapper; first | (rw [if_pos (by decide +kernel)]; kernel_rfl) | (rw [if_neg (by decide +kernel)]; exact ⟨rfl, rfl⟩))
  (fun os started H enc _ => lifted os started H enc)
end Go.Proofs.YtbgaejnkjmjkhaaDoor.fnRanges
namespace Go.Proofs.YtbgaejnkjmjkhaaDoor
theorem fnRanges_holds : Rows.FnRangesCardSaid :=
 Claim7.holds_tied_plain_at .later [] [.data, .data, .data, .sentinel, .sentinel, .listed, .data] true (true, "71bdd3c9c0b1a1ed04f7a6f8be07a2b24a43355a2767d398f0652410e25a1405") true
  fnRanges.over (fun _ h => by cases h) (by kernel_rfl) (fun _ h => by cases h) fnRanges_row_tie rfl ⟨rfl, rfl⟩ (by kernel_rfl) rfl
  (fun f fn hf hfn => by
   have e1 : f = 6 := (Option.some.inj ((show Tryd.prog.funcNamed "loop.example/g00124/laws.FnRanges" = some 6 by kernel_rfl).symm.trans hf)).symm
   subst e1
   have e2 : fn = Tryd.f6 := (Option.some.inj (Tryd.func6.symm.trans hfn)).symm
   subst e2
   exact ⟨by kernel_rfl, fun j t ht => by
    have hm : t ∈ Tryd.f6.params.toList := by simpa using Array.mem_of_getElem? ht
    have hall : (Tryd.f6.params.toList.all fun u => !Tryd.prog.wantsStandIn u) = true := by kernel_rfl
    exact (show Tryd.prog.wantsStandIn t = false by simpa using List.all_eq_true.1 hall t hm)⟩)
  (by kernel_rfl)
#print axioms fnRanges_holds
end Go.Proofs.YtbgaejnkjmjkhaaDoor
