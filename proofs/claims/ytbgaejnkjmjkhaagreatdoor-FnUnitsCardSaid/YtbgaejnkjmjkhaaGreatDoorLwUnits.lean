/- It is proved here that the law FnUnits answers true at every input: what is done at once is done one behind the other, and its replies stand in one array. The conditions: the library's tables hold, when the call begins, what the program's text lays. -/
import Derived.Test.YtbgaejnkjmjkhaaGreatDoorLawF
import Derived.Test.YtbgaejnkjmjkhaaGreatDoorPvR
set_option linter.all false
namespace Go.Proofs.YtbgaejnkjmjkhaaGreatDoor.fnUnits
open Go Go.Den Go.Den.S Go.Proofs.YtbgaejnkjmjkhaaGreatDoor
set_option maxRecDepth 100000
theorem lifted (os:Os) (started:os.Started) (H:Type) (enc:TypeId×Value->H) :
  ReturnsInHanded {} Tryz.checked os 6 .any (fun w args=>(Rows.fnUnitsSpec.pre enc Tryz.prog Tryz.f6 [] false w args/\laidMetH Tryz.prog q6w w)/\sizedMet enc Tryz.prog Tryz.f6 (OpenSpec.ofChange Rows.fnUnitsSpec) false w args)
   (Rows.fnUnitsSpec.post enc Tryz.prog Tryz.f6 false true false false):=by
 refine returnsInHanded_of_change_and (C:=Tryz.checked) (X:=fun w _=>laidMetH Tryz.prog q6w w) (fun _ _ _ hh h=>h.of_heap hh) own started (by kernel_rfl) Tryz.func6
  (ChangeSpec.witness_shaped (enc:=enc) (C:=Tryz.checked) (os:=os) (X:=fun w _=>laidMetH Tryz.prog q6w w) false (World.doorLaid Tryz.prog 400 os) #[.slice none 0 0] 8 rfl (qd9 os _) (by kernel_rfl) (by kernel_rfl) (by kernel_rfl) (qd5 os _)) ?_
 intro W base args ds gs before hval hW _ _ hL _
 refine qcH (Ts:=[.sl (.int .u8)]) (f:=9) (tb:=4) (gl:=glW W) Tryz.func6 (c:=_) (by rfl) (by kernel_rfl) (by kernel_rfl) (by kernel_rfl) (by kernel_rfl) (by kernel_rfl) (by kernel_rfl) rfl ?_ hval hW (fun b o h=>h) ?_
 ·intro ds h
  have h:ds.length=1:=h.trans (by kernel_rfl)
  match ds,h with
  | [d],_=>exact ⟨rfl,rfl,rfl⟩
 ·exact fun x h=>⟨(),qac rfl (sound (q2J hL).1 (q2J hL).2.1 (q2J hL).2.2.1 (q2J hL).2.2.2 6 x (true,()) (qi6 x.1))⟩
theorem over:Rows.fnUnitsRow.holds Tryz.pinned (OpenSpec.ofChange Rows.fnUnitsSpec):=
 OpenClaim.holds_of_wide 6 Tryz.f6 rfl rfl rfl rfl rfl rfl rfl ⟨rfl,rfl,rfl,rfl,rfl⟩ rfl rfl rfl rfl rfl (by kernel_rfl) Tryz.func6 (by kernel_rfl)
  (of_decide_eq_true (by kernel_rfl)) (by unfold Func.isWrapper; first | (rw [if_pos (by decide +kernel)]; kernel_rfl) | (rw [if_neg (by decide +kernel)]; exact ⟨rfl,rfl⟩))
  (fun os started H enc _=>lifted os started H enc)
end Go.Proofs.YtbgaejnkjmjkhaaGreatDoor.fnUnits
namespace Go.Proofs.YtbgaejnkjmjkhaaGreatDoor
theorem fnUnits_holds:Rows.FnUnitsCardSaid:=
 Claim7.holds_tied_plain_at .later [] [.data,.data,.data,.sentinel,.sentinel,.listed,.data] true (true,"50bb67d6b4541515d1e4cd608ce6c42dfbb625e78c5e2c06c30dabe30bd42afb") true
  fnUnits.over (fun _ h=>by cases h) (by kernel_rfl) (fun _ h=>by cases h) fnUnits_row_tie rfl ⟨rfl,rfl⟩ (by kernel_rfl) rfl
  (fun f fn hf hfn=>by
   have e1:f=6:=(Option.some.inj ((show Tryz.prog.funcNamed "loop.example/g00124/laws.FnUnits" = some 6 by kernel_rfl).symm.trans hf)).symm
   subst e1
   have e2:fn=Tryz.f6:=(Option.some.inj (Tryz.func6.symm.trans hfn)).symm
   subst e2
   exact ⟨by kernel_rfl,fun j t ht=>by
    have hm:t∈Tryz.f6.params.toList:=by simpa using Array.mem_of_getElem? ht
    have hall:(Tryz.f6.params.toList.all fun u=>!Tryz.prog.wantsStandIn u)=true:=by kernel_rfl
    exact (show Tryz.prog.wantsStandIn t=false by simpa using List.all_eq_true.1 hall t hm)⟩)
  (by kernel_rfl)
#print axioms fnUnits_holds
end Go.Proofs.YtbgaejnkjmjkhaaGreatDoor
