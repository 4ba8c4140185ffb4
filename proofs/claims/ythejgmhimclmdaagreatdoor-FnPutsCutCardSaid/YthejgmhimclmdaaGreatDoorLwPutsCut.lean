/- It is proved here that the law FnPutsCut answers true at every input: whatever the power leaves of the acts of a batch, the batch is there whole or not at all. The conditions: the library's tables hold, when the call begins, what the program's text lays. -/
import Derived.Test.YthejgmhimclmdaaGreatDoorOwnPutsCut
set_option linter.all false
namespace Go.Proofs.YthejgmhimclmdaaGreatDoor.fnPutsCut
open Go Go.Den Go.Den.S Go.Proofs.YthejgmhimclmdaaGreatDoor
set_option maxRecDepth 100000
theorem lifted (os:Os) (started:os.Started) (H:Type) (enc:TypeId×Value->H) :
  ReturnsInHanded {} Tryz.checked os 6 .any (fun w args=>(Rows.fnPutsCutSpec.pre enc Tryz.prog Tryz.f6 [] false w args/\laidMetH Tryz.prog jD w)/\sizedMet enc Tryz.prog Tryz.f6 (OpenSpec.ofChange Rows.fnPutsCutSpec) false w args)
   (Rows.fnPutsCutSpec.post enc Tryz.prog Tryz.f6 false true false false):=by
 refine returnsInHanded_of_change_and (C:=Tryz.checked) (X:=fun w _=>laidMetH Tryz.prog jD w) (fun _ _ _ hh h=>h.of_heap hh) own started (by kernel_rfl) Tryz.func6
  (ChangeSpec.witness_shaped (enc:=enc) (C:=Tryz.checked) (os:=os) (X:=fun w _=>laidMetH Tryz.prog jD w) false (World.doorLaid Tryz.prog 400 os) #[.slice none 0 0] 8 rfl (q4U os _) (by kernel_rfl) (by kernel_rfl) (by kernel_rfl) (q4K os _)) ?_
 intro W base args ds gs before hval hW _ _ hL _;refine q4T (Ts:=[.sl (.int .u8)]) (f:=9) (tb:=4) (gl:=glW W) Tryz.func6 (c:=_) (by rfl) (by kernel_rfl) (by kernel_rfl) (by kernel_rfl) (by kernel_rfl) (by kernel_rfl) (by kernel_rfl) rfl ?_ hval hW (fun b o h=>h) ?_
 ·intro ds h;have h:ds.length=1:=h.trans (by kernel_rfl)
  match ds,h with
  | [d],_=>exact ⟨rfl,rfl,rfl⟩
 ·exact fun x h=>⟨(),q2k rfl ((sound (zk hL).1 (zk hL).2.1 (zk hL).2.2).call 6 x (true,()) (qq0 x.1))⟩
theorem facts:((Rows.fnPutsCutRow.inPlace==Tryz.prog.inPlace 6)&&((Rows.fnPutsCutRow.unfollowed==Tryz.prog.unfollowed 6)&&((Rows.fnPutsCutRow.recurses==Tryz.prog.recurses 6)&&(Rows.fnPutsCutRow.named==Tryz.prog.varsNamed 6))))=true:=by kernel_rfl
theorem closed:joinedFacts Tryz.prog 6 Tryz.f6 Rows.fnPutsCutSpec Rows.fnPutsCutRow=true:=by
 have h:=facts;rw [Bool.and_eq_true,Bool.and_eq_true,Bool.and_eq_true] at h;obtain ⟨h1,h2,h3,h4⟩:=h;unfold joinedFacts;rw [qcw,qcb,h1,h2,h3,h4,q9J,q92,q9n,qck];show (_:Bool)=true
 kernel_rfl
theorem over:Rows.fnPutsCutRow.holds Tryz.pinned (OpenSpec.ofChange Rows.fnPutsCutSpec):=
 OpenClaim.holds_of_wide 6 Tryz.f6 rfl rfl rfl rfl rfl rfl rfl ⟨rfl,rfl,rfl,rfl,rfl⟩ rfl rfl rfl rfl rfl (by kernel_rfl) Tryz.func6 closed
  (of_decide_eq_true (by kernel_rfl)) (by unfold Func.isWrapper; first | (rw [if_pos (by decide +kernel)]; kernel_rfl) | (rw [if_neg (by decide +kernel)]; exact ⟨rfl,rfl⟩))
  (fun os started H enc _=>lifted os started H enc)
end Go.Proofs.YthejgmhimclmdaaGreatDoor.fnPutsCut
namespace Go.Proofs.YthejgmhimclmdaaGreatDoor
theorem fnPutsCut_holds:Rows.FnPutsCutCardSaid:=
 Claim7.holds_tied_plain_at .later [] [.data,.data,.data,.sentinel,.sentinel] true (true,"279616121f583a9bb50772b02051e0fe976c60d3105fd95cb0b9ee6bfb6ff7da") true
  fnPutsCut.over (fun _ h=>by cases h) (by kernel_rfl) (fun _ h=>by cases h) fnPutsCut_row_tie rfl ⟨rfl,rfl⟩ (by kernel_rfl) rfl
  (fun f fn hf hfn=>by
   have e1:f=6:=(Option.some.inj ((show Tryz.prog.funcNamed "loop.example/g00124/laws.FnPutsCut" = some 6 by kernel_rfl).symm.trans hf)).symm
   subst e1;have e2:fn=Tryz.f6:=(Option.some.inj (Tryz.func6.symm.trans hfn)).symm;subst e2;exact ⟨q9O.symm,fun j t ht=>by
    have hm:t∈Tryz.f6.params.toList:=by simpa using Array.mem_of_getElem? ht
    have hall:(Tryz.f6.params.toList.all fun u=>!Tryz.prog.wantsStandIn u)=true:=by kernel_rfl
    exact (show Tryz.prog.wantsStandIn t=false by simpa using List.all_eq_true.1 hall t hm)⟩)
  (q3t rfl)
#print axioms fnPutsCut_holds
end Go.Proofs.YthejgmhimclmdaaGreatDoor
