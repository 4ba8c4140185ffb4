/- It is proved here that for every engine the program's TableOf returns what the reference's TableOf returns, that it leaves its argument as it was, and that what it returns shares no memory with it. The conditions: the library's tables hold, when the call begins, what the program's text lays. -/
import Derived.Test.YthejgmhimclmdaaGreatDoorLawH
import Derived.Test.YthejgmhimclmdaaGreatDoorEkA
set_option linter.all false
namespace Go.Proofs.YthejgmhimclmdaaGreatDoor.fnExactTableOf
open Go Go.Den Go.Den.S Go.Proofs.YthejgmhimclmdaaGreatDoor
set_option maxRecDepth 100000
theorem lifted (os:Os) (started:os.Started) (H:Type) (enc:TypeId×Value->H) :
  ReturnsInHanded {} Tryz.checked os 11 .any (fun w args=>(Rows.fnExactTableOfSpec.pre enc Tryz.prog Tryz.f11 [] false w args/\laidMetH Tryz.prog qfJ w)/\sizedMet enc Tryz.prog Tryz.f11 (OpenSpec.ofChange Rows.fnExactTableOfSpec) false w args)
   (Rows.fnExactTableOfSpec.post enc Tryz.prog Tryz.f11 false true false false):=by
 refine returnsInHanded_of_change_and (C:=Tryz.checked) (X:=fun w _=>laidMetH Tryz.prog qfJ w) (fun _ _ _ hh h=>h.of_heap hh) own started (by kernel_rfl) Tryz.func11
  (ChangeSpec.witness_shaped (enc:=enc) (C:=Tryz.checked) (os:=os) (X:=fun w _=>laidMetH Tryz.prog qfJ w) false (World.doorLaid Tryz.prog 400 os) #[.agg #[.slice none 0 0,.int .i64 0,.int .i64 0,.int .i64 0,.slice none 0 0]] 8 rfl (qor os _) (by kernel_rfl) (by kernel_rfl) (by kernel_rfl) (qoq os _)) ?_
 intro W base args ds gs before hval hW _ _ hL _;refine qoD (Ts:=[qJ]) (f:=9) (tb:=4) (gl:=glW W) Tryz.func11 (c:=_) (by rfl) (by kernel_rfl) (by kernel_rfl) (by kernel_rfl) (by kernel_rfl) (by kernel_rfl) (by kernel_rfl) rfl ?_ hval hW (fun b o h=>h) ?_
 ·intro ds h;have h:ds.length=1:=h.trans (by kernel_rfl)
  match ds,h with
  | [d],_=>exact ⟨rfl,rfl,rfl⟩
 ·exact fun x h=>⟨(),qm6 rfl ((sound (qhA hL).1 (qhA hL).2.1 (qhA hL).2.2).call 11 x (true,()) (qkN x.1 h.1))⟩
theorem facts:((Rows.fnExactTableOfRow.inPlace==Tryz.prog.inPlace 11)&&((Rows.fnExactTableOfRow.unfollowed==Tryz.prog.unfollowed 11)&&((Rows.fnExactTableOfRow.recurses==Tryz.prog.recurses 11)&&(Rows.fnExactTableOfRow.named==Tryz.prog.varsNamed 11))))=true:=by kernel_rfl
theorem closed:joinedFacts Tryz.prog 11 Tryz.f11 Rows.fnExactTableOfSpec Rows.fnExactTableOfRow=true:=by
 have h:=facts;rw [Bool.and_eq_true,Bool.and_eq_true,Bool.and_eq_true] at h;obtain ⟨h1,h2,h3,h4⟩:=h;unfold joinedFacts;rw [qqo,qqq,h1,h2,h3,h4,qqb,qq9,qq8,qqp];show (_:Bool)=true
 kernel_rfl
theorem over:Rows.fnExactTableOfRow.holds Tryz.pinned (OpenSpec.ofChange Rows.fnExactTableOfSpec):=
 OpenClaim.holds_of_wide 11 Tryz.f11 rfl rfl rfl rfl rfl rfl rfl ⟨rfl,rfl,rfl,rfl,rfl⟩ rfl rfl rfl rfl rfl (by kernel_rfl) Tryz.func11 closed
  (of_decide_eq_true (by kernel_rfl)) (by unfold Func.isWrapper; first | (rw [if_pos (by decide +kernel)]; kernel_rfl) | (rw [if_neg (by decide +kernel)]; exact ⟨rfl,rfl⟩))
  (fun os started H enc _=>lifted os started H enc)
end Go.Proofs.YthejgmhimclmdaaGreatDoor.fnExactTableOf
namespace Go.Proofs.YthejgmhimclmdaaGreatDoor
theorem fnExactTableOf_holds:Rows.FnExactTableOfCardSaid:=
 Claim7.holds_tied_plain_at .later [] [.data,.data,.data,.sentinel,.sentinel] true (true,"279616121f583a9bb50772b02051e0fe976c60d3105fd95cb0b9ee6bfb6ff7da") true
  fnExactTableOf.over (fun _ h=>by cases h) (by kernel_rfl) (fun _ h=>by cases h) fnExactTableOf_row_tie rfl ⟨rfl,rfl⟩ (by kernel_rfl) rfl
  (fun f fn hf hfn=>by
   have e1:f=11:=(Option.some.inj ((show Tryz.prog.funcNamed "loop.example/g00124/laws.FnExactTableOf" = some 11 by kernel_rfl).symm.trans hf)).symm
   subst e1;have e2:fn=Tryz.f11:=(Option.some.inj (Tryz.func11.symm.trans hfn)).symm;subst e2;exact ⟨qqa.symm,fun j t ht=>by
    have hm:t∈Tryz.f11.params.toList:=by simpa using Array.mem_of_getElem? ht
    have hall:(Tryz.f11.params.toList.all fun u=>!Tryz.prog.wantsStandIn u)=true:=by kernel_rfl
    exact (show Tryz.prog.wantsStandIn t=false by simpa using List.all_eq_true.1 hall t hm)⟩)
  (qnk rfl)
#print axioms fnExactTableOf_holds
end Go.Proofs.YthejgmhimclmdaaGreatDoor
