/- It is proved here that the law FnDiffers answers true at every input: what two tables differ in, put into an engine, brings the one to the other. The conditions: the library's tables hold, when the call begins, what the program's text lays. -/
import Derived.Test.YthejgmhimclmdaaGreatDoorLawH
import Derived.Test.YthejgmhimclmdaaGreatDoorEmA
set_option linter.all false
namespace Go.Proofs.YthejgmhimclmdaaGreatDoor.fnDiffers
open Go Go.Den Go.Den.S Go.Proofs.YthejgmhimclmdaaGreatDoor
set_option maxRecDepth 100000
theorem lifted (os:Os) (started:os.Started) (H:Type) (enc:TypeId×Value->H) :
  ReturnsInHanded {} Tryz.checked os 12 .any (fun w args=>(Rows.fnDiffersSpec.pre enc Tryz.prog Tryz.f12 [] false w args/\laidMetH Tryz.prog qgM w)/\sizedMet enc Tryz.prog Tryz.f12 (OpenSpec.ofChange Rows.fnDiffersSpec) false w args)
   (Rows.fnDiffersSpec.post enc Tryz.prog Tryz.f12 false true false false):=by
 refine returnsInHanded_of_change_and (C:=Tryz.checked) (X:=fun w _=>laidMetH Tryz.prog qgM w) (fun _ _ _ hh h=>h.of_heap hh) own started (by kernel_rfl) Tryz.func12
  (ChangeSpec.witness_shaped (enc:=enc) (C:=Tryz.checked) (os:=os) (X:=fun w _=>laidMetH Tryz.prog qgM w) false (World.doorLaid Tryz.prog 400 os) #[.slice none 0 0] 8 rfl (qpQ os _) (by kernel_rfl) (by kernel_rfl) (by kernel_rfl) (qpP os _)) ?_
 intro W base args ds gs before hval hW _ _ hL _;refine qq6 (Ts:=[.sl (.int .u8)]) (f:=9) (tb:=4) (gl:=glW W) Tryz.func12 (c:=_) (by rfl) (by kernel_rfl) (by kernel_rfl) (by kernel_rfl) (by kernel_rfl) (by kernel_rfl) (by kernel_rfl) rfl ?_ hval hW (fun b o h=>h) ?_
 ·intro ds h;have h:ds.length=1:=h.trans (by kernel_rfl)
  match ds,h with
  | [d],_=>exact ⟨rfl,rfl,rfl⟩
 ·exact fun x h=>⟨(),qne rfl ((sound (qis hL).1 (qis hL).2.1 (qis hL).2.2).call 12 x (true,()) (qlQ x.1))⟩
theorem facts:((Rows.fnDiffersRow.inPlace==Tryz.prog.inPlace 12)&&((Rows.fnDiffersRow.unfollowed==Tryz.prog.unfollowed 12)&&((Rows.fnDiffersRow.recurses==Tryz.prog.recurses 12)&&(Rows.fnDiffersRow.named==Tryz.prog.varsNamed 12))))=true:=by kernel_rfl
theorem closed:joinedFacts Tryz.prog 12 Tryz.f12 Rows.fnDiffersSpec Rows.fnDiffersRow=true:=by
 have h:=facts;rw [Bool.and_eq_true,Bool.and_eq_true,Bool.and_eq_true] at h;obtain ⟨h1,h2,h3,h4⟩:=h;unfold joinedFacts;rw [qsq,qss,h1,h2,h3,h4,qs9,qs7,qs6,qsr];show (_:Bool)=true
 kernel_rfl
theorem over:Rows.fnDiffersRow.holds Tryz.pinned (OpenSpec.ofChange Rows.fnDiffersSpec):=
 OpenClaim.holds_of_wide 12 Tryz.f12 rfl rfl rfl rfl rfl rfl rfl ⟨rfl,rfl,rfl,rfl,rfl⟩ rfl rfl rfl rfl rfl (by kernel_rfl) Tryz.func12 closed
  (of_decide_eq_true (by kernel_rfl)) (by unfold Func.isWrapper; first | (rw [if_pos (by decide +kernel)]; kernel_rfl) | (rw [if_neg (by decide +kernel)]; exact ⟨rfl,rfl⟩))
  (fun os started H enc _=>lifted os started H enc)
end Go.Proofs.YthejgmhimclmdaaGreatDoor.fnDiffers
namespace Go.Proofs.YthejgmhimclmdaaGreatDoor
theorem fnDiffers_holds:Rows.FnDiffersCardSaid:=
 Claim7.holds_tied_plain_at .later [] [.data,.data,.data,.sentinel,.sentinel] true (true,"279616121f583a9bb50772b02051e0fe976c60d3105fd95cb0b9ee6bfb6ff7da") true
  fnDiffers.over (fun _ h=>by cases h) (by kernel_rfl) (fun _ h=>by cases h) fnDiffers_row_tie rfl ⟨rfl,rfl⟩ (by kernel_rfl) rfl
  (fun f fn hf hfn=>by
   have e1:f=12:=(Option.some.inj ((show Tryz.prog.funcNamed "loop.example/g00124/laws.FnDiffers" = some 12 by kernel_rfl).symm.trans hf)).symm
   subst e1;have e2:fn=Tryz.f12:=(Option.some.inj (Tryz.func12.symm.trans hfn)).symm;subst e2;exact ⟨qs8.symm,fun j t ht=>by
    have hm:t∈Tryz.f12.params.toList:=by simpa using Array.mem_of_getElem? ht
    have hall:(Tryz.f12.params.toList.all fun u=>!Tryz.prog.wantsStandIn u)=true:=by kernel_rfl
    exact (show Tryz.prog.wantsStandIn t=false by simpa using List.all_eq_true.1 hall t hm)⟩)
  (qoE rfl)
#print axioms fnDiffers_holds
end Go.Proofs.YthejgmhimclmdaaGreatDoor
