/- LawG: equations of the functions of this seat as the executor tells them, or plain facts about them. Conditions: none here. -/
import Derived.Test.YthejgmhimclmdaaGreatDoorExtH
import Derived.Test.YthejgmhimclmdaaGreatDoorRows
import Derived.Test.YthejgmhimclmdaaGreatDoorCards
import Derived.Test.YthejgmhimclmdaaGreatDoorTie
import Derived.WalkKit
import Derived.ProofKit
import Derived.LaidMore
import Derived.OpenShut
import Derived.Stop.Joined
import Derived.SevenTiedAt
set_option linter.all false
namespace Go.Proofs.YthejgmhimclmdaaGreatDoor
open Go Go.Den Go.Den.S
set_option maxRecDepth 100000
theorem own:ownKnob Tryz.prog.godebug=none:=by kernel_rfl
theorem count:qea Tryz.prog:=qnS (by kernel_rfl)
theorem gPow:Tryz.prog.globalNamed "internal/strconv.uint64pow10" = some 3:=by kernel_rfl
def qgM:List (String×DataW Unit):=[("math/bits.deBruijn32tab",Rows.laid_math_bits_deBruijn32tab),("math/bits.deBruijn64tab",Rows.laid_math_bits_deBruijn64tab),("internal/strconv.uint64pow10",Rows.laid_internal_strconv_uint64pow10),("strconv.ErrRange",Rows.laid_strconv_ErrRange),("strconv.ErrSyntax",Rows.laid_strconv_ErrSyntax)]
theorem qsu:(Rows.laid_internal_strconv_uint64pow10:DataW Unit)=Lib.tabData .u64 Lib.pow10Tab:=by kernel_rfl
theorem qeR {H:Type} {enc:TypeId×Value->H} {P:Program} {w:World} {base:Nat} {sp:Nat->Bool} {held:Bool} {fuel:Nat} {t:TypeId} {ms:Array (String×TypeId)} {cs:List Value} {nm:String} {d:DataW H} {p:List MemPlace}
  (ht:P.underlying t=some (.interface ms)) (h:DataW.trod enc P w base sp held fuel t cs=some (.iface nm d,p)):∃ u v,cs=[.iface u v]:=by
 cases fuel with
 | zero=>simp [DataW.trod] at h
 | succ fuel=>
  unfold DataW.trod at h;rw [ht] at h;cases cs with
  | nil=>simp at h
  | cons c r=>
   cases r with
   | nil=>cases c<;>first | exact ⟨_,_,rfl⟩ | (simp at h)
   | cons a b=>cases c<;>simp at h
theorem gSyn:Tryz.prog.globalNamed "strconv.ErrSyntax" = some 1:=by kernel_rfl
theorem gRan:Tryz.prog.globalNamed "strconv.ErrRange" = some 2:=by kernel_rfl
theorem qis {W:World} (h:laidMetH Tryz.prog qgM W):Lib.TabIs Tryz.prog W "internal/strconv.uint64pow10" .u64 Lib.pow10Tab/\(∃ u v,W.var? Tryz.prog "strconv.ErrSyntax" = some #[.iface u v])/\∃ u v,W.var? Tryz.prog "strconv.ErrRange" = some #[.iface u v]:=by
 rw [MakeChecks.laidMetH_plain _ _ _ (by kernel_rfl)] at h
 obtain ⟨ps,⟨g0,t0,cs0,f0,p0,q0,hg0,ht0,hv0,hd0,⟨g1,t1,cs1,f1,p1,q1,hg1,ht1,hv1,hd1,⟨g2,t2,cs2,f2,p2,q2,hg2,ht2,hv2,hd2,⟨gr,tr,csr,fr,pr,qr,hgr,htr,hvr,hdr,⟨gs,ts,css,fs,ps',qs,hgs,hts,hvs,hds,_,_⟩,_⟩,_⟩,_⟩,_⟩,_,_⟩:=h;refine ⟨?_,?_,?_⟩
 ·rw [gPow] at hg2;have e1:g2=3:=(Option.some.inj hg2).symm;subst e1;have hty:(Tryz.prog.globals[3]?).map (·.type)=some t2:=ht2;have h1:(Tryz.prog.globals[3]?).map (·.type)=some 328:=by kernel_rfl
  rw [h1] at hty;have e2:t2=328:=(Option.some.inj hty).symm;subst e2;rw [qsu] at hd2;have:=Lib.cells_of_tab (n:=20) (e:=274) Tryz.underlying328 Tryz.underlying274 (by kernel_rfl) (by kernel_rfl) hd2
  have h2:W.var? Tryz.prog "internal/strconv.uint64pow10" = some cs2:=hv2;show W.var? Tryz.prog "internal/strconv.uint64pow10" = _;rw [h2,<- this]
 ·rw [gSyn] at hgs;have e1:gs=1:=(Option.some.inj hgs).symm;subst e1;have hty:(Tryz.prog.globals[1]?).map (·.type)=some ts:=hts;have h1:(Tryz.prog.globals[1]?).map (·.type)=some 276:=by kernel_rfl
  rw [h1] at hty;have e2:ts=276:=(Option.some.inj hty).symm;subst e2;obtain ⟨u,v,e⟩:=qeR Tryz.underlying276 hds;have h2:W.var? Tryz.prog "strconv.ErrSyntax" = some css:=hvs;exact ⟨u,v,by rw [h2,<- e]⟩
 ·rw [gRan] at hgr;have e1:gr=2:=(Option.some.inj hgr).symm;subst e1;have hty:(Tryz.prog.globals[2]?).map (·.type)=some tr:=htr;have h1:(Tryz.prog.globals[2]?).map (·.type)=some 276:=by kernel_rfl
  rw [h1] at hty;have e2:tr=276:=(Option.some.inj hty).symm;subst e2;obtain ⟨u,v,e⟩:=qeR Tryz.underlying276 hdr;have h2:W.var? Tryz.prog "strconv.ErrRange" = some csr:=hvr;exact ⟨u,v,by rw [h2,<- e]⟩
def glW (W:World) (b:Nat) (o:Obj):Prop:=W.heap[b]?=some o
theorem qfP {P:Program} {W w:World} {name:String} {cs:Array Value} (h:∀ b o,glW W b o->w.heap[b]?=some o) (hv:W.var? P name=some cs):w.var? P name=some cs:=by
 unfold World.var? at hv ⊢;cases hg:P.globalNamed name with
 | none=>rw [hg] at hv; cases hv
 | some g=>
  rw [hg] at hv;simp only [oB] at hv ⊢;cases ho:W.heap[g]? with
  | none=>rw [ho] at hv; cases hv
  | some o=>
   rw [ho] at hv;rw [h g o ho];exact hv
theorem sound {W:World} (hP:Lib.TabIs Tryz.prog W "internal/strconv.uint64pow10" .u64 Lib.pow10Tab) (hS:∃ u v,W.var? Tryz.prog "strconv.ErrSyntax" = some #[.iface u v]) (hR:∃ u v,W.var? Tryz.prog "strconv.ErrRange" = some #[.iface u v]):FOk Tryz.prog V (glW W) (DF X):=qsm X _ (by kernel_rfl) count qsd fun v f h x r hr=>by
 have h:ext v=some f:=h;unfold ext at h;split at h
 ·cases h; exact q4L (qrh (glW W) (fun w hw=>qfP hw hP) x r hr)
 ·cases h
  obtain ⟨u1,v1,h1⟩:=hS;obtain ⟨u2,v2,h2⟩:=hR;exact q4L (qqN (glW W) u1 u2 v1 v2 (fun w hw=>qfP hw h1) (fun w hw=>qfP hw h2) x r hr)
 ·cases h; exact q4L (qrf (glW W) x r hr)
 ·cases h; exact q4L (qqX (glW W) x r hr)
 ·cases h; exact q4L (qrG (glW W) x r hr)
 ·cases h; exact q4L (qqm (glW W) x r hr)
 ·cases h
theorem qpP (os:Os) (args:Array Value):laidMetH Tryz.prog qgM ((World.doorLaid Tryz.prog 400 os).forCall (fun _ _=>0) ⟨#[],args,[]⟩).memory:=
 laidMetH_of_parts3 (fuel:=8) (laidMet_of_run' 8 (by kernel_rfl) (by kernel_rfl)) (by kernel_rfl) (by kernel_rfl)
theorem qpQ (os:Os) (args:Array Value):((World.doorLaid Tryz.prog 400 os).forCall (fun _ _=>0) ⟨#[],args,[]⟩).Shaped Tryz.prog:=World.shaped_of_RefB (by kernel_rfl) (by kernel_rfl)
end Go.Proofs.YthejgmhimclmdaaGreatDoor
