/- ExtE: equations of the functions of this seat as the executor tells them, or plain facts about them. Conditions: none here. -/
import Derived.Test.YthejgmhimclmdaaGreatDoorEqA
import Derived.Test.YthejgmhimclmdaaGreatDoorInsA
import Derived.Test.YthejgmhimclmdaaGreatDoorShelfE
import Derived.Lib.LaidTab
set_option linter.all false
open Bool (and_eq_true)
open List (getD length length_drop length_take map_map)
open Nat (add_zero le_refl)
open Option (map_some)
namespace Go.Den
open Go Go.Proofs Go.RowKit
theorem qj8 {P:Program} {s:Sig} {ts:List TypeId} {w w':World} {fz φ:Nat->Prop} {vals:List Value} {r:s.RetD} {vs:List Value} (hlt:∀ b,fz b->b < w.heap.size)
  (hr:ResO P w' fz s.res ts vs r.1 fun _=>False) (ho:zM w' fz s.pars vals r.2 fun _=>False) (hB:Below w.heap.size w w'):Post P s ts w fz φ vals r (packed vs) w':=
 ⟨⟨vs,fz,fun _=>False,fun _=>False,fun _=>False,rfl,hr,ho,⟨fun _ h=>h.elim,fun b=>⟨False.elim,fun h=>h.elim id id⟩⟩,fun _ h=>h.elim,fun _ h=>h,fun _ h=>.inl h,fun _ h=>h.elim,fun b hb=>Nat.lt_of_lt_of_le (hlt b hb) hB.size,fun _ h=>h.elim⟩,fun b hb _=>hB.block b hb,hB.size,hB.os,hB.tape,hB.output⟩
theorem below_grow (w:World) (k:Nat) (os:Array Obj):Below w.heap.size w (Sort.grow (w.drewN k) os):=⟨rfl,rfl,rfl,by show _<=(w.heap++os).size; simp,fun b hb=>by
 show (w.heap++os)[b]?=_;exact Array.getElem?_append_left hb⟩
theorem qlH (w:World) (e:TypeId) (t:BA):Below w.heap.size w (Lib.bytesWorld w e t):=by
 unfold Lib.bytesWorld World.freeze;rw [if_neg (by omega)]
 refine ⟨rfl,rfl,rfl,?_,fun b hb=>?_⟩
 ·show _<=(Array.modify (w.heap.push _) _ _).size;simp
 ·show (Array.modify (w.heap.push _) _ _)[b]?=_;rw [Array.getElem?_modify,if_neg (by show ¬ w.heap.size=b; omega)]
  exact Array.getElem?_push_lt hb |>.trans (Array.getElem?_eq_getElem hb).symm
end Go.Den
namespace Go.Den.S
open Go Go.Den Go.Proofs Go.RowKit
theorem qrH {P:Program} {w:World} {fz:Nat->Prop} {v:Value} {s:BA} {φ:Nat->Prop} (h:ArgO w fz false (.val .str) v s φ):v=.string s:=by
 have h4:=h.1.1;simp only [Bool.false_eq_true,if_false] at h4;have h5:v.cells.toList=[.string s]:=h.2.1;rw [cells_one h4] at h5;simpa using h5
theorem qe2 {w:World} {fz:Nat->Prop} {v:Value} {k:IntKind} {n:Int} {φ:Nat->Prop} (h:ArgO w fz false (.val (.int k)) v n φ):v=.int k n:=by
 have h4:=h.1.1;simp only [Bool.false_eq_true,if_false] at h4;have h5:v.cells.toList=[.int k n]:=h.2.1;rw [cells_one h4] at h5;simpa using h5
theorem qb8 {w:World} {fz:Nat->Prop} {v:Value} {t:Ty} {xs:List t.D} {φ:Nat->Prop} (h:ArgO w fz false (.own (.sl t)) v xs φ):∃ A n c,v=.slice A n c/\Ow w fz (.sl t) [.slice A n c] xs φ:=by
 have h4:=h.1.1;simp only [Bool.false_eq_true,if_false] at h4;have h5:Ow w fz (.sl t) v.cells.toList xs φ:=h.2;rw [cells_one h4] at h5;obtain ⟨A,c,e,_⟩:=id h5;simp only [List.cons.injEq,and_true] at e;subst e;exact ⟨A,_,c,rfl,h5⟩
theorem qrg {w:World} {fz:Nat->Prop} {k:IntKind} {n:Int}:q4Z w fz false (.own (.int k)) (.int k n) n fun _=>False:=
 ⟨⟨rfl,fun c hc=>by
  have hc:c∈[Value.int k n]:=hc;simp only [List.mem_singleton] at hc;subst hc; rfl⟩,rfl,fun _ h=>h⟩
theorem qrI {w:World} {fz:Nat->Prop} {s:BA}:q4Z w fz false (.own .str) (.string s) s fun _=>False:=
 ⟨⟨rfl,fun c hc=>by
  have hc:c∈[Value.string s]:=hc;simp only [List.mem_singleton] at hc;subst hc; rfl⟩,rfl,fun _ h=>h⟩
set_option maxRecDepth 100000 in
theorem qrh (gl:Nat->Obj->Prop) (hgl:∀ w:World,(∀ b o,gl b o->w.heap[b]?=some o)->Lib.TabIs Tryz.prog w "internal/strconv.uint64pow10" .u64 Lib.pow10Tab):∀ (x:Int×Unit) (r:BA×Unit),q2N x=some r->q2O Tryz.prog gl ⟨237,[.val I],[.own .str]⟩ x r:=by
 intro ⟨n,u⟩ r h fn w fz φ vals hfn hargs hφ hlt hg;have hfe:fn=Tryz.f237:=Option.some.inj (hfn.symm.trans Tryz.func237);subst hfe;obtain ⟨v1,r1,φ1,φ2,rfl,h1,⟨rfl,hn2⟩,htwo⟩:=hargs;obtain rfl:=qe2 h1;unfold q2N at h;cases hb:(decide (-9223372036854775808<=n)&&decide (n<=9223372036854775807)) with
 | false=>rw [hb] at h; cases h
 | true=>
  rw [hb] at h;simp only [and_eq_true,decide_eq_true_eq] at hb;obtain rfl:=Option.some.inj h;refine .inr ⟨zK (c:=_) Tryz.func237 (by rfl) (by kernel_rfl),(Tryz.strconv_Itoa n hb.1 hb.2 w (hgl w fun b o hbo=>(hg b o hbo).1)).mono fun e w' ⟨he,k,os,hw⟩=>⟨_,he,?_⟩⟩
  subst hw;exact qj8 (vs:=[_]) hlt ⟨9,_,by kernel_rfl,rfl,qrI⟩ (fun _ h=>h) (below_grow w k os)
set_option maxRecDepth 100000 in
theorem qqN (gl:Nat->Obj->Prop) (tp1 tp2:TypeId) (p1 p2:Value) (hs:∀ w:World,(∀ b o,gl b o->w.heap[b]?=some o)->w.var? Tryz.prog "strconv.ErrSyntax" = some #[.iface tp1 p1]) (hr:∀ w:World,(∀ b o,gl b o->w.heap[b]?=some o)->w.var? Tryz.prog "strconv.ErrRange" = some #[.iface tp2 p2]) :
  ∀ (x:BA×Unit) (r:(Int×Bool)×Unit),q2M x=some r->q2O Tryz.prog gl ⟨268,[.val .str],[.own I,.err]⟩ x r:=by
 intro ⟨s,u⟩ r h fn w fz φ vals hfn hargs hφ hlt hg;have hfe:fn=Tryz.f268:=Option.some.inj (hfn.symm.trans Tryz.func268);subst hfe;obtain ⟨v1,r1,φ1,φ2,rfl,h1,⟨rfl,hn2⟩,htwo⟩:=hargs;obtain rfl:=qrH (P:=Tryz.prog) h1;unfold q2M at h;have hbody:=zK (c:=_) (args:=#[.string s]) (w:=w) Tryz.func268 (by rfl) (by kernel_rfl)
 have hg1:∀ b o,gl b o->w.heap[b]?=some o:=fun b o hbo=>(hg b o hbo).1
 obtain ⟨te,hte⟩:∃ te,Tryz.f268.resultTypes.toList=[3,te]/\aggB Tryz.prog te=false:=⟨_,rfl,by kernel_rfl⟩
 have hres:∀ (w':World) (n:Int) (b:Bool) (v:Value),(if b then ∃ t y,v=.iface t y else v=.nilIface)->Below w.heap.size w w'->Post Tryz.prog ⟨268,[.val .str],[.own I,.err]⟩ Tryz.f268.resultTypes.toList w fz φ [.string s] ((n,b),()) (.tuple #[.int .i64 n,v]) w':=fun w' n b v hv hB=>by
  rw [hte.1];exact qj8 (vs:=[.int .i64 n,v]) hlt ⟨3,[te],_,[v],fun _=>False,fun _=>False,rfl,rfl,qrg,⟨te,v,rfl,rfl,hv,fun _ h=>h⟩,⟨fun _ h=>h.elim,fun b=>⟨False.elim,fun h=>h.elim id id⟩⟩⟩ (fun _ h=>h) hB
 cases hb:decide (s.size<=281474976710656) with
 | false=>rw [hb] at h; cases h
 | true=>
  rw [hb] at h;have hb:=of_decide_eq_true hb;cases ha:Lib.atoiAll s.data.toList with
  | ok v=>
   rw [ha] at h;obtain rfl:=Option.some.inj h;refine .inr ⟨hbody,(Tryz.strconv_Atoi_ok s (by omega) v ha w).mono fun e w' ⟨he,hw⟩=>⟨_,he,?_⟩⟩
   refine hres w' v false _ rfl ?_;rcases hw with rfl | ⟨t,rfl⟩
   ·exact ⟨rfl,rfl,rfl,le_refl _,fun _ _=>rfl⟩
   ·exact qlH w _ t
  | «syntax»=>
   rw [ha] at h;obtain rfl:=Option.some.inj h;refine .inr ⟨hbody,(Tryz.strconv_Atoi_syntax_var s hb ha tp1 p1 w (hs w hg1)).mono fun e w' ⟨N,he,_,_,hB⟩=>⟨_,he,?_⟩⟩
   exact hres w' 0 true _ ⟨_,_,rfl⟩ hB
  | range=>
   rw [ha] at h;obtain rfl:=Option.some.inj h;refine .inr ⟨hbody,(Tryz.strconv_Atoi_range_var s hb ha tp2 p2 w (hr w hg1)).mono fun e w' ⟨N,he,_,_,hB⟩=>⟨_,he,?_⟩⟩
   exact hres w' _ true _ ⟨_,_,rfl⟩ hB
end Go.Den.S
namespace Go.Den
open Go Go.Proofs Go.RowKit
open Go.Den.S in
theorem qq1 {P:Program} {gl:Nat->Obj->Prop} {fid:FuncId} {fnc:Func} {c0:Code} {st it:TypeId} {t:Ty} {by_:Nat} {Z:Array Value} {et:TypeId} (R:qeZ P fid t.nc by_ Z et) (hZ:Z.size=t.nc) (hk:0 < t.nc) (hu8:t.beq (.int .u8)=false) (hby:1<=by_)
  (hfn:P.funcs[fid]?=some fnc) (hbody:fnc.body=some c0) (hname:(fnc.name == "runtime.NumGoroutine")=false) (hpar:fnc.params.toList=[st,it,st]) (hres:fnc.resultTypes.toList=[st]) (hst:aggB P st=false) (hit:aggB P it=false) :
  ∀ (x:List t.D×Int×List t.D×Unit) (r:List t.D×Unit),insF by_ x=some r->q2O P gl ⟨fid,[.own (.sl t),.val (.int .i64),.own (.sl t)],[.own (.sl t)]⟩ x r:=by
 intro ⟨xs,i,ys,u⟩ r h fn w fz φ vals hfn' hargs hφ hlt hg;have hfe:fn=fnc:=Option.some.inj (hfn'.symm.trans hfn);subst hfe;rw [hpar] at hargs;obtain ⟨v1,r1,φ1,φr1,rfl,h1,⟨v2,r2,φ2,φr2,rfl,h2,⟨v3,r3,φ3,φr3,rfl,h3,⟨rfl,hn3⟩,tw3⟩,tw2⟩,tw1⟩:=hargs;have h1:ArgO w fz false (.own (.sl t)) v1 xs φ1:=by rw [<- hst]; exact h1
 have h2:ArgO w fz false (.val (.int .i64)) v2 i φ2:=by rw [<- hit]; exact h2
 have h3:ArgO w fz false (.own (.sl t)) v3 ys φ3:=by rw [<- hst]; exact h3
 obtain ⟨A,n,c,rfl,o1⟩:=qb8 h1;obtain rfl:=qe2 h2;obtain ⟨A3,m,c3,rfl,o3⟩:=qb8 h3;have hn2:Nil φ2:=h2.2.2;unfold insF at h;simp only at h;cases hb:(decide (0<=i)&&decide (i<=(xs.length:Int))&&decide (0 < ys.length)&&lim (xs.length+ys.length) by_) with
 | false=>rw [hb] at h; cases h
 | true=>
  rw [hb] at h;simp only [and_eq_true,decide_eq_true_eq,qaV] at hb;obtain ⟨⟨⟨hi0,hi⟩,hm⟩,hbig⟩:=hb;obtain rfl:=Option.some.inj h;obtain ⟨rfl,cs,φx,hx,hsx,hax⟩:=o1.toE;obtain ⟨rfl,vs,φy,hy,hsy,hay⟩:=o3.toE;have hd13:∀ b,φ1 b->¬ φ3 b:=fun b hb hb'=>tw1.1 b hb ((tw2.2 b).2 (.inr ((tw3.2 b).2 (.inl hb'))))
  have hφ':∀ b,φ1 b\/φ3 b->φ b:=fun b hb=>(tw1.2 b).2 (hb.imp id fun h=>(tw2.2 b).2 (.inr ((tw3.2 b).2 (.inl h))))
  have hφl:∀ b,φ b->b < w.heap.size:=fun b hb=>by
   rcases (tw1.2 b).1 hb with h | h
   ·exact o1.lt b h
   ·rcases (tw2.2 b).1 h with h | h
    ·exact absurd h (hn2 b)
    ·rcases (tw3.2 b).1 h with h | h
     ·exact o3.lt b h
     ·exact absurd h (hn3 b)
  rcases hay with ⟨_,_,h0,_⟩ | ⟨vb,voff,Mv,ev,frv,rfl,hvb3,_,hv,hvm,hvs,hmc,hvc⟩
  ·exact absurd hm (by omega)
  have hbody':=zK (c:=c0) (args:=#[.slice A (length xs) c,.int .i64 i,.slice (some ⟨vb,voff,none⟩) (length ys) c3]) (w:=w) hfn hbody hname;refine .inr ⟨hbody',?_⟩;show Calls P fid #[.slice A (length xs) c,.int .i64 i,.slice (some ⟨vb,voff,none⟩) (length ys) c3] w _;rcases hax with ⟨rfl,rfl,h0,rfl⟩ | ⟨b,off,M,e,fr,rfl,hb1,hbx,hM,hmu,hs,hnc,hc⟩
  ·refine (qkz R hZ hk hu8 hby (w:=w) (A:=none) (b:=0) (off:=0) (M:=#[]) (e:=0) (fr:=(0,0)) hi0 hi hm hbig hx.1 hy.1 hx.ones hy.ones (.inl ⟨rfl,rfl,h0,rfl⟩) hv hvm hvs hmc hvc).mono fun e w' ⟨val,he,hl⟩=>⟨val,he,?_⟩
   rw [hres];exact qkA hst hx hy hi0 hi hsx hsy hd13 hφ' hφl hφ hlt (fun h=>absurd rfl h) hl
  ·refine (qkz R hZ hk hu8 hby (w:=w) hi0 hi hm hbig hx.1 hy.1 hx.ones hy.ones (.inr ⟨rfl,hM,hmu,hs,hnc,hc,fun e=>hd13 b hb1 (by rw [<- e]; exact hvb3)⟩) hv hvm hvs hmc hvc).mono fun e w' ⟨val,he,hl⟩=>⟨val,he,?_⟩
   rw [hres];exact qkA hst hx hy hi0 hi hsx hsy hd13 hφ' hφl hφ hlt (fun _=>⟨hb1,hbx⟩) hl
end Go.Den
namespace Go.Den.S
open Go Go.Den Go.Proofs Go.RowKit
def qsw:Value:=Value.agg #[Value.string { data:=#[] },Value.string { data:=#[] },Value.int IntKind.i64 0]
theorem qnA:qeZ Tryz.prog 245 qm.nc 40 qsw.cells 146:=⟨qnB,qjB,qjA,qoJ⟩
set_option maxRecDepth 100000 in
theorem qrf (gl:Nat->Obj->Prop):∀ (x:List qm.D×Int×List qm.D×Unit) (r:List qm.D×Unit),insF 40 x=some r->q2O Tryz.prog gl ⟨245,[.own (.sl qm),.val I,.own (.sl qm)],[.own (.sl qm)]⟩ x r:=
 qq1 (c0:=_) (st:=32) (it:=3) qnA (by decide) (by decide) rfl (by decide) Tryz.func245 (by rfl) (by kernel_rfl) (by kernel_rfl) (by kernel_rfl) (by kernel_rfl) (by kernel_rfl)
theorem qhq {w:World} {fz:Nat->Prop} {t:Ty} {cs:List Value} {xs:List t.D} {φx:Nat->Prop} (hx:OwE w fz t cs xs φx) {i j:Nat} (hij:i<=j) (hj:j<=length xs) :
  ∃ φz:Nat->Prop,OwE w fz t (cs.take (i * t.nc)++cs.drop (j * t.nc)) (xs.take i++xs.drop j) φz/\∀ b,φz b->φx b:=by
 obtain ⟨ψ,hp,hdj,hφ⟩:=hx.parts;have hl:=hx.1;have h1:=hp 0 i (Nat.zero_le _) (by omega)
 have h2:=hp j (length xs) hj (le_refl _);have e1:(cs.drop (0 * t.nc)).take ((i - 0) * t.nc)=cs.take (i * t.nc):=by simp
 have e2:(xs.drop 0).take (i - 0)=xs.take i:=by simp
 have e3:(cs.drop (j * t.nc)).take ((length xs - j) * t.nc)=cs.drop (j * t.nc):=by
  apply List.take_of_length_le
  rw [length_drop,hl,Nat.sub_mul];exact le_refl _
 have e4:(xs.drop j).take (length xs - j)=xs.drop j:=by
  apply List.take_of_length_le
  rw [length_drop];exact le_refl _
 rw [e1,e2] at h1;rw [e3,e4] at h2;refine ⟨_,h1.append h2 fun b ⟨k,k1,k2,k3⟩ ⟨k',l1,l2,l3⟩=>hdj k k' b (by omega) l2 (by omega) k3 l3,fun b hb=>?_⟩
 rcases hb with ⟨k,k1,k2,k3⟩ | ⟨k,k1,k2,k3⟩
 ·exact (hφ b).2 ⟨k,by omega,k3⟩
 ·exact (hφ b).2 ⟨k,k2,k3⟩
set_option maxRecDepth 100000 in
theorem qqX (gl:Nat->Obj->Prop):∀ (x:List qm.D×Int×Int×Unit) (r:List qm.D×Unit),delF 40 x=some r->q2O Tryz.prog gl ⟨187,[.own (.sl qm),.val I,.val I],[.own (.sl qm)]⟩ x r:=by
 intro ⟨xs,i,j,u⟩ r h fn w fz φ vals hfn' hargs hφ hlt hg;have hfe:fn=Tryz.f187:=Option.some.inj (hfn'.symm.trans Tryz.func187);subst hfe;rw [show Tryz.f187.params.toList=[32,3,3] by kernel_rfl] at hargs
 have hst:aggB Tryz.prog 32=false:=by kernel_rfl
 have hit:aggB Tryz.prog 3=false:=by kernel_rfl
 have hres:Tryz.f187.resultTypes.toList=[32]:=by kernel_rfl
 obtain ⟨v1,r1,φ1,φr1,rfl,h1,⟨v2,r2,φ2,φr2,rfl,h2,⟨v3,r3,φ3,φr3,rfl,h3,⟨rfl,hn3⟩,tw3⟩,tw2⟩,tw1⟩:=hargs;have h1:ArgO w fz false (.own (.sl qm)) v1 xs φ1:=by rw [<- hst]; exact h1
 have h2:ArgO w fz false (.val (.int .i64)) v2 i φ2:=by rw [<- hit]; exact h2
 have h3:ArgO w fz false (.val (.int .i64)) v3 j φ3:=by rw [<- hit]; exact h3
 obtain ⟨A,n,c,rfl,o1⟩:=qb8 h1;obtain rfl:=qe2 h2;obtain rfl:=qe2 h3;unfold delF at h;simp only at h;cases hb:(decide (0<=i)&&decide (i<=j)&&decide (j<=(xs.length:Int))&&lim xs.length 40) with
 | false=>rw [hb] at h; cases h
 | true=>
  rw [hb] at h;simp only [and_eq_true,decide_eq_true_eq,qaV] at hb;obtain ⟨⟨⟨hi0,hij⟩,hj⟩,hbig⟩:=hb;obtain rfl:=Option.some.inj h;obtain ⟨i,rfl⟩:∃ k:Nat,i=(k:Int):=⟨i.toNat,by omega⟩
  obtain ⟨j,rfl⟩:∃ k:Nat,j=(k:Int):=⟨j.toNat,by omega⟩
  have hij:i<=j:=by omega
  have hj:j<=length xs:=by omega
  simp only [tN];have hφl:∀ b,φ1 b->φ b:=fun b hb=>(tw1.2 b).2 (.inl hb)
  obtain ⟨rfl,cs,φx,hx,hsx,hax⟩:=o1.toE;have hbody':=zK (c:=_) (args:=#[.slice A (length xs) c,.int .i64 (i:Int),.int .i64 (j:Int)]) (w:=w) Tryz.func187 (by rfl) (by kernel_rfl)
  refine .inr ⟨hbody',?_⟩;show Calls Tryz.prog 187 #[.slice A (length xs) c,.int .i64 (i:Int),.int .i64 (j:Int)] w _;have fin:∀ (w':World) (A':Option Addr) (φ':Nat->Prop),Ow w' fz (.sl qm) [.slice A' (length (xs.take i++xs.drop j)) c] (xs.take i++xs.drop j) φ'->(∀ b,φ' b->φ b)->(∀ b,b < w.heap.size->¬ φ b->w'.heap[b]?=w.heap[b]?)->w'.heap.size=w.heap.size->w'.os=w.os->w'.tape=w.tape->w'.output=w.output->
    Post Tryz.prog ⟨187,[.own (.sl qm),.val I,.val I],[.own (.sl qm)]⟩ [32] w fz φ [.slice A (length xs) c,.int .i64 (i:Int),.int .i64 (j:Int)] (xs.take i++xs.drop j,()) (.slice A' (length (xs.take i++xs.drop j)) c) w':=fun w' A' φ' ho hs hk hz h5 h6 h7=>by
   refine ⟨⟨[_],fz,φ',fun _=>False,φ',rfl,⟨32,_,rfl,rfl,⟨by rw [hst]; rfl,fun cc hc=>?_⟩,ho⟩,fun _ h=>h,⟨fun _ _ h=>h,fun b=>⟨.inl,fun h=>h.elim id False.elim⟩⟩,fun b hb=>.inl (hs b hb),fun b hb=>hb,fun b hb=>.inl hb,fun b hb=>hφ b (hs b hb),fun b hb=>by rw [hz]; exact hlt b hb,fun b hb=>ho.lt b hb⟩,fun b hb hnb=>hk b hb hnb,Nat.le_of_eq hz.symm,h5,h6,h7⟩
   have hc:cc∈[Value.slice A' (length (xs.take i++xs.drop j)) c]:=hc;simp only [List.mem_singleton] at hc;subst hc; rfl
  rw [hres];have hlen:length (xs.take i++xs.drop j)=i+(length xs - j):=by
   rw [lA,length_take,length_drop]; omega
  by_cases he:i=j
  ·subst he;have hsame:xs.take i++xs.drop i=xs:=List.take_append_drop i xs;refine (qom A (length xs) c i w (by
    rcases hax with ⟨_,_,h0,hc⟩ | ⟨_,_,_,_,_,_,_,_,_,_,_,h,_⟩
    ·omega
    ·exact h) hj (by omega) (fun hA=>by
    rcases hax with ⟨_,_,h0,hc⟩ | ⟨_,_,_,_,_,h,_⟩
    ·exact ⟨h0,hc⟩
    ·rw [hA] at h; cases h)).mono fun e w' ⟨he,hw⟩=>⟨_,he,?_⟩
   subst hw;have:=fin w' A φ1 (by rw [hsame]; exact o1) hφl (fun _ _ _=>rfl) rfl rfl rfl rfl
   rw [hsame] at this ⊢;exact this
  ·have hlt':i < j:=by omega
   rcases hax with ⟨_,_,h0,_⟩ | ⟨b,off,M,e,fr,rfl,hb1,hbx,hM,hmu,hs,hnc,hc⟩
   ·omega
   have hcl:cs.length=length xs * 3:=hx.1;have hs:off+c * 3<=M.size:=hs;refine (qon b off (length xs) c i j cs w hnc hlt' hj (by omega) hcl (cell_of hc) (fun k hk=>q3I hM (hmu.1 _ (by omega))) hx.ones).mono fun e w' ⟨he,hw⟩=>⟨_,he,?_⟩
   subst hw;have hM':w.drew.heap[b]?=some (.cells M _ fr):=hM;obtain ⟨hAp,M',hM',hMs,hMg⟩:=q0n (o:=off+i * 3) (vs:=cs.drop (j * 3)) hM' hmu.1 (by rw [length_drop]; omega) (fun v hv=>hx.ones v (List.mem_of_mem_drop hv))
   have hzl:(Builtin.zeroCells (Value.agg #[Value.string { data:=#[] },Value.string { data:=#[] },Value.int IntKind.i64 0]).cells (length xs - (i+(length xs - j)))).toList.length=(length xs - (i+(length xs - j))) * 3:=by simp [Builtin.zeroCells,Value.cells]
   obtain ⟨hAp2,M2,hM2,hMs2,hMg2⟩:=q0n (o:=off+(i+(length xs - j)) * 3) (vs:=(Builtin.zeroCells (Value.agg #[Value.string { data:=#[] },Value.string { data:=#[] },Value.int IntKind.i64 0]).cells (length xs - (i+(length xs - j)))).toList) hM' (hmu.same hMs).1 (by rw [hzl]; omega) (qjo (by simp [Value.cells,Value.oneCell']) _)
   obtain ⟨φz,hz,hzs⟩:=qhq hx hij hj;have hbz:¬ φz b:=fun h=>hbx (hzs b h)
   have hkeep:∀ b',b'≠b->((w.drew.setCells b (off+i * 3) (cs.drop (j * 3))).setCells b (off+(i+(length xs - j)) * 3) (Builtin.zeroCells (Value.agg #[Value.string { data:=#[] },Value.string { data:=#[] },Value.int IntKind.i64 0]).cells (length xs - (i+(length xs - j)))).toList).heap[b']?=w.heap[b']?:=fun b' h=>(hAp2.heap b' h).trans (hAp.heap b' h)
   have hz':=hz.mono (fz':=fz) (fun b' hb'=>hkeep b' fun e=>hbz (e▸hb')) fun b' hb'=>⟨hb',hkeep b' fun e=>hφ b (hφl b hb1) (e▸hb')⟩
   have ho:=hz'.toSl (c:=c) (off:=off) hM2 ((hmu.same hMs).same hMs2) (by rw [hMs2,hMs]; exact hs) (by rw [hlen]; omega) (fun k hk=>by
    have hk':k < i * 3+(cs.length - j * 3):=by
     have:k < (cs.take (i * 3)++cs.drop (j * 3)).length:=hk;simp only [lA,length_take,length_drop] at this;omega
    rw [<- List.getElem?_eq_getElem hk,hMg2,if_neg (by omega),hMg,length_drop]
    show _=(cs.take (i * 3)++cs.drop (j * 3))[k]?;have hl:(cs.take (i * 3)).length=i * 3:=by rw [length_take]; omega
    by_cases h1:k < i * 3
    ·rw [if_neg (by omega),List.getElem?_append_left (by omega),List.getElem?_take,if_pos h1]
     exact qkc hM hc k (by omega)
    ·rw [if_pos (by omega),List.getElem?_append_right (by omega),hl]
     congr 1; omega) hbz
   have hp:=fin _ _ _ ho (fun b' h=>by
    rcases h with rfl | h
    ·exact hφl _ hb1
    ·exact hφl _ (hsx _ (hzs _ h))) (fun b' _ h=>hkeep b' fun e=>h (e▸hφl b hb1)) (by rw [hAp2.size,hAp.size]; rfl) (hAp2.os.trans hAp.os) (hAp2.tape.trans hAp.tape) (hAp2.output.trans hAp.output)
   rw [hlen] at hp;exact hp
end Go.Den.S
namespace Go.Den
open Go Go.Proofs Go.RowKit Go.Sort
theorem nthI (xs:List Int) {i:Nat} (hi:i < xs.length):nth (.int .i64) xs i=xs[i]:=by
 show getD (α:=Int) xs i 0=_;rw [List.getD_eq_getElem?_getD,List.getElem?_eq_getElem hi]; rfl
theorem nthS (ss:List BA) {i:Nat} (hi:i < ss.length):nth .str ss i=ss[i]:=by
 show getD (α:=BA) ss i eB=_;rw [List.getD_eq_getElem?_getD,List.getElem?_eq_getElem hi]; rfl
theorem qrs {w:World} {fz:Nat->Prop} {b off c:Nat} {M:Array Value} {e:TypeId} {fr:Nat×Nat} {xs:List Int} (hM:w.heap[b]?=some (.cells M e fr)) (hmu:MutR (.int .i64) M fr) (hs:off+c * 1<=M.size) (hl:xs.length<=c)
  (hc:∀ i,(h:i < xs.length)->M[off+i]?=some (Value.int .i64 xs[i])):Ow w fz (.sl (.int .i64)) [.slice (some ⟨b,off,none⟩) xs.length c] xs (fun b'=>b'=b):=by
 refine ⟨_,c,rfl,.inr ⟨b,off,M,e,fr,fun _ _=>False,rfl,hM,hmu,hs,hl,fun i hi=>?_,fun _ _ h=>h,fun _ _ _ _ _ _ h=>h.elim,fun b=>⟨fun h=>.inl h,fun h=>h.elim id fun ⟨_,_,h⟩=>h.elim⟩⟩⟩
 have hi:i < xs.length:=hi;refine ⟨[.int .i64 (nth (.int .i64) xs i)],rfl,⟨M,e,fr,hM,?_,fun j hj=>?_⟩,rfl,fun _ h=>h⟩
 ·show off+i * 1+1<=M.size;omega
 ·have:j=0:=by simpa using hj
  subst this;show M[off+i * 1+0]?=some (Value.int .i64 (nth (.int .i64) xs i));rw [Nat.mul_one,add_zero,hc i hi];exact congrArg (fun z=>some (Value.int .i64 z)) (nthI xs hi).symm
theorem qrt {w:World} {fz:Nat->Prop} {b c:Nat} {M:Array Value} {e:TypeId} {ss:List BA} (hM:w.heap[b]?=some (.cells M e (0,0))) (hs:M.size=c * 1) (hl:ss.length<=c)
  (hc:M.toList.take (ss.length * 1)=ss.map Value.string):Ow w fz (.sl .str) [.slice (some ⟨b,0,none⟩) ss.length c] ss (fun b'=>b'=b):=by
 refine ⟨_,c,rfl,.inr ⟨b,0,M,e,(0,0),fun _ _=>False,rfl,hM,MutR.zero _ _,by show 0+c * 1<=_; omega,hl,fun i hi=>?_,fun _ _ h=>h,fun _ _ _ _ _ _ h=>h.elim,fun b=>⟨fun h=>.inl h,fun h=>h.elim id fun ⟨_,_,h⟩=>h.elim⟩⟩⟩
 have hi:i < ss.length:=hi;refine ⟨[.string (nth .str ss i)],rfl,⟨M,e,(0,0),hM,?_,fun j hj=>?_⟩,rfl,fun _ h=>h⟩
 ·show 0+i * 1+1<=M.size;omega
 ·have:j=0:=by simpa using hj
  subst this;show M[0+i * 1+0]?=some (Value.string (nth .str ss i));have h1:=congrArg (fun l=>l[i]?) hc
  simp only [Nat.mul_one,List.getElem?_take,if_pos hi,List.getElem?_map,List.getElem?_eq_getElem hi,map_some,Array.getElem?_toList] at h1;rw [Nat.zero_add,Nat.mul_one,add_zero,h1];exact congrArg (fun z=>some (Value.string z)) (nthS ss hi).symm
end Go.Den
namespace Go.Den.S
open Go Go.Den Go.Proofs Go.RowKit Go.Sort
set_option maxRecDepth 100000 in
theorem qrG (gl:Nat->Obj->Prop):∀ (x:List Int×Unit) (r:Unit×List Int×Unit),qdA x=some r->q2O Tryz.prog gl ⟨162,[.mut (.sl I)],[]⟩ x r:=by
 intro ⟨xs,u⟩ r h fn w fz φ vals hfn hargs hφ hlt hg;have hfe:fn=Tryz.f162:=Option.some.inj (hfn.symm.trans Tryz.func162);subst hfe;obtain ⟨v1,r1,φ1,φr1,rfl,h1,⟨rfl,hn⟩,tw⟩:=hargs;have hag:q0I Tryz.prog Tryz.f162.params.toList=false:=by kernel_rfl
 have h1:ArgO w fz false (.own (.sl I)) v1 xs φ1:=by rw [<- hag]; exact h1
 obtain ⟨A,n,c,rfl,o1⟩:=qb8 h1;unfold qdA at h;simp only at h;cases hb:decide (xs.length < 4611686018427387904) with
 | false=>rw [hb] at h; cases h
 | true=>
  rw [hb] at h;have hb:=of_decide_eq_true hb;obtain rfl:=Option.some.inj h;have hres:Tryz.f162.resultTypes.toList=[]:=by kernel_rfl
  obtain ⟨A',c',he,hcase⟩:=id o1;simp only [List.cons.injEq,Value.slice.injEq,and_true] at he;obtain ⟨rfl,rfl,rfl⟩:=he;refine .inr ⟨zK (c:=_) Tryz.func162 (by rfl) (by kernel_rfl),?_⟩
  rw [hres];rcases hcase with ⟨rfl,h0,rfl,hnp⟩ | ⟨b,off,M,e,fr,ψ,rfl,hM,hmu,hs,hl,hit,_,_,hφ1⟩
  ·have hx:xs=[]:=List.length_eq_zero_iff.1 h0;subst hx;refine (Tryz.slices_Sort_int_none none 0 w).mono fun e w' ⟨he,hw⟩=>⟨_,he,?_⟩
   subst hw;have hs0:q37 []=[]:=by rw [q94]; simp
   refine ⟨⟨[],fz,fun _=>False,fun _=>False,fun _=>False,rfl,⟨rfl,rfl,fun _ h=>h⟩,⟨_,[],fun _=>False,fun _=>False,rfl,?_,fun _ h=>h,⟨fun _ h=>h.elim,fun b=>⟨False.elim,fun h=>h.elim id id⟩⟩⟩,⟨fun _ h=>h.elim,fun b=>⟨False.elim,fun h=>h.elim id id⟩⟩,fun _ h=>h.elim,fun _ h=>h,fun _ h=>.inl h,fun _ h=>h.elim,hlt,fun _ h=>h.elim⟩,fun _ _ _=>rfl,le_refl _,rfl,rfl,rfl⟩
   show Ow _ fz (.sl (.int .i64)) [.slice none 0 0] (q37 []) _;rw [hs0];exact ⟨none,0,rfl,.inl ⟨rfl,rfl,rfl,fun _ h=>h⟩⟩
  ·have hs:off+c * 1<=M.size:=hs;have hl:length (α:=Int) xs<=c:=hl;have hcell:∀ i,(h:i < xs.length)->M[off+i]?=some (Value.int .i64 xs[i]):=fun i hi=>by
    obtain ⟨vs,k1,⟨c0,e0,fr0,q1,q2,q3⟩,k3,_⟩:=hit i hi;rw [hM] at q1;obtain ⟨rfl,rfl,rfl⟩:M=c0/\e=e0/\fr=fr0:=by simpa using q1
    subst k3;have:=q3 0 (by simp)
    have this:M[off+i * 1+0]?=some (Value.int .i64 (nth (.int .i64) xs i)):=this;rw [Nat.mul_one,add_zero] at this;rw [this];exact congrArg (fun z=>some (Value.int .i64 z)) (nthI xs hi)
   have hbl:b < w.heap.size:=(Array.getElem?_eq_some_iff.1 hM).1;have hH:Holds (Value.int .i64) w b off xs.toArray:=fun j hj=>by
    have hj:j < xs.length:=by simpa using hj
    constructor
    ·show w.cell? ⟨b,off+j,none⟩=_;unfold World.cell?;simp only [hM];rw [hcell j hj];simp [hj]
    ·exact q3I hM (hmu.1 _ (by omega))
   refine (Tryz.slices_Sort_int b off c xs w hH hbl hb).mono fun e' w' ⟨he,k,os,hw⟩=>⟨_,he,?_⟩
   have hsort:(xs.mergeSort fun x y=>decide (x<=y))=q37 xs:=(q94 xs).symm
   rw [hsort] at hw;have hslen:(q37 xs).length=xs.length:=by rw [q94,List.length_mergeSort]
   obtain ⟨M',hM'⟩:∃ M',M'=putCells (Value.int .i64) off (q37 xs).toArray M:=⟨_,rfl⟩
   have hsz:M'.size=M.size:=by rw [hM']; simp [putCells]
   have hheap:w'.heap[b]?=some (.cells M' e fr):=by
    rw [hw,heap_grow_old _ _ (by simpa using hbl)]
    show ((Sort.ahead w k).heap.modify b (onCells (putCells (Value.int .i64) off (q37 xs).toArray)))[b]?=_;rw [Array.getElem?_modify,if_pos rfl];show Option.map _ (w.heap[b]?)=_;rw [hM,hM']; rfl
   have hkeep:∀ b',b' < w.heap.size->b'≠b->w'.heap[b']?=w.heap[b']?:=fun b' hb' hne=>by
    rw [hw,heap_grow_old _ _ (by simpa using hb')]
    show ((Sort.ahead w k).heap.modify b _)[b']?=_;rw [Array.getElem?_modify,if_neg (fun e=>hne e.symm)]; rfl
   have hsize:w.heap.size<=w'.heap.size:=by
    rw [hw];simp [grow,putRow,mapBlock,Sort.ahead]
   have hcell':∀ i,(h:i < (q37 xs).length)->M'[off+i]?=some (Value.int .i64 (q37 xs)[i]):=fun i hi=>by
    rw [hM'];unfold putCells;have hlt:off+i < M.size:=by omega
    rw [Array.getElem?_mapIdx,Array.getElem?_eq_getElem hlt];simp only [map_some,List.size_toArray];rw [if_pos ⟨by omega,by omega⟩,Nat.add_sub_cancel_left]
    simp [hi]
   have ho:Ow w' fz (.sl (.int .i64)) [.slice (some ⟨b,off,none⟩) (q37 xs).length c] (q37 xs) (fun b'=>b'=b):=qrs hheap (hmu.same hsz) (by rw [hsz]; exact hs) (by rw [hslen]; exact hl) hcell'
   rw [hslen] at ho;have hφb:φ b:=(tw.2 b).2 (.inl ((hφ1 b).2 (.inl rfl)));refine ⟨⟨[],fz,fun _=>False,fun b'=>b'=b,fun b'=>b'=b,rfl,⟨rfl,rfl,fun _ h=>h⟩,⟨_,[],fun b'=>b'=b,fun _=>False,rfl,ho,fun _ h=>h,⟨fun _ _ h=>h,fun b=>⟨.inl,fun h=>h.elim id False.elim⟩⟩⟩,⟨fun _ h=>h.elim,fun b=>⟨.inr,fun h=>h.elim False.elim id⟩⟩,fun b' h=>.inl (by rw [h]; exact hφb),fun _ h=>h,fun _ h=>.inl h,fun b' h=>by rw [h]; exact hφ b hφb,fun b' h=>Nat.lt_of_lt_of_le (hlt b' h) hsize,fun b' h=>by rw [h]; exact Nat.lt_of_lt_of_le hbl hsize⟩,fun b' h1 h2=>hkeep b' h1 fun e=>h2 (by rw [e]; exact hφb),hsize,by rw [hw]; rfl,by rw [hw]; rfl,by rw [hw]; rfl⟩
abbrev anyR:Value->Option (DataW Unit×List MemPlace):=fun _=>some (.nil,[])
def strV:Value->List UInt8
 | .string s=>s.data.toList
 | _=>[]
theorem qrj {s:BA} (hs:s.size<=9223372036854775807):keyOf Tryz.prog 9 (.string s)=some (.string s.data.toList):=by
 have hs:s.size<=maxLen:=hs;simp [keyOf,Tryz.underlying9,mapKey,hs]
theorem qoV (b:Nat) (w:World):q2P Tryz.prog 196 #[.map (some b)] w fun val w'=>val=.func (.func 251) #[] #[.pointer (some ⟨w.heap.size,0,none⟩)]/\∃ e,w'=w.alloc (.cells #[.map (some b)] e):=
 .inr ⟨zK (c:=_) Tryz.func196 (by rfl) (by kernel_rfl),(callsIn_wide.1 (Tryz.maps_Keys_196 (some b) w)).mono fun e w' ⟨he,hw⟩=>⟨_,he,rfl,_,hw⟩⟩
theorem qlT (w:World) (bk b:Nat) (ents:Array MapEntry) (clock:Nat) (ss:List BA) (hcell:w.cell? ⟨bk,0,none⟩=some (.map (some b))) (hheap:w.heap[b]?=some (.map ents clock)) (hst:MapKept.Stamped ents clock)
  (hkeys:ents.toList.map (·.key)=ss.map Value.string) (hlim:ss.length * 16<=140737488355328) (hsz:∀ s∈ss,s.size<=9223372036854775807) :
  q2P Tryz.prog 195 #[.func (.func 251) #[] #[.pointer (some ⟨bk,0,none⟩)]] w fun val w'=>(∃ φ,Ow w' (fun _=>False) (.sl .str) [val] (zQ ss) φ/\∀ b,φ b->w.heap.size<=b) /\
   (∀ b,b < w.heap.size->w'.heap[b]?=w.heap[b]?)/\w.heap.size<=w'.heap.size/\w'.os=w.os/\w'.tape=w.tape/\w'.output=w.output:=by
 have hlen:ents.size=ss.length:=by
  have:=congrArg length hkeys;simpa using this
 have hent:∀ x∈ents.toList,∃ s∈ss,x.key=.string s:=fun x hx=>by
  have:x.key∈ss.map Value.string:=by rw [<- hkeys]; exact List.mem_map.2 ⟨x,hx,rfl⟩
  obtain ⟨s,hs,e⟩:=List.mem_map.1 this;exact ⟨s,hs,e.symm⟩
 have hrd:∀ x∈ents.toList,∀ s,s∈ss->x.key=.string s->Go.WideElems.rd Tryz.prog 9 anyR x=some (.string s.data.toList,.nil):=fun x hx s hs e=>by
  unfold Go.WideElems.rd;rw [e,qrj (hsz s hs)]; rfl
 obtain ⟨D0,hD0⟩:∃ D0:DataW Unit,D0=.map ((ents.toList.map (Go.WideElems.rg Tryz.prog 9 anyR)).foldr DataW.insert []):=⟨_,rfl⟩
 have hown:w.ownsMap Tryz.prog 9 anyR b ents.size D0:=⟨ents,clock,hheap,⟨by
  have:ents.size<=9223372036854775807:=by omega
  exact this,hst,fun x hx=>by
  obtain ⟨s,hs,e⟩:=hent x hx;exact ⟨_,hrd x hx s hs e⟩⟩,le_refl _,hD0⟩
 have hbk:bk < w.heap.size:=by
  unfold World.cell? at hcell;cases hb:w.heap[bk]? with
  | none=>simp [hb] at hcell
  | some o=>exact (Array.getElem?_eq_some_iff.1 hb).1
 have hkp:(strKeys D0).Perm (ss.map fun s=>s.data.toList):=by
  rw [hD0];show ((_:List (Lit×DataW Unit)).map fun p=>strOf p.1).Perm _
  refine (((Go.WideShapes.sorted_perm _).map _).trans (List.Perm.of_eq (map_map ..))).trans ?_;have e2:(ss.map fun s=>s.data.toList)=(ss.map Value.string).map strV:=by
   rw [map_map]; rfl
  rw [e2,<- hkeys,map_map];refine List.Perm.of_eq (List.map_congr_left fun x hx=>?_)
  obtain ⟨s,hs,e⟩:=hent x hx;have e3:Go.WideElems.rg Tryz.prog 9 anyR x=(.string s.data.toList,.nil):=by
   unfold Go.WideElems.rg;rw [hrd x hx s hs e]; rfl
  simp only [Function.comp_apply,e3,e]; rfl
 have hdl:Maps.size D0=ss.length:=by
  have h1:Maps.size D0=(strKeys D0).length:=by
   rw [hD0];show _=((_:List (Lit×DataW Unit)).map fun p=>strOf p.1).length
   rw [List.length_map]; rfl
  rw [h1,hkp.length_eq,List.length_map]
 have hseq:SeqGives Fence.wide 2 Tryz.prog 251 #[.pointer (some ⟨bk,0,none⟩)] encStr (fun l=>l.Perm (strKeys D0)) (Maps.size D0) w:=
  AnyZ.keys_gives (ρ:=Tryz.keys196_ren) { Tryz.keys196 with } Fence.wide _ trivial rfl (by omega) bk b ents.size D0 w hbk hcell hown
 have hmax:Maps.size D0<=maxLen:=by
  have:Maps.size D0<=9223372036854775807:=by omega
  exact this
 have hcall:=AnyZ.sorted_in Tryz.sorted195 Fence.wide 5 trivial trivial trivial trivial rfl (by omega) (Tryz.sorts195 _) (enters_of Tryz.func250 (by kernel_rfl) rfl) 251 #[.pointer (some ⟨bk,0,none⟩)] trivial (enters_of Tryz.func251 (by kernel_rfl) rfl) _ _ hmax (by omega) w hseq
 refine .inr ⟨zK (c:=_) Tryz.func195 (by rfl) (by kernel_rfl),(callsIn_wide.1 hcall).mono fun e w' ⟨v,l,he,hp,hrow,hnil,hB⟩=>⟨v,he,?_⟩⟩
 have hsort:(l.mergeSort fun x y=>decide (x<=y))=((ss.map fun s=>s.data.toList).mergeSort fun x y=>decide (x<=y)):=mergeSort_of_perm (hp.trans hkp)
 have hsb:(zQ ss).map Value.string=(l.mergeSort fun x y=>decide (x<=y)).map encStr:=by
  rw [qbS,map_map,hsort]; rfl
 have hll:(zQ ss).length=l.length:=by
  have:=congrArg length hsb;simpa using this
 refine ⟨?_,fun b hb=>hB.block b hb,hB.size,hB.os,hB.tape,hB.output⟩
 obtain ⟨hr1,hr2⟩:=hrow;rcases hr2 with ⟨rfl,hz⟩ | ⟨g,cap,cur,rfl,hbase,hg,r1,r2,r3,r4⟩
 ·have h0:(zQ ss).length=0:=by omega
  refine ⟨fun _=>False,⟨none,0,?_,.inl ⟨rfl,h0,rfl,fun _ h=>h⟩⟩,fun _ h=>h.elim⟩
  exact congrArg (fun n=>[Value.slice none n 0]) h0.symm
 ·have ho:=qrt (fz:=fun _=>False) (ss:=zQ ss) (c:=cap) hg r3 (by omega) (by rw [hll,hsb]; exact r4)
  rw [hll] at ho;exact ⟨_,ho,fun b h=>by rw [h]; exact hbase⟩
theorem qsc:qjP Tryz.prog 196 195 251:=⟨fun _=>qoV,fun _=>qlT⟩
set_option maxRecDepth 100000 in
theorem qsd:qbg Tryz.prog V:=by
 have e1:(V 1999999001).fn=196:=by kernel_rfl
 have e2:(V 1999999002).fn=195:=by kernel_rfl
 have e3:(V 1999999003).fn=251:=by kernel_rfl
 unfold qbg;rw [e1,e2,e3];exact qsc
end Go.Den.S
