/- ExtF: equations of the functions of this seat as the executor tells them, or plain facts about them. Conditions: none here. -/
import Derived.Test.YtbgaejnkjmjkhaaGreatDoorExtE
set_option linter.all false
namespace Go.Den
open Go Go.Proofs Go.RowKit
theorem qlW {w:World} {fz:Nat->Prop} {e:TypeId} (xs:List BA):Ow (w.alloc (.cells (xs.map Value.string).toArray e)) fz (.sl .str) [.slice (some ⟨w.heap.size,0,none⟩) xs.length xs.length] xs (fun b=>b=w.heap.size):=by
 have hb:(w.alloc (.cells (xs.map Value.string).toArray e)).heap[w.heap.size]?=some (.cells (xs.map Value.string).toArray e (0,0)):=by
  show (w.heap.push _)[w.heap.size]?=_
  simp
 refine ⟨_,xs.length,rfl,.inr ⟨w.heap.size,0,(xs.map Value.string).toArray,e,(0,0),fun _ _=>False,rfl,hb,MutR.zero _ _,?_,Nat.le_refl _,fun i hi=>?_,fun _ _ h=>h,fun _ _ _ _ _ _ h=>h.elim,fun b=>⟨fun h=>.inl h,fun h=>h.elim id fun ⟨_,_,h⟩=>h.elim⟩⟩⟩
 ·show 0+xs.length * 1<=_
  simp
 ·refine ⟨[.string (nth .str xs i)],rfl,⟨_,e,(0,0),hb,?_,fun j hj=>?_⟩,rfl,fun _ h=>h⟩
  ·have hi:i < xs.length:=hi
   show 0+i * 1+1<=(xs.map Value.string).toArray.size
   simp; omega
  ·have:j=0:=by simpa using hj
   subst this
   show (xs.map Value.string).toArray[0+i * 1+0]?=some (Value.string (nth .str xs i))
   have hi:i < xs.length:=hi
   simp only [Nat.zero_add,Nat.mul_one,Nat.add_zero,List.getElem?_toArray,List.getElem?_map,List.getElem?_eq_getElem hi,Option.map_some]
   show some (Value.string xs[i])=some (Value.string (xs.getD i eB))
   rw [List.getD_eq_getElem?_getD,List.getElem?_eq_getElem hi]; rfl
open Go.Den.S in
theorem qhn {P:Program} {gl:Nat->Obj->Prop} {fid:FuncId} {fnc:Func} {c0:Code} {st it:TypeId} {t:Ty} {by_:Nat} {Z:Array Value} {et:TypeId} (R:qa6 P fid t.nc by_ Z et) (hZ:Z.size=t.nc) (hk:0 < t.nc) (hu8:t.beq (.int .u8)=false) (hby:1<=by_)
  (hfn:P.funcs[fid]?=some fnc) (hbody:fnc.body=some c0) (hname:(fnc.name == "runtime.NumGoroutine")=false) (hpar:fnc.params.toList=[st,it,st]) (hres:fnc.resultTypes.toList=[st]) (hst:aggB P st=false) (hit:aggB P it=false) :
  ∀ (x:List t.D×Int×List t.D×Unit) (r:List t.D×Unit),insF by_ x=some r->q3n P gl ⟨fid,[.own (.sl t),.val (.int .i64),.own (.sl t)],[.own (.sl t)]⟩ x r:=by
 intro ⟨xs,i,ys,u⟩ r h fn w fz φ vals hfn' hargs hφ hlt hg
 have hfe:fn=fnc:=Option.some.inj (hfn'.symm.trans hfn)
 subst hfe
 rw [hpar] at hargs
 obtain ⟨v1,r1,φ1,φr1,rfl,h1,⟨v2,r2,φ2,φr2,rfl,h2,⟨v3,r3,φ3,φr3,rfl,h3,⟨rfl,hn3⟩,tw3⟩,tw2⟩,tw1⟩:=hargs
 have h1:ArgO w fz false (.own (.sl t)) v1 xs φ1:=by rw [<- hst]; exact h1
 have h2:ArgO w fz false (.val (.int .i64)) v2 i φ2:=by rw [<- hit]; exact h2
 have h3:ArgO w fz false (.own (.sl t)) v3 ys φ3:=by rw [<- hst]; exact h3
 obtain ⟨A,n,c,rfl,o1⟩:=qeR h1
 obtain rfl:=qbB h2
 obtain ⟨A3,m,c3,rfl,o3⟩:=qeR h3
 have hn2:Nil φ2:=h2.2.2
 unfold insF at h
 simp only at h
 cases hb:(decide (0<=i)&&decide (i<=(xs.length:Int))&&decide (0 < ys.length)&&lim (xs.length+ys.length) by_) with
 | false=>rw [hb] at h; cases h
 | true=>
  rw [hb] at h
  simp only [Bool.and_eq_true,decide_eq_true_eq,qaS] at hb
  obtain ⟨⟨⟨hi0,hi⟩,hm⟩,hbig⟩:=hb
  obtain rfl:=Option.some.inj h
  obtain ⟨rfl,cs,φx,hx,hsx,hax⟩:=o1.toE
  obtain ⟨rfl,vs,φy,hy,hsy,hay⟩:=o3.toE
  have hd13:∀ b,φ1 b->¬ φ3 b:=fun b hb hb'=>tw1.1 b hb ((tw2.2 b).2 (.inr ((tw3.2 b).2 (.inl hb'))))
  have hφ':∀ b,φ1 b\/φ3 b->φ b:=fun b hb=>(tw1.2 b).2 (hb.imp id fun h=>(tw2.2 b).2 (.inr ((tw3.2 b).2 (.inl h))))
  have hφl:∀ b,φ b->b < w.heap.size:=fun b hb=>by
   rcases (tw1.2 b).1 hb with h | h
   ·exact o1.lt b h
   ·rcases (tw2.2 b).1 h with h | h
    ·exact absurd h (hn2 b)
    ·rcases (tw3.2 b).1 h with h | h
     ·exact o3.lt b h
     ·exact absurd h (hn3 b)
  rcases hay with ⟨_,_,h0,_⟩ | ⟨vb,voff,Mv,ev,frv,rfl,hvb3,_,hv,hvm,hvs,hmc,hvc⟩
  ·exact absurd hm (by omega)
  have hbody':=q1c (c:=c0) (args:=#[.slice A (List.length xs) c,.int .i64 i,.slice (some ⟨vb,voff,none⟩) (List.length ys) c3]) (w:=w) hfn hbody hname
  refine .inr ⟨hbody',?_⟩
  show Calls P fid #[.slice A (List.length xs) c,.int .i64 i,.slice (some ⟨vb,voff,none⟩) (List.length ys) c3] w _
  rcases hax with ⟨rfl,rfl,h0,rfl⟩ | ⟨b,off,M,e,fr,rfl,hb1,hbx,hM,hmu,hs,hnc,hc⟩
  ·refine (qgN R hZ hk hu8 hby (w:=w) (A:=none) (b:=0) (off:=0) (M:=#[]) (e:=0) (fr:=(0,0)) hi0 hi hm hbig hx.1 hy.1 hx.ones hy.ones (.inl ⟨rfl,rfl,h0,rfl⟩) hv hvm hvs hmc hvc).mono fun e w' ⟨val,he,hl⟩=>⟨val,he,?_⟩
   rw [hres]
   exact qgL hst hx hy hi0 hi hsx hsy hd13 hφ' hφl hφ hlt (fun h=>absurd rfl h) hl
  ·refine (qgN R hZ hk hu8 hby (w:=w) hi0 hi hm hbig hx.1 hy.1 hx.ones hy.ones (.inr ⟨rfl,hM,hmu,hs,hnc,hc,fun e=>hd13 b hb1 (by rw [<- e]; exact hvb3)⟩) hv hvm hvs hmc hvc).mono fun e w' ⟨val,he,hl⟩=>⟨val,he,?_⟩
   rw [hres]
   exact qgL hst hx hy hi0 hi hsx hsy hd13 hφ' hφl hφ hlt (fun _=>⟨hb1,hbx⟩) hl
end Go.Den
namespace Go.Den.S
open Go Go.Den Go.Proofs Go.RowKit
abbrev q71:Ty:=.pr .str (.pr I (.pr I (.pr .str (.ls .str))))
def qnn:Value:=Value.agg #[Value.string { data:=#[] },Value.int IntKind.i64 0,Value.int IntKind.i64 0,Value.string { data:=#[] },Value.slice none 0 0]
theorem qjo:qa6 Tryz.prog 154 q71.nc 72 qnn.cells 55:=⟨qjl,qgh,qgb,qlj⟩
theorem qjI:qa6 Tryz.prog 131 Ty.str.nc 16 (Value.string { data:=#[] }).cells 9:=by
 refine ⟨?_,?_,?_,?_⟩<;>simp only [Ty.nc,Nat.mul_one]
 ·exact qjy
 ·exact qgn
 ·exact qgk
 ·exact qkJ
set_option maxRecDepth 100000 in
theorem qmr (gl:Nat->Obj->Prop):∀ (x:List q71.D×Int×List q71.D×Unit) (r:List q71.D×Unit),insF 72 x=some r->q3n Tryz.prog gl ⟨154,[.own (.sl q71),.val I,.own (.sl q71)],[.own (.sl q71)]⟩ x r:=
 qhn (c0:=_) (st:=26) (it:=3) qjo (by decide) (by decide) rfl (by decide) Tryz.func154 (by rfl) (by kernel_rfl) (by kernel_rfl) (by kernel_rfl) (by kernel_rfl) (by kernel_rfl)
set_option maxRecDepth 100000 in
theorem qmz (gl:Nat->Obj->Prop):∀ (x:List BA×Int×List BA×Unit) (r:List BA×Unit),insF 16 x=some r->q3n Tryz.prog gl ⟨131,[.own (.sl .str),.val I,.own (.sl .str)],[.own (.sl .str)]⟩ x r:=
 qhn (t:=.str) (c0:=_) (st:=28) (it:=3) qjI (by decide) (by decide) rfl (by decide) Tryz.func131 (by rfl) (by kernel_rfl) (by kernel_rfl) (by kernel_rfl) (by kernel_rfl) (by kernel_rfl)
theorem qdE {w:World} {fz:Nat->Prop} {t:Ty} {cs:List Value} {xs:List t.D} {φx:Nat->Prop} (hx:OwE w fz t cs xs φx) {i j:Nat} (hij:i<=j) (hj:j<=List.length xs) :
  ∃ φz:Nat->Prop,OwE w fz t (cs.take (i * t.nc)++cs.drop (j * t.nc)) (xs.take i++xs.drop j) φz/\∀ b,φz b->φx b:=by
 obtain ⟨ψ,hp,hdj,hφ⟩:=hx.parts
 have hl:=hx.1
 have h1:=hp 0 i (Nat.zero_le _) (by omega)
 have h2:=hp j (List.length xs) hj (Nat.le_refl _)
 have e1:(cs.drop (0 * t.nc)).take ((i - 0) * t.nc)=cs.take (i * t.nc):=by simp
 have e2:(xs.drop 0).take (i - 0)=xs.take i:=by simp
 have e3:(cs.drop (j * t.nc)).take ((List.length xs - j) * t.nc)=cs.drop (j * t.nc):=by
  apply List.take_of_length_le
  rw [List.length_drop,hl,Nat.sub_mul]
  exact Nat.le_refl _
 have e4:(xs.drop j).take (List.length xs - j)=xs.drop j:=by
  apply List.take_of_length_le
  rw [List.length_drop]
  exact Nat.le_refl _
 rw [e1,e2] at h1
 rw [e3,e4] at h2
 refine ⟨_,h1.append h2 fun b ⟨k,k1,k2,k3⟩ ⟨k',l1,l2,l3⟩=>hdj k k' b (by omega) l2 (by omega) k3 l3,fun b hb=>?_⟩
 rcases hb with ⟨k,k1,k2,k3⟩ | ⟨k,k1,k2,k3⟩
 ·exact (hφ b).2 ⟨k,by omega,k3⟩
 ·exact (hφ b).2 ⟨k,k2,k3⟩
set_option maxRecDepth 100000 in
theorem qmA (gl:Nat->Obj->Prop):∀ (x:List Ty.str.D×Int×Int×Unit) (r:List Ty.str.D×Unit),delF 16 x=some r->q3n Tryz.prog gl ⟨132,[.own (.sl .str),.val I,.val I],[.own (.sl .str)]⟩ x r:=by
 intro ⟨xs,i,j,u⟩ r h fn w fz φ vals hfn' hargs hφ hlt hg
 have hfe:fn=Tryz.f132:=Option.some.inj (hfn'.symm.trans Tryz.func132)
 subst hfe
 rw [show Tryz.f132.params.toList=[28,3,3] by kernel_rfl] at hargs
 have hst:aggB Tryz.prog 28=false:=by kernel_rfl
 have hit:aggB Tryz.prog 3=false:=by kernel_rfl
 have hres:Tryz.f132.resultTypes.toList=[28]:=by kernel_rfl
 obtain ⟨v1,r1,φ1,φr1,rfl,h1,⟨v2,r2,φ2,φr2,rfl,h2,⟨v3,r3,φ3,φr3,rfl,h3,⟨rfl,hn3⟩,tw3⟩,tw2⟩,tw1⟩:=hargs
 have h1:ArgO w fz false (.own (.sl .str)) v1 xs φ1:=by rw [<- hst]; exact h1
 have h2:ArgO w fz false (.val (.int .i64)) v2 i φ2:=by rw [<- hit]; exact h2
 have h3:ArgO w fz false (.val (.int .i64)) v3 j φ3:=by rw [<- hit]; exact h3
 obtain ⟨A,n,c,rfl,o1⟩:=qeR h1
 obtain rfl:=qbB h2
 obtain rfl:=qbB h3
 unfold delF at h
 simp only at h
 cases hb:(decide (0<=i)&&decide (i<=j)&&decide (j<=(xs.length:Int))&&lim xs.length 16) with
 | false=>rw [hb] at h; cases h
 | true=>
  rw [hb] at h
  simp only [Bool.and_eq_true,decide_eq_true_eq,qaS] at hb
  obtain ⟨⟨⟨hi0,hij⟩,hj⟩,hbig⟩:=hb
  obtain rfl:=Option.some.inj h
  obtain ⟨i,rfl⟩:∃ k:Nat,i=(k:Int):=⟨i.toNat,by omega⟩
  obtain ⟨j,rfl⟩:∃ k:Nat,j=(k:Int):=⟨j.toNat,by omega⟩
  have hij:i<=j:=by omega
  have hj:j<=List.length xs:=by omega
  simp only [Int.toNat_natCast]
  have hφl:∀ b,φ1 b->φ b:=fun b hb=>(tw1.2 b).2 (.inl hb)
  obtain ⟨rfl,cs,φx,hx,hsx,hax⟩:=o1.toE
  have hbody':=q1c (c:=_) (args:=#[.slice A (List.length xs) c,.int .i64 (i:Int),.int .i64 (j:Int)]) (w:=w) Tryz.func132 (by rfl) (by kernel_rfl)
  refine .inr ⟨hbody',?_⟩
  show Calls Tryz.prog 132 #[.slice A (List.length xs) c,.int .i64 (i:Int),.int .i64 (j:Int)] w _
  have fin:∀ (w':World) (A':Option Addr) (φ':Nat->Prop),Ow w' fz (.sl .str) [.slice A' (List.length (xs.take i++xs.drop j)) c] (xs.take i++xs.drop j) φ'->(∀ b,φ' b->φ b)->(∀ b,b < w.heap.size->¬ φ b->w'.heap[b]?=w.heap[b]?)->w'.heap.size=w.heap.size->w'.os=w.os->w'.tape=w.tape->w'.output=w.output->
    Post Tryz.prog ⟨132,[.own (.sl .str),.val I,.val I],[.own (.sl .str)]⟩ [28] w fz φ [.slice A (List.length xs) c,.int .i64 (i:Int),.int .i64 (j:Int)] (xs.take i++xs.drop j,()) (.slice A' (List.length (xs.take i++xs.drop j)) c) w':=fun w' A' φ' ho hs hk hz h5 h6 h7=>by
   refine ⟨⟨[_],fz,φ',fun _=>False,φ',rfl,⟨28,_,rfl,rfl,⟨by rw [hst]; rfl,fun cc hc=>?_⟩,ho⟩,fun _ h=>h,⟨fun _ _ h=>h,fun b=>⟨.inl,fun h=>h.elim id False.elim⟩⟩,fun b hb=>.inl (hs b hb),fun b hb=>hb,fun b hb=>.inl hb,fun b hb=>hφ b (hs b hb),fun b hb=>by rw [hz]; exact hlt b hb,fun b hb=>ho.lt b hb⟩,fun b hb hnb=>hk b hb hnb,Nat.le_of_eq hz.symm,h5,h6,h7⟩
   have hc:cc∈[Value.slice A' (List.length (xs.take i++xs.drop j)) c]:=hc
   simp only [List.mem_singleton] at hc
   subst hc; rfl
  rw [hres]
  have hlen:List.length (xs.take i++xs.drop j)=i+(List.length xs - j):=by
   rw [List.length_append,List.length_take,List.length_drop]; omega
  by_cases he:i=j
  ·subst he
   have hsame:xs.take i++xs.drop i=xs:=List.take_append_drop i xs
   refine (qhh A (List.length xs) c i w (by
    rcases hax with ⟨_,_,h0,hc⟩ | ⟨_,_,_,_,_,_,_,_,_,_,_,h,_⟩
    ·omega
    ·exact h) hj (by omega) (fun hA=>by
    rcases hax with ⟨_,_,h0,hc⟩ | ⟨_,_,_,_,_,h,_⟩
    ·exact ⟨h0,hc⟩
    ·rw [hA] at h; cases h)).mono fun e w' ⟨he,hw⟩=>⟨_,he,?_⟩
   subst hw
   have:=fin w' A φ1 (by rw [hsame]; exact o1) hφl (fun _ _ _=>rfl) rfl rfl rfl rfl
   rw [hsame] at this ⊢
   exact this
  ·have hlt':i < j:=by omega
   rcases hax with ⟨_,_,h0,_⟩ | ⟨b,off,M,e,fr,rfl,hb1,hbx,hM,hmu,hs,hnc,hc⟩
   ·omega
   have hcl:cs.length=List.length xs:=by rw [hx.1]; exact Nat.mul_one _
   have hs:off+c<=M.size:=by simpa [Ty.nc] using hs
   refine (qhg b off (List.length xs) c i j cs w hnc hlt' hj (by omega) hcl (cell_of hc) (fun k hk=>q81 hM (hmu.1 _ (by omega))) hx.ones).mono fun e w' ⟨he,hw⟩=>⟨_,he,?_⟩
   subst hw
   have hM':w.drew.heap[b]?=some (.cells M _ fr):=hM
   obtain ⟨hAp,M',hM',hMs,hMg⟩:=q1D (o:=off+i) (vs:=cs.drop j) hM' hmu.1 (by rw [List.length_drop]; omega) (fun v hv=>hx.ones v (List.mem_of_mem_drop hv))
   obtain ⟨hAp2,M2,hM2,hMs2,hMg2⟩:=q1D (o:=off+(i+(List.length xs - j))) (vs:=List.replicate (List.length xs - (i+(List.length xs - j))) (Value.string { data:=#[] })) hM' (hmu.same hMs).1 (by rw [List.length_replicate]; omega) (fun v hv=>by rw [List.eq_of_mem_replicate hv]; rfl)
   obtain ⟨φz,hz,hzs⟩:=qdE hx hij hj
   have hbz:¬ φz b:=fun h=>hbx (hzs b h)
   have hkeep:∀ b',b'≠b->((w.drew.setCells b (off+i) (cs.drop j)).setCells b (off+(i+(List.length xs - j))) (List.replicate (List.length xs - (i+(List.length xs - j))) (Value.string { data:=#[] }))).heap[b']?=w.heap[b']?:=fun b' h=>(hAp2.heap b' h).trans (hAp.heap b' h)
   have hz':=hz.mono (fz':=fz) (fun b' hb'=>hkeep b' fun e=>hbz (e▸hb')) fun b' hb'=>⟨hb',hkeep b' fun e=>hφ b (hφl b hb1) (e▸hb')⟩
   have ho:=hz'.toSl (c:=c) (off:=off) hM2 ((hmu.same hMs).same hMs2) (by rw [hMs2,hMs]; simpa [Ty.nc] using hs) (by rw [hlen]; omega) (fun k hk=>by
    have hk':k < i+(cs.length - j):=by
     have:k < (cs.take (i * 1)++cs.drop (j * 1)).length:=hk
     simp only [Nat.mul_one,List.length_append,List.length_take,List.length_drop] at this
     omega
    rw [<- List.getElem?_eq_getElem hk,hMg2,if_neg (by omega),hMg,List.length_drop]
    show _=(cs.take (i * 1)++cs.drop (j * 1))[k]?
    simp only [Nat.mul_one]
    have hl:(cs.take i).length=i:=by rw [List.length_take]; omega
    by_cases h1:k < i
    ·rw [if_neg (by omega),List.getElem?_append_left (by omega),List.getElem?_take,if_pos h1]
     exact qhw hM hc k (by omega)
    ·rw [if_pos (by omega),List.getElem?_append_right (by omega),hl]
     congr 1; omega) hbz
   have hp:=fin _ _ _ ho (fun b' h=>by
    rcases h with rfl | h
    ·exact hφl _ hb1
    ·exact hφl _ (hsx _ (hzs _ h))) (fun b' _ h=>hkeep b' fun e=>h (e▸hφl b hb1)) (by rw [hAp2.size,hAp.size]; rfl) (hAp2.os.trans hAp.os) (hAp2.tape.trans hAp.tape) (hAp2.output.trans hAp.output)
   rw [hlen] at hp
   exact hp
set_option maxRecDepth 100000 in
theorem qkF (gl:Nat->Obj->Prop) (hgl:∀ w:World,(∀ b o,gl b o->w.heap[b]?=some o)->Lib.TabIs Tryz.prog w "strings.asciiSpace" .u8 Lib.asciiSpaceTab):∀ (x:BA×Unit) (r:List BA×Unit),q4s x=some r->q3n Tryz.prog gl ⟨112,[.val .str],[.own (.sl .str)]⟩ x r:=by
 intro ⟨s,u⟩ r h fn w fz φ vals hfn hargs hφ hlt hg
 have hfe:fn=Tryz.f112:=Option.some.inj (hfn.symm.trans Tryz.func112)
 subst hfe
 obtain ⟨v,rest,φ1,φ2,rfl,⟨hsh,hrd,hn⟩,⟨rfl,hn2⟩,htwo⟩:=hargs
 have hv:v=.string s:=by
  have hag:q2L Tryz.prog Tryz.f112.params.toList=false:=by kernel_rfl
  have h4:=hsh.1
  rw [hag] at h4
  simp only [Bool.false_eq_true,if_false] at h4
  have h5:v.cells.toList=[.string s]:=hrd
  rw [cells_one h4] at h5
  simpa using h5
 subst hv
 unfold q4s at h
 cases hb:(s.data.toList.all (fun b=>decide (b.toNat < 128))&&decide (s.size < 4294967281)) with
 | false=>rw [hb] at h; cases h
 | true=>
  rw [hb] at h
  simp only [Bool.and_eq_true,decide_eq_true_eq] at hb
  obtain rfl:((Lib.fields s.data.toList).map (fun l=>(⟨l.toArray⟩:BA)),())=r:=Option.some.inj h
  have hascii:∀ (j:Nat) b,s.data.toList[j]?=some b->b.toNat < 128:=fun j b hj=>by
   have:=List.all_eq_true.1 hb.1 b (List.mem_of_getElem? hj)
   simpa using this
  refine .inr ⟨q1c (c:=_) Tryz.func112 (by rfl) (by kernel_rfl),(Tryz.strings_Fields s w hb.2 hascii (hgl w fun b o hbo=>(hg b o hbo).1)).mono fun e w' ⟨he,hw⟩=>⟨_,he,?_⟩⟩
  subst hw
  have hφ0:∀ b,¬ φ b:=fun b hbφ=>((htwo.2 b).1 hbφ).elim (hn b) (hn2 b)
  let xs:List BA:=(Lib.fields s.data.toList).map fun l=>⟨l.toArray⟩
  have hxs:((Lib.fields s.data.toList).map fun l=>Value.string ⟨l.toArray⟩)=xs.map Value.string:=by simp [xs,Function.comp_def]
  have hlen:(Lib.fields s.data.toList).length=xs.length:=by simp [xs]
  rw [hxs,hlen]
  have hres:Tryz.f112.resultTypes.toList=[28]:=by kernel_rfl
  have hag:aggB Tryz.prog 28=false:=by kernel_rfl
  have how:=qlW (w:=w) (fz:=fz) (e:=9) xs
  refine ⟨⟨[_],fz,fun b=>b=w.heap.size,fun _=>False,fun b=>b=w.heap.size,rfl,⟨28,_,hres,rfl,⟨?_,fun c hc=>?_⟩,how⟩,fun _ h=>h,⟨fun _ _ h=>h,fun b=>⟨fun h=>.inl h,fun h=>h.elim id False.elim⟩⟩,fun b hb=>.inr (by omega),fun b hb=>hb,fun b hb=>.inl hb,fun b hb hf=>?_,fun b hb=>?_,fun b hb=>?_⟩,fun b hb _=>?_,?_,rfl,rfl,rfl⟩
  ·rw [hag]; rfl
  ·have hc:c∈[Value.slice (some ⟨w.heap.size,0,none⟩) xs.length xs.length]:=hc
   simp only [List.mem_singleton] at hc
   subst hc; rfl
  ·have:=hlt b hf; omega
  ·have:=hlt b hb
   show b < (w.heap.push _).size
   simp; omega
  ·show b < (w.heap.push _).size
   simp; omega
  ·exact q3U hb
  ·show _<=(w.heap.push _).size
   simp
end Go.Den.S
