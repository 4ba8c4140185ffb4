/- EmA: equations of the functions of this seat as the executor tells them, or plain facts about them. Conditions: none here. -/
import Derived.Test.YthejgmhimclmdaaGreatDoorEkA
import Derived.Test.YthejgmhimclmdaaGreatDoorEjA
set_option linter.all false
open Bool (and_eq_true)
open List (all_eq_true append_nil drop_eq_nil_iff filter_cons length length_cons length_map length_nil map_cons mem_append mem_cons mem_cons_of_mem mem_cons_self mem_filter mem_map mem_singleton nil_append pairwise_cons range singleton_append)
open Nat (le_refl zero_le)
namespace Go.Den.S
open Go Go.Den
open Classical
set_option maxRecDepth 4000
noncomputable def putE (e:DE):Chg:=(e.1,(bOf (vTL e.2),false))
def q4k (e:DE):Chg:=(e.1,(eB,true))
def DifP (a b:List DE) (c:Chg):Prop:=(c.2=(eB,true)/\(∃ e∈a,e.1=c.1)/\∀ e∈b,e.1≠c.1)\/∃ e∈b,c=putE e/\e∉a
structure q4Y (a b:List DE) (D:List Chg):Prop where
 asc:AscK D
 mem:∀ c,c∈D↔DifP a b c
theorem qgJ {a b:List DE} {D E:List Chg} (h:q4Y a b D) (k:q4Y a b E):D=E:=q2k h.asc k.asc fun x=>(h.mem x).trans (k.mem x).symm
noncomputable def difL:List DE->List DE->List Chg
 | [],b=>b.map putE
 | x::a,[]=>(x::a).map q4k
 | x::a,y::b=>if blt x.1 y.1=true then q4k x::difL a (y::b) else if blt y.1 x.1=true then putE y::difL (x::a) b else if x.2=y.2 then difL a b else putE y::difL a b
termination_by a b=>a.length+b.length
theorem qpN {a b:List DE} {c:Chg} (h:DifP a b c):(∃ e∈a,e.1=c.1)\/∃ e∈b,e.1=c.1:=by
 rcases h with ⟨_,h,_⟩ | ⟨e,h1,h2,_⟩
 ·exact .inl h
 ·exact .inr ⟨e,h1,by rw [h2]; rfl⟩
theorem q5l {a b a' b':List DE} {c:Chg} {D:List Chg} (h:q4Y a b D) (ha:∀ e∈a,blt c.1 e.1=true) (hb:∀ e∈b,blt c.1 e.1=true) (hm:∀ x,DifP a' b' x↔x=c\/DifP a b x):q4Y a' b' (c::D) where
 asc:=pairwise_cons.2 ⟨fun x hx=>by
  show blt c.1 x.1=true;rcases qpN ((h.mem x).1 hx) with ⟨e,h1,h2⟩ | ⟨e,h1,h2⟩
  ·rw [<- h2]; exact ha e h1
  ·rw [<- h2]; exact hb e h1,h.asc⟩
 mem:=fun x=>by rw [mem_cons,h.mem,hm]
theorem qnE {a b a' b':List DE} {D:List Chg} (h:q4Y a b D) (hm:∀ x,DifP a' b' x↔DifP a b x):q4Y a' b' D:=⟨h.asc,fun x=>by rw [h.mem,hm]⟩
theorem qro {c:Chg}:¬ DifP [] [] c:=by
 intro h;rcases h with ⟨_,⟨e,h,_⟩,_⟩ | ⟨e,h,_⟩
 ·cases h
 ·cases h
theorem qab:∀ {b:List DE},AscK b->q4Y [] b (b.map putE)
 | [],_=>⟨List.Pairwise.nil,fun c=>⟨fun h=>absurd h List.not_mem_nil,fun h=>absurd h qro⟩⟩
 | y::b,hb=>by
  obtain ⟨h1,h2⟩:=pairwise_cons.1 hb;refine q5l (qab h2) (fun e h=>by cases h) (fun e he=>h1 e he) fun x=>?_
  constructor
  ·rintro (⟨_,⟨e,h,_⟩,_⟩ | ⟨e,h,k,n⟩)
   ·cases h
   ·rcases mem_cons.1 h with rfl | h
    ·exact .inl k
    ·exact .inr (.inr ⟨e,h,k,n⟩)
  ·rintro (h | ⟨_,⟨e,h,_⟩,_⟩ | ⟨e,h,k,n⟩)
   ·exact .inr ⟨y,mem_cons_self ..,h,List.not_mem_nil⟩
   ·cases h
   ·exact .inr ⟨e,mem_cons_of_mem _ h,k,n⟩
theorem qeT:∀ {a:List DE},AscK a->q4Y a [] (a.map q4k)
 | [],_=>qab List.Pairwise.nil
 | x::a,ha=>by
  obtain ⟨h1,h2⟩:=pairwise_cons.1 ha;refine q5l (qeT h2) (fun e he=>h1 e he) (fun e h=>by cases h) fun c=>?_
  constructor
  ·rintro (⟨k,⟨e,h,q⟩,_⟩ | ⟨e,h,_⟩)
   ·rcases mem_cons.1 h with rfl | h
    ·exact .inl (Prod.ext q.symm k)
    ·exact .inr (.inl ⟨k,⟨e,h,q⟩,fun e h=>by cases h⟩)
   ·cases h
  ·rintro (h | ⟨k,⟨e,h,q⟩,_⟩ | ⟨e,h,_⟩)
   ·rw [h]; exact .inl ⟨rfl,⟨x,mem_cons_self ..,rfl⟩,fun e h=>by cases h⟩
   ·exact .inl ⟨k,⟨e,mem_cons_of_mem _ h,q⟩,fun e h=>by cases h⟩
   ·cases h
theorem q5m (a b:List DE) (ha:AscK a) (hb:AscK b):q4Y a b (difL a b):=by
 fun_induction difL a b with
 | case1 b=>exact qab hb
 | case2 x a=>exact qeT ha
 | case3 x a y b h ih=>
  obtain ⟨a1,a2⟩:=pairwise_cons.1 ha;obtain ⟨b1,b2⟩:=pairwise_cons.1 hb;have hy:∀ e∈y::b,blt x.1 e.1=true:=fun e he=>by
   rcases mem_cons.1 he with rfl | he
   ·exact h
   ·exact q1n h (b1 e he)
  refine q5l (ih a2 hb) (fun e he=>a1 e he) hy fun c=>?_
  constructor
  ·rintro (⟨k,⟨e,m,q⟩,n⟩ | ⟨e,m,k,n⟩)
   ·rcases mem_cons.1 m with rfl | m
    ·exact .inl (Prod.ext q.symm k)
    ·exact .inr (.inl ⟨k,⟨e,m,q⟩,n⟩)
   ·exact .inr (.inr ⟨e,m,k,fun z=>n (mem_cons_of_mem _ z)⟩)
  ·rintro (q | ⟨k,⟨e,m,q⟩,n⟩ | ⟨e,m,k,n⟩)
   ·rw [q]; exact .inl ⟨rfl,⟨x,mem_cons_self ..,rfl⟩,fun e he=>(zI (hy e he)).symm⟩
   ·exact .inl ⟨k,⟨e,mem_cons_of_mem _ m,q⟩,n⟩
   ·refine .inr ⟨e,m,k,fun z=>?_⟩
    rcases mem_cons.1 z with rfl | z
    ·exact absurd rfl (zI (hy _ m))
    ·exact n z
 | case4 x a y b h0 h ih=>
  obtain ⟨a1,a2⟩:=pairwise_cons.1 ha;obtain ⟨b1,b2⟩:=pairwise_cons.1 hb;have hx:∀ e∈x::a,blt y.1 e.1=true:=fun e he=>by
   rcases mem_cons.1 he with rfl | he
   ·exact h
   ·exact q1n h (a1 e he)
  refine q5l (ih ha b2) hx (fun e he=>b1 e he) fun c=>?_
  constructor
  ·rintro (⟨k,⟨e,m,q⟩,n⟩ | ⟨e,m,k,n⟩)
   ·exact .inr (.inl ⟨k,⟨e,m,q⟩,fun z hz=>n z (mem_cons_of_mem _ hz)⟩)
   ·rcases mem_cons.1 m with rfl | m
    ·exact .inl k
    ·exact .inr (.inr ⟨e,m,k,n⟩)
  ·rintro (q | ⟨k,⟨e,m,q⟩,n⟩ | ⟨e,m,k,n⟩)
   ·exact .inr ⟨y,mem_cons_self ..,q,fun z=>absurd rfl (zI (hx _ z))⟩
   ·refine .inl ⟨k,⟨e,m,q⟩,fun z hz=>?_⟩
    rcases mem_cons.1 hz with rfl | hz
    ·rw [<- q]; exact zI (hx e m)
    ·exact n z hz
   ·exact .inr ⟨e,mem_cons_of_mem _ m,k,n⟩
 | case5 x a y b h0 h1 h ih=>
  obtain ⟨a1,a2⟩:=pairwise_cons.1 ha;obtain ⟨b1,b2⟩:=pairwise_cons.1 hb;have hk:x.1=y.1:=Classical.byContradiction fun q=>h1 (q0D q (by simpa using h0))
  have hxy:x=y:=Prod.ext hk h;subst hxy;refine qnE (ih a2 b2) fun c=>?_
  constructor
  ·rintro (⟨k,⟨e,m,q⟩,n⟩ | ⟨e,m,k,n⟩)
   ·rcases mem_cons.1 m with rfl | m
    ·exact absurd q (n _ (mem_cons_self ..))
    ·exact .inl ⟨k,⟨e,m,q⟩,fun z hz=>n z (mem_cons_of_mem _ hz)⟩
   ·rcases mem_cons.1 m with rfl | m
    ·exact absurd (mem_cons_self ..) n
    ·exact .inr ⟨e,m,k,fun z=>n (mem_cons_of_mem _ z)⟩
  ·rintro (⟨k,⟨e,m,q⟩,n⟩ | ⟨e,m,k,n⟩)
   ·refine .inl ⟨k,⟨e,mem_cons_of_mem _ m,q⟩,fun z hz=>?_⟩
    rcases mem_cons.1 hz with rfl | hz
    ·rw [<- q]; exact zI (a1 e m)
    ·exact n z hz
   ·refine .inr ⟨e,mem_cons_of_mem _ m,k,fun z=>?_⟩
    rcases mem_cons.1 z with rfl | z
    ·exact absurd rfl (zI (b1 _ m))
    ·exact n z
 | case6 x a y b h0 h1 h ih=>
  obtain ⟨a1,a2⟩:=pairwise_cons.1 ha;obtain ⟨b1,b2⟩:=pairwise_cons.1 hb;have hk:x.1=y.1:=Classical.byContradiction fun q=>h1 (q0D q (by simpa using h0))
  refine q5l (ih a2 b2) (fun e he=>by show blt y.1 e.1=true; rw [<- hk]; exact a1 e he) (fun e he=>b1 e he) fun c=>?_
  constructor
  ·rintro (⟨k,⟨e,m,q⟩,n⟩ | ⟨e,m,k,n⟩)
   ·rcases mem_cons.1 m with rfl | m
    ·exact absurd (hk.symm.trans q) (n _ (mem_cons_self ..))
    ·exact .inr (.inl ⟨k,⟨e,m,q⟩,fun z hz=>n z (mem_cons_of_mem _ hz)⟩)
   ·rcases mem_cons.1 m with rfl | m
    ·exact .inl k
    ·exact .inr (.inr ⟨e,m,k,fun z=>n (mem_cons_of_mem _ z)⟩)
  ·rintro (q | ⟨k,⟨e,m,q⟩,n⟩ | ⟨e,m,k,n⟩)
   ·refine .inr ⟨y,mem_cons_self ..,q,fun z=>?_⟩
    rcases mem_cons.1 z with z | z
    ·exact h (by rw [z])
    ·have:=a1 y z; rw [show ltK x y=blt x.1 y.1 from rfl,hk,q0v] at this; cases this
   ·refine .inl ⟨k,⟨e,mem_cons_of_mem _ m,q⟩,fun z hz=>?_⟩
    rcases mem_cons.1 hz with rfl | hz
    ·rw [<- q,<- hk]; exact zI (a1 e m)
    ·exact n z hz
   ·refine .inr ⟨e,mem_cons_of_mem _ m,k,fun z=>?_⟩
    rcases mem_cons.1 z with rfl | z
    ·have:=b1 _ m; rw [show ltK y e=blt y.1 e.1 from rfl,<- hk,q0v] at this; cases this
    ·exact n z
theorem qoW {β:Type} {m:List (BA×β)} {x:BA×Option β} {y:BA×β}:y∈zl m x↔(y∈m/\y.1≠x.1)\/(y.1=x.1/\x.2=some y.2):=by
 unfold zl;split
 ·rename_i h;rw [q2r,h];simp
 ·rename_i v h;rw [jX,h];constructor
  ·rintro (rfl | h)
   ·exact .inr ⟨rfl,rfl⟩
   ·exact .inl h
  ·rintro (h | ⟨h1,h2⟩)
   ·exact .inr h
   ·exact .inl (Prod.ext h1 (Option.some.inj h2).symm)
theorem qgR {β:Type}:∀ (ops:List (BA×Option β)) (m:List (BA×β)) (y:BA×β),ops.Pairwise (fun a b=>a.1≠b.1)->(y∈ops.foldl zl m↔(y∈m/\∀ x∈ops,x.1≠y.1)\/(y.1,some y.2)∈ops)
 | [],m,y,_=>by simp
 | x::ops,m,y,h=>by
  obtain ⟨h1,h2⟩:=pairwise_cons.1 h;rw [List.foldl_cons,qgR ops _ y h2,qoW];constructor
  ·rintro (⟨⟨a,b⟩ | ⟨a,b⟩,c⟩ | a)
   ·refine .inl ⟨a,fun z hz=>?_⟩
    rcases mem_cons.1 hz with rfl | hz
    ·exact b.symm
    ·exact c z hz
   ·refine .inr (mem_cons.2 (.inl (Prod.ext a b.symm)))
   ·exact .inr (mem_cons_of_mem _ a)
  ·rintro (⟨a,b⟩ | a)
   ·exact .inl ⟨.inl ⟨a,(b x (mem_cons_self ..)).symm⟩,fun z hz=>b z (mem_cons_of_mem _ hz)⟩
   ·rcases mem_cons.1 a with a | a
    ·refine .inl ⟨.inr ⟨by rw [<- a],by rw [<- a]⟩,fun z hz=>?_⟩
     have:=h1 z hz;rw [<- a] at this;exact this.symm
    ·exact .inr a
noncomputable def kvE (e:DE):BA×BA:=(e.1,bOf (vTL e.2))
theorem qod {t:List DE} (h:AscK t):AscK (t.map kvE):=by
 unfold AscK;rw [List.pairwise_map];exact h
theorem qpO {a b:List DE} (ha:AscK a) (hb:AscK b) {D:List Chg} (h:q4Y a b D):(D.map opsC).foldl zl (a.map kvE)=b.map kvE:=by
 have hp:(D.map opsC).Pairwise (fun a b=>a.1≠b.1):=by
  rw [List.pairwise_map];exact h.asc.imp fun q=>zI q
 refine q2k (q9v _ (qod ha)) (qod hb) fun y=>?_
 rw [qgR _ _ _ hp];constructor
 ·rintro (⟨h1,h2⟩ | h1)
  ·obtain ⟨e,he,rfl⟩:=mem_map.1 h1;by_cases hk:∃ z∈b,z.1=e.1
   ·obtain ⟨z,hz,q⟩:=hk;by_cases hza:z∈a
    ·have:=q70 ha hza he q;rw [<- this]; exact List.mem_map_of_mem hz
    ·have:=(h.mem (putE z)).2 (.inr ⟨z,hz,rfl,hza⟩);exact absurd q (h2 _ (List.mem_map_of_mem this))
   ·have:=(h.mem (q4k e)).2 (.inl ⟨rfl,⟨e,he,rfl⟩,fun z hz q=>hk ⟨z,hz,q⟩⟩)
    exact absurd rfl (h2 _ (List.mem_map_of_mem this))
  ·obtain ⟨c,hc,q⟩:=mem_map.1 h1;rcases (h.mem c).1 hc with ⟨k,_,_⟩ | ⟨e,he,k,_⟩
   ·unfold opsC at q;rw [k] at q;cases (Prod.mk.inj q).2
   ·rw [k] at q;obtain ⟨q1,q2⟩:=Prod.mk.inj q;have:y=kvE e:=Prod.ext q1.symm (Option.some.inj q2).symm;rw [this]; exact List.mem_map_of_mem he
 ·intro hy;obtain ⟨e,he,rfl⟩:=mem_map.1 hy;by_cases hea:e∈a
  ·refine .inl ⟨List.mem_map_of_mem hea,fun x hx=>?_⟩
   obtain ⟨c,hc,rfl⟩:=mem_map.1 hx;rcases (h.mem c).1 hc with ⟨_,_,n⟩ | ⟨z,hz,k,n⟩
   ·exact (n e he).symm
   ·intro q;rw [k] at q;have:=q70 hb hz he q;rw [this] at n; exact n hea
  ·exact .inr (mem_map.2 ⟨putE e,(h.mem _).2 (.inr ⟨e,he,rfl,hea⟩),rfl⟩)
theorem q7n (l:List BA) (hn:l.length<=24) (hs:∀ x∈l,x.size<=20000):∀ (r:List BA) (i:Nat) (acc:List UInt8),l.drop i=r->acc.length<=30000+i * 20005->q34 (bOf acc) l (l.length:Int) (i:Int)=some ((bOf (acc++r.flatMap shL),true),())
 | [],i,acc,hd,ha=>by
  have:=drop_eq_nil_iff.1 hd;rw [q7m];have k1:decide ((i:Int) < (l.length:Int))=false:=dYF (by omega)
  simp only [k1,cF,List.flatMap_nil,append_nil]
 | c::r,i,acc,hd,ha=>by
  obtain ⟨e1,hlt,e2⟩:=qV eB hd;have z1:=hs c (yM hd);rw [q7m];have k1:decide ((i:Int) < (l.length:Int))=true:=dYT (by omega)
  have k2:decide (0<=(i:Int))=true:=dYT (by omega)
  have k4:w64 ((i:Int)+1)=((i+1:Nat):Int):=ql (by omega)
  have hl1:=q0f c z1;have q1:limS ((bOf acc).size+(bOf (shL c)).size)=true:=qX (by rw [qz acc,qz (shL c)]; omega)
  simp only [k1,k2,k4,aS,cT,tN,e1,q4m c z1,oB,q1];rw [<- qaA];rw [q7n l hn hs r (i+1) _ e2 (by rw [lA,Nat.succ_mul]; omega)]
  simp only [List.flatMap_cons,pA]
theorem q9L (v:DV) (hl:v.2.2.2.length<=100000000):q5g v=some (bif valB v then (bOf (vTL v),true) else (eB,false),()):=by
 rw [qgy,q7T v hl];simp only [oB];cases hv:valB v with
 | false=>rfl
 | true=>
  have V:=q3T hv;obtain ⟨v1,v2,v3,v4⟩:=v;have k0:=V.k0; have k1:=V.k1; have u0:=V.u0; have u1:=V.u1; have ht:=V.t; have hn:=V.n; have hi:=V.i;simp only at k0 k1 u0 u1 ht hn hi;obtain ⟨n,rfl⟩:∃ n:Nat,v2=(n:Int):=⟨v2.toNat,by omega⟩
  have hw:IntKind.u8.wrap v1=v1:=q3v k0 (by omega)
  have hlt:=q0f v3 ht;have ln:=wB (n:=n) (by omega)
  have lm:=wB (n:=v4.length) (by omega)
  have hb:(⟨List.toArray (List.map (fun n=>UInt8.ofNat (Int.toNat n)) [v1])⟩:BA)=bOf [UInt8.ofNat v1.toNat]:=rfl
  simp only [nT,cF,cT,hw,hb,q0c,if_pos (show (0:Int)<=(n:Int)/\(n:Int)<=1000000000 by omega),if_pos (show (0:Int)<=(v4.length:Int)/\(v4.length:Int)<=1000000000 by omega),tN,q4m v3 ht,oB]
  have q1:limS ((bOf [UInt8.ofNat v1.toNat]).size+(bOf (vL n)).size)=true:=qX (by rw [qz,qz]; simp only [lS]; omega)
  have q2:limS ((bOf ([UInt8.ofNat v1.toNat]++vL n)).size+(bOf (shL v3)).size)=true:=qX (by rw [qz,qz,lA,lS]; omega)
  have q3:limS ((bOf (([UInt8.ofNat v1.toNat]++vL n)++shL v3)).size+(bOf (vL v4.length)).size)=true:=qX (by rw [qz,qz,lA,lA,lS]; omega)
  simp only [q1,cT,<- qaA,q2,q3];have hL:=q7n v4 hn hi v4 0 ((([UInt8.ofNat v1.toNat]++vL n)++shL v3)++vL v4.length) rfl (by simp only [lA,lS]; omega)
  refine Eq.trans hL ?_;have e:((([UInt8.ofNat v1.toNat]++vL n)++shL v3)++vL v4.length)++v4.flatMap shL=vTL (v1,((n:Int),(v3,v4))):=by
   unfold vTL;simp only [tN,pA,singleton_append,List.cons_append,nil_append]
  rw [e]
theorem qov (a b:List BA) (ha:a.length<=2097152):jO a b=some (decide (a=b),()):=by
 rw [q4G];by_cases hl:a.length=b.length
 ·have e:((a.length:Int) != (b.length:Int))=false:=by simp [hl]
  simp only [e,cF];refine qaH (fun i=>z8 a b (a.length:Int) i) a b eB hl (fun i hi=>?_) ?_
  ·rw [q0g];have e:w64 ((i:Int)+1)=(i:Int)+1:=qo (by omega) (by omega)
   have h1:decide ((i:Int) < (a.length:Int))=true:=dYT (by omega)
   have h2:decide ((i:Int) < (b.length:Int))=true:=dYT (by omega)
   have h3:decide (0<=(i:Int))=true:=dYT (by omega)
   simp only [h1,h2,h3,e,aS,cT,tN,y5];by_cases h:a.getD i eB=b.getD i eB<;>simp only [h,decide_true,decide_false,nT,nF,cT,cF,if_true,if_false]
  ·rw [q0g];simp
 ·have e:((a.length:Int) != (b.length:Int))=true:=by simp; omega
  simp only [e,cT];have:a≠b:=fun h=>hl (by rw [h])
  simp [this]
theorem qgH (a b:DV) (h:a.2.2.2.length<=2097152):q8V a b=some (decide (a=b),()):=by
 rw [qgG,qov _ _ h];obtain ⟨a1,a2,a3,a4⟩:=a;obtain ⟨b1,b2,b3,b4⟩:=b;simp only [oB,y5,Prod.mk.injEq,q2Q];by_cases h1:a1=b1<;>by_cases h2:a2=b2<;>by_cases h3:a3=b3<;>by_cases h4:a4=b4<;>simp [h1,h2,h3,h4]
theorem qjC (x1 x2:Int) (x3:BA) (y1 y2:Int) (y3:BA) (a b:List BA) (ha:a.length<=2097152) (hl:a.length=b.length):q1G 0 x1 x2 x3 a y1 y2 y3 b=some (decide (a=b),()):=by
 refine qaH (fun i=>q1G i x1 x2 x3 a y1 y2 y3 b) a b eB hl (fun i hi=>?_) ?_
 ·rw [q7M];have e:w64 ((i:Int)+1)=(i:Int)+1:=qo (by omega) (by omega)
  have h1:decide ((i:Int) < (a.length:Int))=true:=dYT (by omega)
  have h2:decide ((i:Int) < (b.length:Int))=true:=dYT (by omega)
  have h3:decide (0<=(i:Int))=true:=dYT (by omega)
  simp only [h1,h2,h3,e,aS,cT,tN,y5];by_cases h:a.getD i eB=b.getD i eB<;>simp only [h,decide_true,decide_false,nT,nF,cT,cF,if_true,if_false]
 ·rw [q7M];simp
theorem qnM (a b:DV) (h:a.2.2.2.length<=2097152):q9k a b=some (decide (a=b),()):=by
 rw [qhl];obtain ⟨a1,a2,a3,a4⟩:=a;obtain ⟨b1,b2,b3,b4⟩:=b;simp only [y5,Prod.mk.injEq,qm7];by_cases hl:a4.length=b4.length
 ·have e:decide ((a4.length:Int)=(b4.length:Int))=true:=dYT (by omega)
  simp only [e,qjC a1 a2 a3 b1 b2 b3 a4 b4 h hl];by_cases h1:a1=b1<;>by_cases h2:a2=b2<;>by_cases h3:a3=b3<;>by_cases h4:a4=b4<;>simp [h1,h2,h3,h4]
 ·have e:decide ((a4.length:Int)=(b4.length:Int))=false:=dYF (by omega)
  have hn:¬ a4=b4:=fun q=>hl (by rw [q])
  simp only [e];by_cases h1:a1=b1<;>by_cases h2:a2=b2<;>by_cases h3:a3=b3<;>simp [h1,h2,h3,hn]
theorem qgD (v:DV) (h:v.2.2.2.length<=100000000):q8U v=some (v,()):=by
 rw [qgC];have e:lim (0+v.2.2.2.length) 16=true:=qW (by omega)
 simp only [e,cT,nil_append]
def fndO (o:Option DV):DV×Bool:=match o with
 | some v=>(v,true)
 | none=>(dV0,false)
theorem qd5 (t:List DE) (k:BA) (h:Bd t):q9K t k=some (fndO (getK k t),()):=by
 have hl:=h.len;rw [qkv,wU];have:=q4w (fun i=>qD t (t.length:Int) i k) (fun e:DE=>decide (e.1=k)) dflt t (fun n=>some (n,((),())))
  (fun i hi=>by
   conv=>lhs; rw [yK]
   have e1:decide ((i:Int) < (t.length:Int))=true:=dYT (by omega)
   have e2:decide (0<=(i:Int))=true:=dYT (by omega)
   have e3:w64 ((i:Int)+1)=((i+1:Nat):Int):=ql (by omega)
   simp only [e1,e2,e3,aS,cT,tN,qhR,oB,y5])
  (by
   show qD t (t.length:Int) (t.length:Int) k=_;rw [yK];simp only [Int.lt_irrefl,decide_false,cF])
 rw [this];unfold getK;rcases qfb (fun e:DE=>decide (e.1=k)) dflt t 0 with ⟨h1,h2⟩ | ⟨j,hj,h1,h3⟩
 ·rw [h1,h2]; rfl
 ·rw [h1,h3];have hm:=h.its _ (q1K (d:=dflt) hj);simp only [oB,Nat.zero_add,dYF (show ¬ ((j:Int) < 0) by omega),cF,dYT (show (0:Int)<=(j:Int) by omega),dYT (show (j:Int) < (t.length:Int) by omega),aS,cT,tN,qgD (t.getD j dflt).2 (by omega)]
  rfl
theorem q8n (b:List DE):difL [] b=b.map putE:=by unfold difL; rfl
theorem qg7 (a:List DE):difL a []=a.map q4k:=by
 cases a with
 | nil=>unfold difL; rfl
 | cons x a=>unfold difL; rfl
theorem qoo (x:DE) (a:List DE) (y:DE) (b:List DE):difL (x::a) (y::b)=if blt x.1 y.1=true then q4k x::difL a (y::b) else if blt y.1 x.1=true then putE y::difL (x::a) b else if x.2=y.2 then difL a b else putE y::difL a b:=by
 conv=>lhs; unfold difL
theorem qez (a b:List DE) (ha:a.length<=20) (hb:b.length<=20) (va:∀ e∈a,valB e.2=true) (vb:∀ e∈b,valB e.2=true):∀ (n i j:Nat) (acc:List Chg),(a.length - i)+(b.length - j)<=n->i<=a.length->j<=b.length->acc.length<=i+j->q0M a b acc (i:Int) (j:Int)=some (acc++difL (a.drop i) (b.drop j),()):=by
 intro n;induction n with
 | zero=>
  intro i j acc hn hi hj hl;have e1:a.drop i=[]:=drop_eq_nil_iff.2 (by omega)
  have e2:b.drop j=[]:=drop_eq_nil_iff.2 (by omega)
  have k1:decide ((i:Int) < (a.length:Int))=false:=dYF (by omega)
  have k2:decide ((j:Int) < (b.length:Int))=false:=dYF (by omega)
  rw [q87];simp only [k1,cF,zV,k2,q40];rw [e1,e2,q8n,List.map_nil,append_nil]
 | succ n ih=>
  intro i j acc hn hi hj hl;have kl:lim (acc.length+1) 40=true:=qW (by omega)
  have wi:w64 ((i:Int)+1)=((i+1:Nat):Int):=ql (by omega)
  have wj:w64 ((j:Int)+1)=((j+1:Nat):Int):=ql (by omega)
  have ki:decide (0<=(i:Int))=true:=dYT (by omega)
  have kj:decide (0<=(j:Int))=true:=dYT (by omega)
  rw [q87];cases h1:a.drop i with
  | nil=>
   have hi':=drop_eq_nil_iff.1 h1;have k1:decide ((i:Int) < (a.length:Int))=false:=dYF (by omega)
   have b1:((i:Int)==(a.length:Int))=true:=by rw [q2Q]; exact dYT (by omega)
   simp only [k1,cF];cases h2:b.drop j with
   | nil=>
    have hj':=drop_eq_nil_iff.1 h2;have k2:decide ((j:Int) < (b.length:Int))=false:=dYF (by omega)
    simp only [zV,k2,cF,q40];rw [q8n,List.map_nil,append_nil]
   | cons y r=>
    obtain ⟨e1,hlt,e2⟩:=qV dflt h2;have hv:=vb y (yM h2);have hV:=(q3T hv).n;have k2:decide ((j:Int) < (b.length:Int))=true:=dYT (by omega)
    have b2:((j:Int)==(b.length:Int))=false:=by rw [q2Q]; exact dYF (by omega)
    simp only [zV,k2,cT,b2,cF,k1,q1f,b1,q3X,kj,aS,tN,e1,q3c y.2 (by omega),hv,oB,q3Y,kl,q3Z,wj]
    have:=ih i (j+1) (acc++[putE y]) (by omega) hi (by omega) (by rw [lA,lS]; omega)
    rw [h1,e2] at this;refine Eq.trans this ?_;rw [q8n,q8n,map_cons,pA,singleton_append]
  | cons x p=>
   obtain ⟨d1,dlt,d2⟩:=qV dflt h1;have k1:decide ((i:Int) < (a.length:Int))=true:=dYT (by omega)
   have b1:((i:Int)==(a.length:Int))=false:=by rw [q2Q]; exact dYF (by omega)
   simp only [k1,cT];cases h2:b.drop j with
   | nil=>
    have hj':=drop_eq_nil_iff.1 h2;have b2:((j:Int)==(b.length:Int))=true:=by rw [q2Q]; exact dYT (by omega)
    simp only [zV,cT,b2,q1f,ki,k1,aS,kl,tN,d1,q3W,wi];have:=ih (i+1) j (acc++[q4k x]) (by omega) (by omega) hj (by rw [lA,lS]; omega)
    rw [h2,d2] at this;refine Eq.trans this ?_;rw [qg7,qg7,map_cons,pA,singleton_append]
   | cons y r=>
    obtain ⟨e1,hlt,e2⟩:=qV dflt h2;have hv:=vb y (yM h2);have hV:=(q3T hv).n;have hX:=(q3T (va x (yM h1))).n;have k2:decide ((j:Int) < (b.length:Int))=true:=dYT (by omega)
    have b2:((j:Int)==(b.length:Int))=false:=by rw [q2Q]; exact dYF (by omega)
    simp only [zV,cT,b2,cF,k1,ki,kj,k2,aS,tN,d1,e1,blt_eq,q1f];rw [qoo];cases c1:blt x.1 y.1 with
    | true=>
     simp only [cT,kl,q3W,wi,if_true];have:=ih (i+1) j (acc++[q4k x]) (by omega) (by omega) hj (by rw [lA,lS]; omega)
     rw [h2,d2] at this;refine Eq.trans this ?_;rw [pA,singleton_append]
    | false=>
     simp only [cF,b1,q3X,Bool.false_eq_true,if_false,k1,ki,kj,k2,aS,cT,tN,d1,e1];cases c2:blt y.1 x.1 with
     | true=>
      simp only [cT,q3c y.2 (by omega),hv,oB,q3Y,kj,k2,aS,kl,tN,e1,q3Z,wj,if_true]
      have:=ih i (j+1) (acc++[putE y]) (by omega) hi (by omega) (by rw [lA,lS]; omega)
      rw [h1,e2] at this;refine Eq.trans this ?_;rw [pA,singleton_append]
     | false=>
      simp only [cF,Bool.false_eq_true,if_false,qnM x.2 y.2 (by omega),oB,q9s,q3V]
      by_cases c3:x.2=y.2
      ·rw [dYT c3,if_pos c3];simp only [nT,cF,wi,wj];have:=ih (i+1) (j+1) acc (by omega) (by omega) (by omega) (by omega)
       rw [d2,e2] at this;exact this
      ·rw [dYF c3,if_neg c3];simp only [nF,cT,kj,k2,aS,tN,e1,q3c y.2 (by omega),hv,oB,q9t,kl,q3V,wi,wj]
       have:=ih (i+1) (j+1) (acc++[putE y]) (by omega) (by omega) (by omega) (by rw [lA,lS]; omega)
       rw [d2,e2] at this;refine Eq.trans this ?_;rw [pA,singleton_append]
theorem q9l {t:List DE} (h:tabB t=true):Bd t:=by
 obtain ⟨h1,h2⟩:=jA h;exact ⟨by omega,fun e he=>by have:=h2 e he; omega⟩
theorem q8C {t:List DE} (h:tabB t=true):∀ e∈t,valB e.2=true/\1<=e.1.size/\e.1.size<=20:=by
 unfold tabB at h;rw [and_eq_true,decide_eq_true_eq] at h;intro e he;obtain ⟨i,hi,q⟩:=List.mem_iff_getElem.1 he;have:=all_eq_true.1 h.2 i (List.mem_range.2 hi);unfold enB at this;have e':ge t i=e:=by rw [<- q]; show t.getD i _=_; rw [List.getD_eq_getElem?_getD,List.getElem?_eq_getElem hi]; rfl
 rw [e',and_eq_true,and_eq_true,and_eq_true,decide_eq_true_eq,decide_eq_true_eq] at this;exact ⟨this.1.2,this.1.1.1,this.1.1.2⟩
theorem qig (a b:List DE) (ha:tabB a=true) (hb:tabB b=true):qag a b=some (difL a b,()):=by
 rw [qif,q9n,q9o];simp only [q9Z a (q9l ha),q9Z b (q9l hb),ha,hb,oB,nT,cF,q9p,q9q,q9r];have:=qez a b (jA ha).1 (jA hb).1 (fun e h=>(q8C ha e h).1) (fun e h=>(q8C hb e h).1) (a.length+b.length) 0 0 [] (by omega) (zero_le _) (zero_le _) (zero_le _)
 exact this
theorem qm5:∀ (t:List DE),(∀ i,0 < i->i < t.length->blt (ge t (i - 1)).1 (ge t i).1=true)->ascB (fun x y:DE=>blt x.1 y.1) t=true
 | [],_=>rfl
 | [_],_=>rfl
 | x::y::r,h=>by
  show (blt x.1 y.1&&ascB (fun x y:DE=>blt x.1 y.1) (y::r))=true
  rw [and_eq_true];refine ⟨h 1 (by omega) (by simp),qm5 (y::r) fun i h0 hi=>?_⟩
  have:=h (i+1) (by omega) (by simp at hi ⊢; omega)
  obtain ⟨k,rfl⟩:∃ k,i=k+1:=⟨i - 1,by omega⟩
  exact this
theorem q0P {t:List DE} (h:tabB t=true):AscK t:=by
 refine qbj.1 (qm5 t fun i h0 hi=>?_)
 unfold tabB at h;rw [and_eq_true,decide_eq_true_eq] at h;have:=all_eq_true.1 h.2 i (List.mem_range.2 hi);unfold enB at this;rw [and_eq_true,dYT h0] at this;exact this.2
noncomputable def out1 (a b:List DE):List Chg:=(a.filter fun e=>(getK e.1 b).isNone).map q4k
noncomputable def out2 (a b:List DE):List Chg:=(b.filter fun e=>!decide (getK e.1 a=some e.2)).map putE
theorem qp3 (e:DE) (r b:List DE):out1 (e::r) b=if (getK e.1 b).isNone=true then q4k e::out1 r b else out1 r b:=by
 unfold out1;rw [filter_cons];split<;>rfl
theorem qp4 (a:List DE) (e:DE) (r:List DE):out2 a (e::r)=if getK e.1 a=some e.2 then out2 a r else putE e::out2 a r:=by
 unfold out2;rw [filter_cons];by_cases h:getK e.1 a=some e.2
 ·rw [if_pos h,dYT h]; rfl
 ·rw [if_neg h,dYF h]; rfl
theorem q42 (a b:List DE) (hb:b.length<=20) (A:Bd a) (ha:tabB a=true) (vb:∀ e∈b,valB e.2=true) (fin:Option (List Chg×Unit)):∀ (r:List DE) (j:Nat) (acc:List Chg),b.drop j=r->j<=b.length->acc.length<=20+j->
  jU a acc b (b.length:Int) (j:Int)=((qJ (acc++out2 a r) ()).bind fun r7=>some (r7.2.1,()))
 | [],j,acc,hd,hj,hl=>by
  have:=drop_eq_nil_iff.1 hd;rw [q81];have k1:decide ((j:Int) < (b.length:Int))=false:=dYF (by omega)
  simp only [k1,cF];rw [show out2 a []=[] from rfl,append_nil]
 | e::r,j,acc,hd,hj,hl=>by
  obtain ⟨e1,hlt,e2⟩:=qV dflt hd;have hv:=vb e (yM hd);have hV:=(q3T hv).n;rw [q81];have k1:decide ((j:Int) < (b.length:Int))=true:=dYT (by omega)
  have k2:decide (0<=(j:Int))=true:=dYT (by omega)
  have k4:w64 ((j:Int)+1)=((j+1:Nat):Int):=ql (by omega)
  have kl:lim (acc.length+1) 40=true:=qW (by omega)
  simp only [k1,k2,k4,kl,aS,cT,tN,e1,qd5 a e.1 A,oB];have i1:=q42 a b hb A ha vb fin r (j+1) (acc++[putE e]) e2 (by omega) (by rw [lA,lS]; omega)
  have i2:=q42 a b hb A ha vb fin r (j+1) acc e2 (by omega) (by omega)
  rw [pA,singleton_append] at i1;rw [qp4];cases hg:getK e.1 a with
  | none=>
   rw [if_neg (by intro h; cases h)]
   simp only [fndO,nF,cT,q9L e.2 (by omega),hv,oB]
   exact i1
  | some v=>
   have hm:(e.1,v)∈a:=(yO (q0P ha)).1 hg;have hvl:=(jA ha).2 _ hm;simp only [fndO,nT,cF,qgH v e.2 (by simp only at hvl; omega),oB]
   by_cases hc:v=e.2
   ·rw [if_pos (by rw [hc]),dYT hc]
    simp only [nT,cF];exact i2
   ·rw [if_neg (fun h=>hc (Option.some.inj h)),dYF hc]
    simp only [nF,cT,q9L e.2 (by omega),hv,oB]
    exact i1
theorem q41 (a b:List DE) (hal:a.length<=20) (B:Bd b):∀ (r:List DE) (i:Nat) (acc:List Chg),a.drop i=r->i<=a.length->acc.length<=i->
  q25 a b acc a (a.length:Int) (i:Int)=jU a (acc++out1 r b) b (b.length:Int) 0
 | [],i,acc,hd,hi,hl=>by
  have:=drop_eq_nil_iff.1 hd;rw [q80];have k1:decide ((i:Int) < (a.length:Int))=false:=dYF (by omega)
  simp only [k1,cF];rw [show out1 [] b=[] from rfl,append_nil]
 | e::r,i,acc,hd,hi,hl=>by
  obtain ⟨e1,hlt,e2⟩:=qV dflt hd;rw [q80];have k1:decide ((i:Int) < (a.length:Int))=true:=dYT (by omega)
  have k2:decide (0<=(i:Int))=true:=dYT (by omega)
  have k4:w64 ((i:Int)+1)=((i+1:Nat):Int):=ql (by omega)
  have kl:lim (acc.length+1) 40=true:=qW (by omega)
  simp only [k1,k2,k4,kl,aS,cT,tN,e1,qd5 b e.1 B,oB];rw [qp3];cases hg:getK e.1 b with
  | none=>
   have ih:=q41 a b hal B r (i+1) (acc++[q4k e]) e2 (by omega) (by rw [lA,lS]; omega)
   rw [pA,singleton_append] at ih;simp only [fndO,nF,cT,Option.isNone_none,if_true];exact ih
  | some v=>
   have ih:=q41 a b hal B r (i+1) acc e2 (by omega) (by omega)
   simp only [fndO,nT,cF,Option.isNone_some,Bool.false_eq_true,if_false];exact ih
theorem qqb {a b:List DE} (ha:AscK a) (c:Chg):c∈out1 a b++out2 a b↔DifP a b c:=by
 rw [mem_append];unfold out1 out2 DifP;rw [mem_map,mem_map];constructor
 ·rintro (⟨e,he,rfl⟩ | ⟨e,he,rfl⟩)
  ·obtain ⟨h1,h2⟩:=mem_filter.1 he;exact .inl ⟨rfl,⟨e,h1,rfl⟩,zq.1 (Option.isNone_iff_eq_none.1 h2)⟩
  ·obtain ⟨h1,h2⟩:=mem_filter.1 he;refine .inr ⟨e,h1,rfl,fun h=>?_⟩
   rw [(yO ha).2 h,dYT rfl] at h2;cases h2
 ·rintro (⟨h1,⟨e,h2,h3⟩,h4⟩ | ⟨e,h1,rfl,h2⟩)
  ·refine .inl ⟨e,mem_filter.2 ⟨h2,?_⟩,Prod.ext h3 h1.symm⟩;rw [h3]; exact Option.isNone_iff_eq_none.2 (zq.2 h4)
  ·refine .inr ⟨e,mem_filter.2 ⟨h1,?_⟩,rfl⟩;rw [Bool.not_eq_true',decide_eq_false_iff_not];exact fun h=>h2 ((yO ha).1 h)
theorem qiD {β:Type} {l:List (BA×β)} (h:AscK l):(l.map (·.1)).Nodup:=by
 unfold List.Nodup;rw [List.pairwise_map];exact h.imp fun q=>zI q
theorem qnU {a b:List DE} (ha:AscK a) (hb:AscK b):((out1 a b++out2 a b).map (·.1)).Nodup:=by
 rw [List.map_append,List.nodup_append];refine ⟨?_,?_,fun x hx y hy=>?_⟩
 ·unfold out1;rw [List.map_map];exact qiD (ha.filter _)
 ·unfold out2;rw [List.map_map];exact qiD (hb.filter _)
 ·intro q;obtain ⟨c,hc,rfl⟩:=mem_map.1 hx;obtain ⟨d,hd,rfl⟩:=mem_map.1 hy;unfold out1 at hc;unfold out2 at hd;obtain ⟨e,he,rfl⟩:=mem_map.1 hc;obtain ⟨f,hf,rfl⟩:=mem_map.1 hd;have h1:=zq.1 (Option.isNone_iff_eq_none.1 (mem_filter.1 he).2);exact h1 f (mem_filter.1 hf).1 q.symm
theorem qjg {l:List Chg} (h:(l.map (·.1)).Nodup):AscK (sortC l)/\∀ c,c∈sortC l↔c∈l:=by
 have hp:(sortC l).Perm l:=by rw [qbT]; exact List.mergeSort_perm _ _
 refine ⟨?_,fun c=>hp.mem_iff⟩
 have hn:((sortC l).map (·.1)).Nodup:=(hp.map _).nodup_iff.2 h;unfold List.Nodup at hn;rw [List.pairwise_map] at hn;have hs:(sortC l).Pairwise fun x y=>(!ltC y x)=true:=by
  rw [qbT];refine List.pairwise_mergeSort (le:=fun x y=>!ltC y x) (fun x y z h1 h2=>?_) (fun x y=>?_) l
  ·simp only [Bool.not_eq_true'] at h1 h2 ⊢;show blt z.1 x.1=false;have h1:blt y.1 x.1=false:=h1;have h2:blt z.1 y.1=false:=h2;cases hz:blt z.1 x.1 with
   | false=>rfl
   | true=>
    have:=qg1 h2 hz;rw [h1] at this; cases this
  ·show (!blt y.1 x.1||!blt x.1 y.1)=true;cases h1:blt y.1 x.1 with
   | false=>rfl
   | true=>rw [q4J h1]; rfl
 refine (hs.and hn).imp fun {x y} q=>?_
 have h0:ltC y x=false:=by simpa using q.1
 have h1:blt y.1 x.1=false:=h0;exact q0D (fun z=>q.2 z.symm) h1
theorem q6x (a b:List DE) (ha:tabB a=true) (hb:tabB b=true):q47 a b=some (difL a b,()):=by
 have A:=q0P ha;have B:=q0P hb;rw [qhM];simp only [q31 a (q9l ha),q31 b (q9l hb),ha,hb,oB,nT,cF];have l1:=(jA ha).1;have l2:=(jA hb).1;have e1:=q41 a b l1 (q9l hb) a 0 [] rfl (zero_le _) (le_refl _);have hlen:(out1 a b).length<=20:=by
  unfold out1;rw [length_map]; exact Nat.le_trans (List.length_filter_le ..) l1
 have hlen2:(out2 a b).length<=20:=by
  unfold out2;rw [length_map]; exact Nat.le_trans (List.length_filter_le ..) l2
 have e2:=q42 a b l2 (q9l ha) ha (fun e h=>(q8C hb e h).1) none b 0 (out1 a b) rfl (zero_le _) (by omega)
 have hnd:=qnU A B;obtain ⟨s1,s2⟩:=qjg hnd;have hD:q4Y a b (sortC (out1 a b++out2 a b)):=⟨s1,fun c=>(s2 c).trans (qqb A c)⟩
 have hq:=qgJ hD (q5m a b A B);have hS:qJ (out1 a b++out2 a b) ()=some ((),(difL a b,((),()))):=by
  rw [wS];unfold qdz;have k1:decide ((out1 a b++out2 a b).length < 4611686018427387904)=true:=dYT (by rw [lA]; omega)
  simp only [k1,dYT hnd,aS,cT,hq]
 rw [hS] at e2;exact e1.trans e2
end Go.Den.S
namespace Go.Den.S
open Go Go.Den
set_option maxRecDepth 4000
abbrev PF:Type:=BA×BA
def zW (P:List PF):List BA:=P.flatMap fun p=>[p.1,p.2]
theorem qgc (p:PF) (P:List PF):zW (p::P)=p.1::p.2::zW P:=rfl
theorem qoz (P Q:List PF):zW (P++Q)=zW P++zW Q:=by simp [zW]
theorem q9G:∀ P:List PF,(zW P).length=P.length * 2
  | []=>rfl
  | p::P=>by rw [qgc,length_cons,length_cons,q9G P,length_cons]; omega
theorem qoA {P:List PF} {s:BA} (h:s∈zW P):∃ p∈P,s=p.1\/s=p.2:=by
  unfold zW at h;obtain ⟨p,hp,hs⟩:=List.mem_flatMap.1 h;simp only [mem_cons,List.not_mem_nil,or_false] at hs;exact ⟨p,hp,hs⟩
theorem qd2:∀ (P:List PF) (j:Nat) (h:j < P.length),(zW P).getD (j * 2) eB=P[j].1/\(zW P).getD (j * 2+1) eB=P[j].2
  | p::P,0,_=>⟨rfl,rfl⟩
  | p::P,j+1,h=>by
    have:=qd2 P j (by simpa using h)
    rw [qgc,show (j+1) * 2=j * 2+1+1 by omega]
    exact this
def AscF (P:List PF):Prop:=P.Pairwise fun a b=>blt a.1 b.1=true
def q4n (P:List PF):List BA:=P.map Prod.fst
def AscS (l:List BA):Prop:=l.Pairwise fun a b=>blt a b=true
theorem qa2 {l:List BA} {i:Nat} (h:i < l.length):l.take (i+1)=l.take i++[gi l i]:=by
  rw [List.take_add_one,List.getElem?_eq_getElem h];simp only [gi,List.getD_eq_getElem?_getD,List.getElem?_eq_getElem h,Option.toList,Option.getD]
def Asc (t:List DE):Prop:=t.Pairwise fun a b=>blt a.1 b.1=true
theorem qkC (st:Nat) (l:List BA) (hs:∀ s∈l,s.size<=60) (h:∀ i,i < l.length->0 < st->i % st=0->st<=i->blt (gi l (i - st)) (gi l i)=true):itsB st l=true:=by
  unfold itsB;rw [all_eq_true];intro i hi;have hi:=List.mem_range.1 hi;unfold itB;rw [and_eq_true];refine ⟨dYT (hs _ (q1K hi)),?_⟩;by_cases h1:0 < st/\i % st=0/\st<=i
  · rw [h i hi h1.1 h1.2.1 h1.2.2,Bool.or_true]
  · rw [Bool.or_eq_true, Bool.not_eq_true'];left
    by_cases a:0 < st
    · by_cases b : i % st = 0
      · by_cases c : st <= i
        · exact absurd ⟨a,b,c⟩ h1
        · rw [dYF c,Bool.and_false]
      · rw [dYF b,Bool.and_false,Bool.false_and]
    · rw [dYF a]; rfl
theorem qqM {l:List BA} (h:AscS l) {i j:Nat} (hij:i < j) (hj:j < l.length):blt (gi l i) (gi l j)=true:=by
  unfold AscS at h;rw [List.pairwise_iff_getElem] at h;rw [show gi l i=l[i] from wT (by omega),show gi l j=l[j] from wT hj]
  exact h i j (by omega) hj hij
theorem qrP {u:Int} (hu:0<=u/\u<=100000) {l:List BA} (h1:1<=l.length) (h2:l.length<=24) (ha:AscS l) (hs:∀ s∈l,s.size<=60):valB (4,(u,(eB,l)))=true:=by
  have hi:=qkC 1 l hs fun i hi _ _ h=>qqM ha (by omega) hi
  unfold valB;simp only [dYT hu.1,dYT hu.2,dYT h1,dYT h2,show stB 4=1 from rfl,hi]
  rfl
theorem qqx {u:Int} (hu:0<=u/\u<=100000) {l:List BA} (h1:1<=l.length) (h2:l.length<=24) (hs:∀ s∈l,s.size<=60):valB (2,(u,(eB,l)))=true:=by
  have hi:=qkC 0 l hs fun i hi h=>absurd h (by omega)
  unfold valB;simp only [dYT hu.1,dYT hu.2,dYT h1,dYT h2,show stB 2=0 from rfl,hi]
  rfl
theorem qqy {u:Int} (hu:0<=u/\u<=100000) {x:BA} (h:x.size<=60):valB (1,(u,(x,[])))=true:=by
  unfold valB;simp only [dYT hu.1,dYT hu.2,dYT h];rfl
theorem qqw {u:Int} (hu:0<=u/\u<=100000) {P:List PF} (h1:1<=P.length) (h2:P.length<=12) (ha:AscF P) (hs:∀ s∈zW P,s.size<=60):valB (3,(u,(eB,zW P)))=true:=by
  have hl:=q9G P;have hi:=qkC 2 (zW P) hs fun i hi _ hm h=>by
    have e1:gi (zW P) i=(P[i / 2]'(by omega)).1:=by
      have:=(qd2 P (i / 2) (by omega)).1
      rw [show i / 2 * 2=i by omega] at this
      exact this
    have e2:gi (zW P) (i - 2)=(P[i / 2 - 1]'(by omega)).1:=by
      have:=(qd2 P (i / 2 - 1) (by omega)).1
      rw [show (i / 2 - 1) * 2=i - 2 by omega] at this
      exact this
    rw [e1,e2];unfold AscF at ha;rw [List.pairwise_iff_getElem] at ha;exact ha (i / 2 - 1) (i / 2) (by omega) (by omega) (by omega)
  unfold valB;simp only [dYT hu.1,dYT hu.2,hl,dYT (show 1<=P.length * 2 by omega),dYT (show P.length * 2<=24 by omega),dYT (show P.length * 2 % 2=0 by omega),show stB 3=2 from rfl,hi]
  rfl
def Sv (v:DV):Prop:=v.2.2.1.size<=5/\v.2.2.2.length<=8/\∀ s∈v.2.2.2,s.size<=5
def qpx:List BA:=[eB,c_1,qa7,c_x,c_yy,qhC,c_12,qnb]
theorem qo6:(qpx.all fun s=>decide (s.size<=5))=true:=by decide +kernel
theorem qiy {c:Cur} (h:Cu c):∃ (w:BA) (c':Cur),jL c=some (w,(c',()))/\w.size<=5/\Cu c':=by
  obtain ⟨w,c1,e,hm,k⟩:=qru h qpx (by decide) (by decide)
  have e:q5O c [eB,c_1,qa7,c_x,c_yy,qhC,c_12,qnb]=some (w,(c1,())):=e;rw [qhm,e];exact ⟨w,c1,rfl,of_decide_eq_true (all_eq_true.1 qo6 w hm),k⟩
def fghi:List BA:=[c_f,c_g,c_h,c_i]
theorem qpR:((range 4).all fun i=>(fghi.take i).all fun s=>blt s (fghi.getD i eB))=true:=by decide +kernel
theorem qiQ:(fghi.all fun s=>decide (s.size<=5))=true:=by decide +kernel
theorem qr7 {i:Nat} (hi:i < 4) {s:BA} (hs:s∈fghi.take i):blt s (gi fghi i)=true:=
  all_eq_true.1 (all_eq_true.1 qpR i (List.mem_range.2 hi)) s hs
structure FI (i:Nat) (P:List PF):Prop where
  asc:AscF P
  nam:∀ p∈P,p.1∈fghi.take i
  val:∀ p∈P,p.2.size<=5
  len:P.length<=i
  pos:1<=i->1<=P.length
theorem FI.add {i:Nat} {P:List PF} (h:FI i P) (hi:i < 4) {w:BA} (hw:w.size<=5):FI (i+1) (P++[(gi fghi i,w)]):=by
  refine ⟨?_,fun p hp=>?_,fun p hp=>?_,by have:=h.len; simp; omega,fun _=>by simp⟩
  · unfold AscF;refine List.pairwise_append.2 ⟨h.asc,List.pairwise_singleton _ _,fun a ha b hb=>?_⟩
    rw [mem_singleton] at hb; subst hb;exact qr7 hi (h.nam a ha)
  · rw [qa2 (show i < fghi.length from hi)]
    rcases mem_append.1 hp with hp | hp
    · exact mem_append.2 (.inl (h.nam p hp))
    · rw [mem_singleton] at hp; subst hp;exact mem_append.2 (.inr (List.mem_singleton_self _))
  · rcases mem_append.1 hp with hp | hp
    · exact h.val p hp
    · rw [mem_singleton] at hp; subst hp; exact hw
theorem FI.skip {i:Nat} {P:List PF} (h:FI i P) (hi:i < 4) (h1:1<=i):FI (i+1) P:=by
  refine ⟨h.asc,fun p hp=>?_,h.val,by have:=h.len; omega,fun _=>h.pos h1⟩
  rw [qa2 (show i < fghi.length from hi)]
  exact mem_append.2 (.inl (h.nam p hp))
theorem beqI (a b:Int):(a==b)=decide (a=b):=by by_cases h:a=b<;>simp [h]
theorem FI.nil:FI 0 []:=⟨List.Pairwise.nil,fun p h=>(by cases h),fun p h=>(by cases h),(by simp),fun h=>(by omega)⟩
theorem qhI (u:Int):∀ (m i:Nat) (P:List PF) (c:Cur),m+i=4->Cu c->FI i P->
    ∃ (P':List PF) (c':Cur),wF fghi (i:Int) c.1 c.2.1 c.2.2 0 0 eB [] 3 u eB (zW P)=some ((3,(u,(eB,zW P'))),(c',()))/\FI 4 P'/\Cu c'
  | 0,i,P,c,hm,hc,h=>by
    have ei:i=4:=by omega
    subst ei;rw [q1Y];simp only [show (fghi.length:Int)=4 from rfl,dYF (show ¬ ((4:Nat):Int) < 4 by omega),cF]
    exact ⟨P,c,rfl,h,hc⟩
  | m+1,i,P,c,hm,hc,h=>by
    have hfl:=q9G P;have hpl:=h.len;have l1:lim ((zW P).length+1) 16=true:=qW (by omega)
    have l2:∀ x:BA,lim ((zW P++[x]).length+1) 16=true:=fun x=>qW (by rw [lA,lS]; omega)
    have add:∀ (c0 c1:Cur),c0=c1->Cu c1->∃ (P':List PF) (c':Cur),((jL c0).bind fun r15=>wF fghi ((i+1:Nat):Int) r15.2.1.1 r15.2.1.2.1 r15.2.1.2.2 0 0 eB [] 3 u eB ((zW P++[gi fghi i])++[r15.1]))=some ((3,(u,(eB,zW P'))),(c',()))/\FI 4 P'/\Cu c':=fun c0 c1 e0 k1=>by
      subst e0;obtain ⟨w,c2,e,hw,k2⟩:=qiy k1;have:=qhI u m (i+1) (P++[(gi fghi i,w)]) c2 (by omega) k2 (h.add (by omega) hw)
      rw [qoz,show zW [(gi fghi i,w)]=[gi fghi i]++[w] from rfl,<- pA] at this
      simp only [e,oB];exact this
    rw [q1Y];simp only [show (fghi.length:Int)=4 from rfl,dYT (show (i:Int) < 4 by omega),dYT (show (0:Int)<=(i:Int) by omega),aS,cT,tN,show ((3:Int)==3)=true from rfl,l1,l2,show w64 ((i:Int)+1)=((i+1:Nat):Int) from ql (by omega)]
    by_cases h0:i=0
    · have : ((i : Int) == 0) = true := by subst h0; rfl
      simp only [this,cT];exact add _ c rfl hc
    · have : ((i : Int) == 0) = false := by rw [beqI, dYF (by omega)]
      obtain ⟨b,c1,e1,k1⟩:=qb1 hc 2 (by omega) (by omega)
      have e1:jd (c.1,(c.2.1,c.2.2)) 2=some (b,(c1,())):=e1;simp only [this,cF,e1,oB];cases b with
      | true=>
        simp only [cT];exact add c1 c1 rfl k1
      | false=>
        simp only [cF];exact qhI u m (i+1) P c1 (by omega) k1 (h.skip (by omega) (by omega))
theorem qid (u:Int):∀ (m i:Nat) (P:List PF) (c:Cur),m+i=4->Cu c->FI i P->
    ∃ (P':List PF) (c':Cur),wF fghi (i:Int) c.1 c.2.1 c.2.2 0 0 eB [] 4 u eB (q4n P)=some ((4,(u,(eB,q4n P'))),(c',()))/\FI 4 P'/\Cu c'
  | 0,i,P,c,hm,hc,h=>by
    have ei:i=4:=by omega
    subst ei;rw [q1Y];simp only [show (fghi.length:Int)=4 from rfl,dYF (show ¬ ((4:Nat):Int) < 4 by omega),cF]
    exact ⟨P,c,rfl,h,hc⟩
  | m+1,i,P,c,hm,hc,h=>by
    have hpl:=h.len;have hkl:(q4n P).length=P.length:=length_map ..;have l1:lim ((q4n P).length+1) 16=true:=qW (by omega)
    have add:∀ c1:Cur,Cu c1->∃ (P':List PF) (c':Cur),(wF fghi ((i+1:Nat):Int) c1.1 c1.2.1 c1.2.2 0 0 eB [] 4 u eB (q4n P++[gi fghi i]))=some ((4,(u,(eB,q4n P'))),(c',()))/\FI 4 P'/\Cu c':=fun c1 k1=>by
      have:=qid u m (i+1) (P++[(gi fghi i,eB)]) c1 (by omega) k1 (h.add (by omega) (by decide))
      rw [show q4n (P++[(gi fghi i,eB)])=q4n P++[gi fghi i] from List.map_append ..] at this
      exact this
    rw [q1Y];simp only [show (fghi.length:Int)=4 from rfl,dYT (show (i:Int) < 4 by omega),dYT (show (0:Int)<=(i:Int) by omega),aS,cT,tN,show ((4:Int)==3)=false from rfl,cF,l1,show w64 ((i:Int)+1)=((i+1:Nat):Int) from ql (by omega)]
    by_cases h0:i=0
    · have : ((i : Int) == 0) = true := by subst h0; rfl
      simp only [this,cT];exact add c hc
    · have : ((i : Int) == 0) = false := by rw [beqI, dYF (by omega)]
      obtain ⟨b,c1,e1,k1⟩:=qb1 hc 2 (by omega) (by omega)
      have e1:jd (c.1,(c.2.1,c.2.2)) 2=some (b,(c1,())):=e1;simp only [this,cF,e1,oB];cases b with
      | true=>
        simp only [cT];exact add c1 k1
      | false=>
        simp only [cF];exact qid u m (i+1) P c1 (by omega) k1 (h.skip (by omega) (by omega))
theorem qkB (u:Int):∀ (m i:Nat) (l:List BA) (c:Cur),m+i=4->Cu c->l.length=i->(∀ s∈l,s.size<=5)->
    ∃ (l':List BA) (c':Cur),q0O (i:Int) c.1 c.2.1 c.2.2 0 0 eB [] 2 u eB l=some ((2,(u,(eB,l'))),(c',()))/\1<=l'.length/\l'.length<=4/\(∀ s∈l',s.size<=5)/\Cu c'
  | m,i,l,c,hm,hc,hl,hs=>by
    obtain ⟨x,c1,e1,a1,b1,k1⟩:=q6j hc 4 (by omega) (by omega)
    have e1:zL (c.1,(c.2.1,c.2.2)) 4=some (x,(c1,())):=e1;have w1:w64 (1+x)=1+x:=qo (by omega) (by omega)
    rw [qeG];simp only [e1,oB,w1];by_cases hi:(i:Int) < 1+x
    · match m, hm with
      | 0,hm=>omega
      | m+1,hm=>
        obtain ⟨w,c2,e2,hw,k2⟩:=qiy k1;simp only [dYT hi,cT,e2,oB,qW (show (l.length+1) * 16<=140737488355328 by omega),show w64 ((i:Int)+1)=((i+1:Nat):Int) from ql (by omega)]
        exact qkB u m (i+1) (l++[w]) c2 (by omega) k2 (by simp [hl]) (fun s hs'=>by
          rcases mem_append.1 hs' with hs' | hs'
          · exact hs s hs'
          · rw [mem_singleton] at hs'; subst hs'; exact hw)
    · simp only [dYF hi, cF];exact ⟨l,c1,rfl,by omega,by omega,hs,k1⟩
theorem qlE {c:Cur} (hc:Cu c) (kd u:Int) (hk:1<=kd/\kd<=4) (hu:0<=u/\u<=40):∃ (v:DV) (c':Cur),
    (bif (kd==1) then (jL c).bind fun r6=>some ((kd,(u,(r6.1,[]))),(r6.2.1,()))
     else bif (kd==2) then q0O 0 c.1 c.2.1 c.2.2 0 0 eB [] kd u eB []
      else wF [c_f,c_g,c_h,c_i] 0 c.1 c.2.1 c.2.2 0 0 eB [] kd u eB []:Option (DV×(Cur×Unit)))=some (v,(c',()))/\(valB v=true/\Sv v)/\v.1=kd/\v.2.1=u/\Cu c':=by
  have hu':0<=u/\u<=100000:=by omega
  have hf:∀ {P:List PF},FI 4 P->∀ s∈zW P,s.size<=5:=fun h s hs=>by
    obtain ⟨p,hp,rfl | rfl⟩:=qoA hs
    · exact of_decide_eq_true (all_eq_true.1 qiQ _ (List.mem_of_mem_take (h.nam p hp)))
    · exact h.val p hp
  have h4:kd=1\/kd=2\/kd=3\/kd=4:=by omega
  rcases h4 with rfl | rfl | rfl | rfl
  · obtain ⟨w, c1, e, hw, k⟩ := qiy hc;refine ⟨(1,(u,(w,[]))),c1,?_,⟨qqy hu' (by omega),hw,zero_le _,fun s h=>absurd h List.not_mem_nil⟩,rfl,rfl,k⟩
    simp only [show ((1:Int)==1)=true from rfl,cT,e,oB]
  · obtain ⟨l, c1, e, h1, h2, h3, k⟩ := qkB u 4 0 [] c rfl hc rfl (fun s h => by cases h)
    refine ⟨(2,(u,(eB,l))),c1,?_,⟨qqx hu' h1 (by omega) (fun s hs=>by have:=h3 s hs; omega),zero_le _,by show l.length<=8; omega,h3⟩,rfl,rfl,k⟩
    simp only [show ((2:Int)==1)=false from rfl,show ((2:Int)==2)=true from rfl,cT,cF]
    exact e
  · obtain ⟨P, c1, e, h, k⟩ := qhI u 4 0 [] c rfl hc FI.nil;refine ⟨(3,(u,(eB,zW P))),c1,?_,⟨qqw hu' (h.pos (by omega)) (by have:=h.len; omega) h.asc (fun s hs=>by have:=hf h s hs; omega),zero_le _,by have:=h.len; have:=q9G P; show (zW P).length<=8; omega,hf h⟩,rfl,rfl,k⟩
    simp only [show ((3:Int)==1)=false from rfl,show ((3:Int)==2)=false from rfl,cF]
    exact e
  · obtain ⟨P, c1, e, h, k⟩ := qid u 4 0 [] c rfl hc FI.nil;have hkl:(q4n P).length=P.length:=length_map ..;have hp:=h.pos (by omega)
    have hpl:=h.len;have hks:∀ s∈q4n P,s.size<=5:=fun s hs=>by
      obtain ⟨p,hp,rfl⟩:=mem_map.1 hs;exact of_decide_eq_true (all_eq_true.1 qiQ _ (List.mem_of_mem_take (h.nam p hp)))
    refine ⟨(4,(u,(eB,q4n P))),c1,?_,⟨qrP hu' (by omega) (by omega) ?_ (fun s hs=>by have:=hks s hs; omega),zero_le _,by show (q4n P).length<=8; omega,hks⟩,rfl,rfl,k⟩
    · simp only [show ((4 : Int) == 1) = false from rfl, show ((4 : Int) == 2) = false from rfl, cF]
      exact e
    · exact List.pairwise_map.2 h.asc
theorem qo9 {c:Cur} (hc:Cu c):∃ (v:DV) (c':Cur),q6X c=some (v,(c',()))/\(valB v=true/\Sv v)/\1<=v.1/\v.1<=4/\0<=v.2.1/\v.2.1<=40/\Cu c':=by
  obtain ⟨x,c1,e1,a1,b1,k1⟩:=q6j hc 4 (by omega) (by omega)
  obtain ⟨b,c2,e2,k2⟩:=qb1 k1 4 (by omega) (by omega)
  have w1:w64 (1+x)=1+x:=qo (by omega) (by omega)
  rw [qiq];simp only [e1,e2,oB,w1];cases b with
  | true=>
    obtain ⟨y,c3,e3,a3,b3,k3⟩:=q6j k2 40 (by omega) (by omega)
    have w3:w64 (1+y)=1+y:=qo (by omega) (by omega)
    obtain ⟨v,c',f1,f2,f3,f4,f5⟩:=qlE k3 (1+x) (1+y) (by omega) (by omega)
    simp only [cT,e3,oB,w3];exact ⟨v,c',f1,f2,by omega,by omega,by omega,by omega,f5⟩
  | false=>
    obtain ⟨v,c',f1,f2,f3,f4,f5⟩:=qlE k2 (1+x) 0 (by omega) (by omega)
    simp only [cF];exact ⟨v,c',f1,f2,by omega,by omega,by omega,by omega,f5⟩
theorem qsj {t:List DE} (h:t.length<=20) (ha:Asc t) (hk:∀ e∈t,1<=e.1.size/\e.1.size<=20/\valB e.2=true):tabB t=true:=by
  unfold tabB;rw [dYT h,Bool.true_and,all_eq_true];intro i hi;have hi:=List.mem_range.1 hi;unfold enB;have e:ge t i=t[i]:=wT hi;obtain ⟨k1,k2,k3⟩:=hk (ge t i) (by rw [e]; exact List.getElem_mem hi)
  rw [dYT k1,dYT k2,k3];by_cases h0:0 < i
  · have : blt (ge t (i - 1)).1 (ge t i).1 = true := by
      rw [e,show ge t (i - 1)=t[i - 1]'(by omega) from wT (by omega)]
      unfold Asc at ha;rw [List.pairwise_iff_getElem] at ha;exact ha (i - 1) i (by omega) hi (by omega)
    rw [this]; simp
  · rw [dYF h0]; rfl
structure TI (ks:List BA) (i:Nat) (t:List DE):Prop where
  asc:Asc t
  nam:∀ e∈t,e.1∈ks.take i
  val:∀ e∈t,(valB e.2=true/\Sv e.2)/\1<=e.2.1/\e.2.1<=4/\0<=e.2.2.1/\e.2.2.1<=40
  len:t.length<=i
theorem TI.add {ks:List BA} {i:Nat} {t:List DE} (h:TI ks i t) (hi:i < ks.length) (hlt:∀ s∈ks.take i,blt s (gi ks i)=true) {v:DV} (hv:(valB v=true/\Sv v)/\1<=v.1/\v.1<=4/\0<=v.2.1/\v.2.1<=40):TI ks (i+1) (t++[(gi ks i,v)]):=by
  refine ⟨?_,fun p hp=>?_,fun p hp=>?_,by have:=h.len; simp; omega⟩
  · unfold Asc;refine List.pairwise_append.2 ⟨h.asc,List.pairwise_singleton _ _,fun a ha b hb=>?_⟩
    rw [mem_singleton] at hb; subst hb;exact hlt _ (h.nam a ha)
  · rw [qa2 hi];rcases mem_append.1 hp with hp | hp
    · exact mem_append.2 (.inl (h.nam p hp))
    · rw [mem_singleton] at hp; subst hp;exact mem_append.2 (.inr (List.mem_singleton_self _))
  · rcases mem_append.1 hp with hp | hp
    · exact h.val p hp
    · rw [mem_singleton] at hp; subst hp; exact hv
theorem TI.skip {ks:List BA} {i:Nat} {t:List DE} (h:TI ks i t) (hi:i < ks.length):TI ks (i+1) t:=by
  refine ⟨h.asc,fun p hp=>?_,h.val,by have:=h.len; omega⟩
  rw [qa2 hi];exact mem_append.2 (.inl (h.nam p hp))
theorem TI.nil (ks:List BA):TI ks 0 []:=⟨List.Pairwise.nil,fun p h=>(by cases h),fun p h=>(by cases h),(by simp)⟩
structure Dt (t:List DE):Prop where
  tab:tabB t=true
  val:∀ e∈t,(valB e.2=true/\Sv e.2)/\1<=e.2.1/\e.2.1<=4/\0<=e.2.2.1/\e.2.2.1<=40
def q8q:List BA:=[c_a,c_b,c_c,c_d,qnc,c_kk]
theorem qoZ:((range 6).all fun i=>(q8q.take i).all fun s=>blt s (q8q.getD i eB))=true:=by decide +kernel
theorem qnT:(q8q.all fun s=>decide (1<=s.size)&&decide (s.size<=20))=true:=by decide +kernel
def kks:List BA:=(range 20).map fun j=>c_k++bOf [UInt8.ofNat (48+(10+j) / 10),UInt8.ofNat (48+(10+j) % 10)]
theorem qrk:((range 20).all fun i=>(kks.take i).all fun s=>blt s (kks.getD i eB))=true:=by decide +kernel
theorem qq4:(kks.all fun s=>decide (1<=s.size)&&decide (s.size<=20))=true:=by decide +kernel
theorem qqW (n:Nat) (h1:10<=n) (h2:n < 100):decB (n:Int)=bOf [UInt8.ofNat (48+n / 10),UInt8.ofNat (48+n % 10)]:=by
  rw [q6m,Lib.decDigits,dif_neg (by omega),Lib.decDigits,dif_pos (by omega)]
  rfl
theorem qsb {j:Nat} (h:j < 20):c_k++decB ((10+j:Nat):Int)=gi kks j:=by
  rw [qqW (10+j) (by omega) (by omega)]
  simp only [gi,List.getD_eq_getElem?_getD,kks];rw [List.getElem?_map,List.getElem?_range h];rfl
theorem TI.dt {ks:List BA} {i:Nat} {t:List DE} (h:TI ks i t) (hi:i<=20) (hs:(ks.all fun s=>decide (1<=s.size)&&decide (s.size<=20))=true):Dt t:=by
  refine ⟨qsj (by have:=h.len; omega) h.asc fun e he=>?_,h.val⟩
  have:=all_eq_true.1 hs _ (List.mem_of_mem_take (h.nam e he));simp only [and_eq_true,decide_eq_true_eq] at this;exact ⟨this.1,this.2,(h.val e he).1.1⟩
theorem qlt:∀ (m i:Nat) (t:List DE) (c:Cur),m+i=20->Cu c->TI kks i t->∃ (t':List DE) (c':Cur),q2B t (i:Int) c.1 c.2.1 c.2.2=some (t',(c',()))/\Dt t'/\Cu c'
  | m,i,t,c,hm,hc,h=>by
    obtain ⟨x,c1,e1,a1,b1,k1⟩:=q6j hc 2 (by omega) (by omega)
    have e1:zL (c.1,(c.2.1,c.2.2)) 2=some (x,(c1,())):=e1;have w1:w64 (20 - x)=20 - x:=qo (by omega) (by omega)
    have hlen:=h.len;rw [qcD];simp only [e1,oB,w1];by_cases hi:(i:Int) < 20 - x
    · match m, hm with
      | 0,hm=>omega
      | m+1,hm=>
        obtain ⟨v,c2,e2,hv,v1,v2,v3,v4,k2⟩:=qo9 k1;have w2:w64 (10+(i:Int))=((10+i:Nat):Int):=by rw [show w64 (10+(i:Int))=10+(i:Int) from qo (by omega) (by omega)]; omega
        have hd:=qcO ((10+i:Nat):Int) (by omega) (by omega)
        have hck:(c_k:BA).size=1:=rfl;have hls:limS ((c_k:BA).size+(decB ((10+i:Nat):Int)).size)=true:=qX (by omega)
        have ih:=qlt m (i+1) (t++[(gi kks i,v)]) c2 (by omega) k2 (h.add (show i < 20 by omega) (fun s hs=>all_eq_true.1 (all_eq_true.1 qrk i (List.mem_range.2 (by omega))) s hs) ⟨hv,v1,v2,v3,v4⟩)
        simp only [dYT hi,cT,w2,q5w ((10+i:Nat):Int) (by omega) (by omega),oB,hls,e2,qW (show (t.length+1) * 72<=140737488355328 by omega),show w64 ((i:Int)+1)=((i+1:Nat):Int) from ql (by omega),qsb (show i < 20 by omega)]
        exact ih
    · simp only [dYF hi, cF];exact ⟨t,c1,rfl,h.dt (by omega) qq4,k1⟩
theorem qfL:∀ (m i:Nat) (t:List DE) (c:Cur),m+i=6->Cu c->TI q8q i t->∃ (t':List DE) (c':Cur),q17 t q8q (i:Int) c.1 c.2.1 c.2.2=some (t',(c',()))/\Dt t'/\Cu c'
  | 0,i,t,c,hm,hc,h=>by
    obtain ⟨b,c1,e1,k1⟩:=qb1 hc 20 (by omega) (by omega)
    have e1:jd (c.1,(c.2.1,c.2.2)) 20=some (b,(c1,())):=e1;rw [q6h];simp only [show (q8q.length:Int)=6 from rfl,dYF (show ¬ (i:Int) < 6 by omega),cF,e1,oB]
    cases b with
    | true=>
      simp only [cT];exact qlt 20 0 [] c1 rfl k1 (TI.nil kks)
    | false=>
      simp only [cF];exact ⟨t,c1,rfl,h.dt (by omega) qnT,k1⟩
  | m+1,i,t,c,hm,hc,h=>by
    obtain ⟨b,c1,e1,k1⟩:=qb1 hc 3 (by omega) (by omega)
    have e1:jd (c.1,(c.2.1,c.2.2)) 3=some (b,(c1,())):=e1;have hlen:=h.len;rw [q6h];simp only [show (q8q.length:Int)=6 from rfl,dYT (show (i:Int) < 6 by omega),cT,e1,oB,dYT (show (0:Int)<=(i:Int) by omega),aS,tN,show w64 ((i:Int)+1)=((i+1:Nat):Int) from ql (by omega)]
    cases b with
    | true=>
      simp only [nT,cF];exact qfL m (i+1) t c1 (by omega) k1 (h.skip (show i < 6 by omega))
    | false=>
      obtain ⟨v,c2,e2,hv,v1,v2,v3,v4,k2⟩:=qo9 k1;have ih:=qfL m (i+1) (t++[(gi q8q i,v)]) c2 (by omega) k2 (h.add (show i < 6 by omega) (fun s hs=>all_eq_true.1 (all_eq_true.1 qoZ i (List.mem_range.2 (by omega))) s hs) ⟨hv,v1,v2,v3,v4⟩)
      simp only [nF,cT,e2,oB,qW (show (t.length+1) * 72<=140737488355328 by omega)]
      exact ih
theorem qjW {c:Cur} (hc:Cu c):∃ (t:List DE) (c':Cur),q4q c=some (t,(c',()))/\Dt t/\Cu c':=by
  rw [qfK];exact qfL 6 0 [] c rfl hc (TI.nil q8q)
theorem qjp (code:List Int) (hl:code.length<=1048576):∃ a b:List DE,q5I code=some ((a,b),())/\Dt a/\Dt b:=by
  obtain ⟨c,e,k⟩:=qsf code hl;obtain ⟨a,c1,e1,h1,k1⟩:=qjW k;obtain ⟨b,c2,e2,h2,_⟩:=qjW k1;rw [qdB,e];simp only [oB,e1,e2];exact ⟨a,b,rfl,h1,h2⟩
end Go.Den.S
namespace Go.Den.S
open Go Go.Den
open Classical
set_option maxRecDepth 4000
theorem qpM {β:Type} {l:List (BA×β)} (h:AscK l) (k:BA) (v:β):delK k (putK k v l)=delK k l:=by
 refine q2k (q4t (q1H h k v) _) (q4t h _) fun x=>?_
 rw [q2r,jX,q2r];constructor
 ·rintro ⟨rfl | h,n⟩
  ·exact absurd rfl n
  ·exact h
 ·intro h; exact ⟨.inr h,h.2⟩
theorem qjf {d:List Fil} (h:AscK d) (k:BA) (v:BA×Int):zO (putK k v d)=zO (delK k d)+v.1.size:=by
 have h1:=qdy (q1H h k v) (jX.2 (.inl rfl):(k,v)∈putK k v d);rw [qpM h] at h1;exact h1.symm
theorem qbR (k:BA):∀ d:List Fil,zO (delK k d)<=zO d
 | []=>le_refl _
 | f::d=>by
  have ih:=qbR k d;unfold delK at ih ⊢;rw [filter_cons];split
  ·rw [q1C,q1C]; omega
  ·rw [q1C]; omega
theorem qrx {e:Eng} (h:eOkP e) {cs:List Chg} (hb:batT (e.2.2.2.1+1,cs)=true) (hlen:e.1.length<=29) (hlast:(segN e.1).getLastD 0+1 < 100) (hroom:(zO e.1:Int)+((batL (e.2.2.2.1+1,cs)).length:Int)+8<=e.2.1):(puO e cs).2.2=0:=by
 obtain ⟨r1,r2,C,_,hq,_⟩:=q46 h;have hbl:=q6i hb;unfold puO;rw [dif_pos ⟨h,hb⟩];obtain ⟨t1,t2⟩:=C.txt (q6D C.ne);unfold putA;by_cases hs:(txtD e.1 ((segN e.1).getLastD 0)).size < 300
 ·rw [if_pos hs,q9W];obtain ⟨o1,o2,b1,b2⟩:=q9T C (b:=(e.2.2.2.1+1,cs)) t1 (by omega)
  have hall:=wK b1 (wK b2 (q4s _));unfold allA at hall;have hsz:=qjf C.asc (nmL ((segN e.1).getLastD 0)) (bOf (bl (txtD e.1 ((segN e.1).getLastD 0))++batL (e.2.2.2.1+1,cs)),((bOf (bl (txtD e.1 ((segN e.1).getLastD 0))++batL (e.2.2.2.1+1,cs))).size:Int));have hd:=qbR (nmL ((segN e.1).getLastD 0)) e.1;have hdd:=qdy C.asc ((yO C.asc).1 t1);have hx:(bOf (bl (txtD e.1 ((segN e.1).getLastD 0))++batL (e.2.2.2.1+1,cs))).size=(txtD e.1 ((segN e.1).getLastD 0)).size+(batL (e.2.2.2.1+1,cs)).length:=by
   rw [qz,lA,<- yj]
  simp only at hsz hdd;have hc:(decide ((y9 e.1 [adA (nmL ((segN e.1).getLastD 0)) (bOf (batL (e.2.2.2.1+1,cs))),kpA (nmL ((segN e.1).getLastD 0))]).2 < [adA (nmL ((segN e.1).getLastD 0)) (bOf (batL (e.2.2.2.1+1,cs))),kpA (nmL ((segN e.1).getLastD 0))].length)||decide ((zO (y9 e.1 [adA (nmL ((segN e.1).getLastD 0)) (bOf (batL (e.2.2.2.1+1,cs))),kpA (nmL ((segN e.1).getLastD 0))]).1:Int) > e.2.1))=false:=by
   rw [hall,Bool.or_eq_false_iff];exact ⟨dYF (Nat.lt_irrefl _),dYF (by simp only; omega)⟩
  rw [hc]; rfl
 ·rw [if_neg hs,if_pos hlast,q9W];have hh:=q9H (n:=(segN e.1).getLastD 0+1) (f:=(segN e.1).headD 0) hlast (by
   cases hl:segN e.1 with
   | nil=>exact absurd hl C.ne
   | cons a l=>exact (C.mem.1 (by rw [hl]; exact mem_cons_self ..)).1)
  have hT:(qL ((segN e.1).getLastD 0+1) ((segN e.1).headD 0)++batL (e.2.2.2.1+1,cs)).length=8+(batL (e.2.2.2.1+1,cs)).length:=by rw [lA,hh]
  obtain ⟨_,_,_,b1,b2,b3⟩:=qdn C hlen (T:=qL ((segN e.1).getLastD 0+1) ((segN e.1).headD 0)++batL (e.2.2.2.1+1,cs)) (by omega) ((segN e.1).getLastD 0+1)
  have hall:=wK b1 (wK b2 (wK b3 (q4s _)));unfold allA at hall;have hsz:=qjf C.asc (nmL ((segN e.1).getLastD 0+1)) (bOf (qL ((segN e.1).getLastD 0+1) ((segN e.1).headD 0)++batL (e.2.2.2.1+1,cs)),((bOf (qL ((segN e.1).getLastD 0+1) ((segN e.1).headD 0)++batL (e.2.2.2.1+1,cs))).size:Int));have hd:=qbR (nmL ((segN e.1).getLastD 0+1)) e.1;have hx:(bOf (qL ((segN e.1).getLastD 0+1) ((segN e.1).headD 0)++batL (e.2.2.2.1+1,cs))).size=8+(batL (e.2.2.2.1+1,cs)).length:=by rw [qz,hT]
  simp only at hsz;have hc:(decide ((y9 e.1 [adA yu (bOf (qL ((segN e.1).getLastD 0+1) ((segN e.1).headD 0)++batL (e.2.2.2.1+1,cs))),kpA yu,mvA yu (nmL ((segN e.1).getLastD 0+1))]).2 < [adA yu (bOf (qL ((segN e.1).getLastD 0+1) ((segN e.1).headD 0)++batL (e.2.2.2.1+1,cs))),kpA yu,mvA yu (nmL ((segN e.1).getLastD 0+1))].length)||decide ((zO (y9 e.1 [adA yu (bOf (qL ((segN e.1).getLastD 0+1) ((segN e.1).headD 0)++batL (e.2.2.2.1+1,cs))),kpA yu,mvA yu (nmL ((segN e.1).getLastD 0+1))]).1:Int) > e.2.1))=false:=by
   rw [hall,Bool.or_eq_false_iff];exact ⟨dYF (Nat.lt_irrefl _),dYF (by simp only; omega)⟩
  rw [hc]; rfl
theorem qli (a b:List BA) (ha:a.length<=1000000000):q6E a b=some (decide (a=b),()):=by
 rw [qex];by_cases hl:a.length=b.length
 ·have e:((a.length:Int) != (b.length:Int))=false:=by simp [hl]
  simp only [e,cF];refine qaH (fun i=>q1U a b i) a b eB hl (fun i hi=>?_) ?_
  ·rw [q5o];have e:w64 ((i:Int)+1)=(i:Int)+1:=qo (by omega) (by omega)
   have h1:decide ((i:Int) < (a.length:Int))=true:=dYT (by omega)
   have h2:decide ((i:Int) < (b.length:Int))=true:=dYT (by omega)
   have h3:decide (0<=(i:Int))=true:=dYT (by omega)
   simp only [h1,h2,h3,e,aS,cT,tN,y5];by_cases h:a.getD i eB=b.getD i eB<;>simp only [h,decide_true,decide_false,nT,nF,cT,cF,if_true,if_false]
  ·rw [q5o];simp
 ·have e:((a.length:Int) != (b.length:Int))=true:=by simp; omega
  simp only [e,cT];have:a≠b:=fun h=>hl (by rw [h])
  simp [this]
theorem qo3 (a b:DV) (ha:a.2.2.2.length<=1000000000):q8X a b=some (decide (a=b),()):=by
 rw [qgO,qli _ _ ha];obtain ⟨a1,a2,a3,a4⟩:=a;obtain ⟨b1,b2,b3,b4⟩:=b;simp only [oB,y5,Prod.mk.injEq];simp only [q2Q];by_cases h1:a1=b1<;>by_cases h2:a2=b2<;>by_cases h3:a3=b3<;>by_cases h4:a4=b4<;>simp [h1,h2,h3,h4]
theorem qdu (a b:List DE) (ha:a.length<=1000000000) (hi:∀ e∈a,e.2.2.2.2.length<=1000000000):zn a b=some (decide (a=b),()):=by
 rw [qew];by_cases hl:a.length=b.length
 ·have e:((a.length:Int) != (b.length:Int))=false:=by simp [hl]
  simp only [e,cF];refine qaH (fun i=>q1T a b i) a b dflt hl (fun i hi'=>?_) ?_
  ·rw [q5n];have e:w64 ((i:Int)+1)=(i:Int)+1:=qo (by omega) (by omega)
   have h1:decide ((i:Int) < (a.length:Int))=true:=dYT (by omega)
   have h2:decide ((i:Int) < (b.length:Int))=true:=dYT (by omega)
   have h3:decide (0<=(i:Int))=true:=dYT (by omega)
   have hm:=hi _ (q1K (d:=dflt) hi');simp only [h1,h2,h3,e,aS,cT,tN,y5,qo3 (a.getD i dflt).2 (b.getD i dflt).2 hm,oB];generalize a.getD i dflt=x;generalize b.getD i dflt=y;obtain ⟨x1,x2⟩:=x;obtain ⟨y1,y2⟩:=y;simp only [Prod.mk.injEq];by_cases hx:x1=y1<;>by_cases hy:x2=y2<;>simp [hx,hy]
  ·rw [q5n];simp
 ·have e:((a.length:Int) != (b.length:Int))=true:=by simp; omega
  simp only [e,cT];have:a≠b:=fun h=>hl (by rw [h])
  simp [this]
theorem qpS {l:List BA} (h:∀ s∈l,s.size<=5):(l.flatMap shL).length<=10 * l.length:=by
 induction l with
 | nil=>exact le_refl _
 | cons a r ih=>
  have h1:=q0f a (by have:=h a (mem_cons_self ..); omega)
  have h2:=h a (mem_cons_self ..);have h3:=ih fun s hs=>h s (mem_cons_of_mem _ hs)
  rw [List.flatMap_cons,lA,length_cons]; omega
theorem qrN {v:DV} (hv:valB v=true) (h:Sv v):(vTL v).length<=101:=by
 have V:=q3T hv;obtain ⟨h1,h2,h3⟩:=h;have l1:=wB (n:=v.2.1.toNat) (by have:=V.u1; omega)
 have l2:=wB (n:=v.2.2.2.length) (by omega)
 have l3:=q0f v.2.2.1 (by omega)
 have l4:=qpS h3;unfold vTL;simp only [length_cons,lA]; omega
structure Sm (t:List DE):Prop where
 tab:tabB t=true
 val:∀ e∈t,Sv e.2
theorem Dt.sm {t:List DE} (h:Dt t):Sm t:=⟨h.tab,fun e he=>(h.val e he).1.2⟩
theorem qgW:Sm []:=⟨rfl,fun e h=>by cases h⟩
theorem qoq {a b:List DE} (ha:Sm a) (hb:Sm b) {c:Chg} (h:DifP a b c):q3w c=true/\(chL c).length<=132:=by
 have key:∀ {k v:BA} {g:Bool},k.size<=20->v.size<=101->(chL (k,(v,g))).length<=132:=fun {k v g} h1 h2=>by
  have l1:=q0f k (by omega)
  have l2:=q0f v (by omega)
  unfold chL;simp only [lA,length_cons]; omega
 rcases h with ⟨h1,⟨e,h2,h3⟩,_⟩ | ⟨e,h1,h2,_⟩
 ·obtain ⟨_,s1,s2⟩:=q8C ha.tab e h2;have hc:c=(e.1,(eB,true)):=Prod.ext h3.symm h1;rw [hc];exact ⟨q72.2 ⟨s1,s2,zero_le _,fun _=>rfl⟩,key s2 (zero_le _)⟩
 ·obtain ⟨hv,s1,s2⟩:=q8C hb.tab e h1;have hl:=qrN hv (hb.val e h1);rw [h2];unfold putE;exact ⟨q72.2 ⟨s1,s2,by show (bOf (vTL e.2)).size<=2000; rw [qz]; omega,fun h=>by cases h⟩,key s2 (by rw [qz]; exact hl)⟩
theorem qbq (a b:List DE):(difL a b).length<=a.length+b.length:=by
 fun_induction difL a b with
 | case1 b=>rw [length_map]; omega
 | case2 x a=>rw [length_map]; simp
 | case3 x a y b h ih=>simp only [length_cons] at ih ⊢; omega
 | case4 x a y b h0 h ih=>simp only [length_cons] at ih ⊢; omega
 | case5 x a y b h0 h1 h ih=>simp only [length_cons] at ih ⊢; omega
 | case6 x a y b h0 h1 h ih=>simp only [length_cons] at ih ⊢; omega
theorem qr0 {a b:List DE} (ha:Sm a) (hb:Sm b) {q:Int} (h0:0<=q) (h1:q<=1000) (hne:difL a b≠[]):batT (q,difL a b)=true:=by
 have D:=q5m a b (q0P ha.tab) (q0P hb.tab);have hl:=qbq a b;have l1:=(jA ha.tab).1;have l2:=(jA hb.tab).1;have hpos:1<=(difL a b).length:=by
  cases h:difL a b with
  | nil=>exact absurd h hne
  | cons x r=>simp
 have hok:q06 (q,difL a b)=true:=q00.2 ⟨h0,by show q<=_; omega,hpos,by show (difL a b).length<=40; omega,fun c hc=>(qoq ha hb ((D.mem c).1 hc)).1,qbj.2 D.asc⟩
 rw [qf2 hok];refine dYT ?_;have hf:=qr8 (cs:=difL a b) (b:=132) fun c hc=>(qoq ha hb ((D.mem c).1 hc)).2
 have v1:=wB (n:=q.toNat) (by omega)
 have v2:=wB (n:=(difL a b).length) (by omega)
 unfold bTL;simp only [length_cons,lA];omega
structure Fx (e:Eng) (t:List DE):Prop where
 ok:eOkP e
 con:conD e.1 (segN e.1)=t.map kvE
 len:e.1.length<=29
theorem qoO:∀ {t:List DE},(∀ e∈t,valB e.2=true)->goT (chgs (t.map kvE))=some t
 | [],_=>rfl
 | e::t,h=>by
  have h1:q5q (bOf (vTL e.2))=some e.2:=q9U.2 ⟨h e (mem_cons_self ..),rfl⟩;have ih:=qoO fun x hx=>h x (mem_cons_of_mem _ hx)
  rw [map_cons,qoi];unfold goT;show ((q5q (bOf (vTL e.2))).bind fun v=>(goT (chgs (t.map kvE))).map ((e.1,v)::·))=_
  rw [h1,ih]; rfl
theorem Fx.tabO {e:Eng} {t:List DE} (h:Fx e t) (ht:tabB t=true):j6 e=some ((t,true),()):=by
 have hc:=qqS h.ok;rw [h.con] at hc;have hd:e.2.2.2.2.length<=2000000:=by
  have h1:=congrArg (fun x=>x.1.length) hc
  unfold coO at h1;rw [if_pos h.ok] at h1;simp only at h1;rw [qke,qpD,length_map] at h1;have:=(jA ht).1;omega
 rw [qgv e (by have:=h.len; omega) hd]
 unfold toO;rw [hc];show some ((finT [] (goT (chgs (t.map kvE)))),())=_;rw [qoO fun x hx=>(q8C ht x hx).1]
 simp only [finT,nil_append,ht,cT]
theorem Fx.put {e:Eng} {a b:List DE} (h:Fx e a) (ha:Sm a) (hb:Sm b) (h0:(puO e (difL a b)).2.2=0):eOkP (puO e (difL a b)).1/\conD (puO e (difL a b)).1.1 (segN (puO e (difL a b)).1.1)=b.map kvE/\(puO e (difL a b)).1.1.length<=e.1.length+1:=by
 obtain ⟨xs,x,l',hbt,hp,hx,hs,C',hall,he⟩:=qi5 h.ok h0;obtain ⟨r1,r2,C,_,hq,_⟩:=q46 h.ok;have hlen:=ql7 C hp hx;rw [he];refine ⟨q6q.2 ⟨r1,r2,l',C',rfl⟩,?_,hlen⟩;show conD x (segN x)=_;rw [qbo C',qf6,hall,qqa,qqg,<- qf6,h.con];have e1:opsB [(e.2.2.2.1+1,difL a b)]=(difL a b).map opsC:=by simp [opsB]
 rw [e1];exact qpO (q0P ha.tab) (q0P hb.tab) (q5m a b (q0P ha.tab) (q0P hb.tab))
theorem qop (a:List DE) (ha:AscK a):difL a a=[]:=
  qgJ (q5m a a ha ha) ⟨List.Pairwise.nil,fun c=>⟨fun h=>absurd h List.not_mem_nil,fun h=>by
    rcases h with ⟨_,⟨e,h1,h2⟩,h3⟩ | ⟨e,h1,_,h3⟩
    · exact absurd h2 (h3 e h1)
    · exact absurd h1 h3⟩⟩
theorem qmf {a b:List DE} (ha:AscK a) (hb:AscK b) (h:difL a b=[]):a=b:=by
  have D:=q5m a b ha hb;have hn:∀ c,¬ DifP a b c:=fun c hc=>by
    have:=(D.mem c).2 hc;rw [h] at this; exact absurd this List.not_mem_nil
  have hba:∀ e∈b,e∈a:=fun e he=>Classical.byContradiction fun q=>hn _ (.inr ⟨e,he,rfl,q⟩)
  refine q2k ha hb fun e=>⟨fun he=>?_,hba e⟩
  by_cases hk:∃ z∈b,z.1=e.1
  · obtain ⟨z, hz, q⟩ := hk;rw [<- q70 ha (hba z hz) he q]; exact hz
  · exact absurd (.inl ⟨rfl,⟨e,he,rfl⟩,fun z hz q=>hk ⟨z,hz,q⟩⟩) (hn (q4k e))
theorem qmH {e:Eng} (h:eOkP e) {v:BA×Int} (hd:e.1=[(nmL 0,v)]):(segN e.1).getLastD 0=0:=by
  obtain ⟨_,_,C,_⟩:=q46 h;obtain ⟨h1,h2,_⟩:=C.mem.1 (q6D C.ne);unfold hasN at h2;obtain ⟨w,hw⟩:=Option.isSome_iff_exists.1 h2;have hm:=(yO C.asc).1 hw;rw [hd] at hm;have:=(Prod.mk.inj (mem_singleton.1 hm)).1;rw [hd];rw [hd] at h1;exact q4S h1 (by omega) this
theorem qry {e:Eng} (h:eOkP e) {v:BA×Int} (hd:e.1=[(nmL 0,v)]) (hv:v.1.size < 300) {cs:List Chg} (h0:(puO e cs).2.2=0):∃ w,(puO e cs).1.1=[(nmL 0,w)]/\w.1.size<=v.1.size+9009/\(puO e cs).1.2.1=e.2.1/\(puO e cs).1.2.2.2.1=e.2.2.2.1+1:=by
  obtain ⟨xs,x,l',hbt,hp,hx,hs,C',hall,he⟩:=qi5 h h0;obtain ⟨r1,r2,C,_,hq,_⟩:=q46 h;have hlast:=qmH h hd;obtain ⟨t1,t2⟩:=C.txt (q6D C.ne);have hbl:=q6i hbt;rw [hlast] at t1;have hg:getK (nmL 0) e.1=some v:=by rw [hd]; simp [getK]
  have htx:txtD e.1 0=v.1:=by
    rw [hg] at t1;rw [Option.some.inj t1]
  unfold putA at hp;rw [hlast,if_pos (by rw [htx]; exact hv)] at hp
  have hp:=(Option.some.inj hp).symm;rw [hp] at hx;obtain ⟨_,_,b1,b2⟩:=q9T C (b:=(e.2.2.2.1+1,cs)) (t:=txtD e.1 0) (by rw [hlast]; exact t1) (by rw [htx]; omega)
  rw [hlast] at b1 b2;have hx':=q8E hx (wK b1 (wK b2 (q4s _)));rw [he];refine ⟨(bOf (bl (txtD e.1 0)++batL (e.2.2.2.1+1,cs)),((bOf (bl (txtD e.1 0)++batL (e.2.2.2.1+1,cs))).size:Int)),?_,?_,rfl,?_⟩
  · show x = _;rw [hx',hd];simp [putK,q0v]
  · show (bOf (bl (txtD e.1 0) ++ batL (e.2.2.2.1 + 1, cs))).size <= _;rw [qz,lA,<- yj,htx]; omega
  · show q1w (allB x l') = _;rw [hall,qgN]
structure On (e:Eng):Prop where
  one:∃ v,e.1=[(nmL 0,v)]/\v.1.size<=9017
  room:e.2.1=20000
  s0:0<=e.2.2.2.1
  s1:e.2.2.2.1<=1
theorem qnl:On (fmE 20000):=⟨⟨_,rfl,by show (bOf (qL 0 0)).size<=_; rw [qgd]; omega⟩,rfl,Int.le_refl _,by show (0:Int)<=1; omega⟩
theorem qdX:Fx (fmE 20000) [] where
  ok:=(qpT (by omega) (by omega)).ok
  con:=by
    obtain ⟨C,ha⟩:=qko;show conD [(nmL 0,(bOf (qL 0 0),((bOf (qL 0 0)).size:Int)))] (segN [(nmL 0,(bOf (qL 0 0),((bOf (qL 0 0)).size:Int)))])=[];rw [qbo C,qf6,ha]; rfl
  len:=by show [_].length<=29; simp
theorem On.can {e:Eng} {a b:List DE} (O:On e) (F:Fx e a) (ha:Sm a) (hb:Sm b) (hne:difL a b≠[]):(puO e (difL a b)).2.2=0:=by
  obtain ⟨v,hd,hv⟩:=O.one;have s0:=O.s0;have s1:=O.s1;have hbt:=qr0 ha hb (q:=e.2.2.2.1+1) (by omega) (by omega) hne
  have hbl:=q6i hbt;refine qrx F.ok hbt F.len (by rw [qmH F.ok hd]; omega) ?_
  rw [O.room,hd,q1C];have:zO []=0:=rfl;simp only [this]; omega
theorem qpU {a:List DE} (A:Sm a) (hne:difL [] a≠[]):Fx (puO (fmE 20000) (difL [] a)).1 a/\On (puO (fmE 20000) (difL [] a)).1:=by
  have h0:=qnl.can qdX qgW A hne;obtain ⟨h1,h2,h3⟩:=qdX.put qgW A h0;obtain ⟨w,w1,w2,w3,w4⟩:=qry qdX.ok (v:=(bOf (qL 0 0),((bOf (qL 0 0)).size:Int))) rfl (by show (bOf (qL 0 0)).size < 300; rw [qgd]; omega) h0
  have hs:(bOf (qL 0 0)).size=8:=qgd;simp only [hs] at w2;have z:(fmE 20000).2.2.2.1=0:=rfl;rw [z] at w4;refine ⟨⟨h1,h2,by rw [w1]; simp⟩,⟨⟨w,w1,by omega⟩,w3,by rw [w4]; omega,by rw [w4]; omega⟩⟩
theorem qlm {e:Eng} {a b:List DE} (O:On e) (F:Fx e a) (A:Sm a) (B:Sm b) :
    (bif (decide ((length (difL a b):Int) > 0)) then (q1i e (difL a b)).bind fun r15=>bif (r15.1.2.2 != 0) then some (false,()) else (j6 r15.1.1).bind fun r16=>bif r16.1.2 then (zn r16.1.1 b).bind fun r17=>some (r17.1,()) else some (false,())
     else bif true then (zn a b).bind fun r16=>some (r16.1,()) else some (false,()))=some (true,()):=by
  have hb:=jA B.tab;have hsame:=qdu b b (by omega) fun x hx=>by have:=hb.2 x hx; omega
  by_cases hn:difL a b=[]
  · have hab := qmf (q0P A.tab) (q0P B.tab) hn;rw [hn,hab];simp only [length_nil,show decide (((0:Nat):Int) > 0)=false from rfl,cF,oB,cT,hsame,decide_true]
  · have hpos : decide ((length (difL a b) : Int) > 0) = true := by
      have:1<=(difL a b).length:=by
        cases h:difL a b with
        | nil=>exact absurd h hn
        | cons x r=>simp
      exact dYT (by omega)
    have h0:=O.can F A B hn;obtain ⟨h1,h2,h3⟩:=F.put A B h0;obtain ⟨v,hd,_⟩:=O.one;have hl1:e.1.length=1:=by rw [hd]; rfl
    have F2:Fx (puO e (difL a b)).1 b:=⟨h1,h2,by omega⟩
    have hdl:=qbq a b;have l1:=(jA A.tab).1;have hnz:((0:Int) != 0)=false:=rfl;simp only [hpos,cT,q9a e (by omega) (difL a b) (by omega),oB,h0,hnz,cF,F2.tabO B.tab,hsame,decide_true]
theorem qlQ (code:List Int):qaU code=some (true,()):=by
  rw [qev,qrX,oB];by_cases hL:(code.length:Int) > 1048576
  · simp only [dYT hL,cT]
  simp only [dYF hL,cF];obtain ⟨a,b,hdr,Ha,Hb⟩:=qjp code (by omega)
  have A:=Ha.sm;have B:=Hb.sm;have ha:=jA A.tab;have hb:=jA B.tab;have hdl:=qbq a b;have hsame:=qdu a a (by omega) fun x hx=>by have:=ha.2 x hx; omega
  have hz:(((0:Nat):Int) != 0)=false:=rfl;have hnz:((0:Int) != 0)=false:=rfl;simp only [hdr,oB,qoB (show (100:Int)<=20000 by omega) (Int.le_refl _),q6x [] a qgW.tab A.tab,q6x a b A.tab B.tab,q6x a a A.tab A.tab,qop a (q0P A.tab),length_nil,hz,cF,q31 a (q9l A.tab),A.tab,nT,qig a b A.tab B.tab,qic (difL a b) (difL a b) (by omega),decide_true]
  by_cases hn:difL [] a=[]
  · have hea : [] = a := qmf List.Pairwise.nil (q0P A.tab) hn;subst hea;have h1:decide ((length (difL [] ([]:List DE)):Int) > 0)=false:=by rw [hn]; rfl
    simp only [h1,cF,qdX.tabO rfl,oB,nT,hsame,decide_true];exact qlm qnl qdX A B
  · have hpos : decide ((length (difL [] a) : Int) > 0) = true := by
      have:1<=(difL [] a).length:=by
        cases h:difL [] a with
        | nil=>exact absurd h hn
        | cons x r=>simp
      exact dYT (by omega)
    have h0:=qnl.can qdX qgW A hn;obtain ⟨F1,O1⟩:=qpU A hn;have hdl1:=qbq [] a;simp only [hpos,cT,q9a (fmE 20000) (by show [_].length<=_; simp) (difL [] a) (by simp only [length_nil] at hdl1; omega),oB,h0,hnz,cF,F1.tabO A.tab,nT,hsame,decide_true]
    exact qlm O1 F1 A B
end Go.Den.S
