/- EhQ: equations of the functions of this seat as the executor tells them, or plain facts about them. Conditions: none here. -/
import Derived.Test.YthejgmhimclmdaaGreatDoorEhK
set_option linter.all false
open Bool (and_eq_true false_eq_true not_eq_true)
open Int (toNat)
open List (append_nil drop_eq_getElem_cons drop_eq_nil_iff drop_zero filter_cons filter_nil find?_cons length length_cons length_drop length_filter_le length_map length_pos_iff map_cons map_nil mem_append mem_cons mem_cons_of_mem mem_cons_self mem_map mem_singleton nil_append nodup_cons singleton_append)
open Nat (le_refl le_trans zero_add zero_le)
open Option (map_eq_some_iff)
namespace Go.Den.S
open Go Go.Den
set_option maxRecDepth 4000
section
variable {α:Type}
theorem qmu (s:BA) (d:α):∀ m:List (BA×α),getM s d m=(getK s m).getD d
 | []=>rfl
 | e::r=>by
  unfold getM getK;rw [y5,find?_cons];by_cases h:s=e.1
  ·rw [dYT h,cT,dYT h.symm]; rfl
  ·rw [dYF h,cF,dYF (fun x=>h x.symm),qmu s d r]; rfl
theorem qkq (s k:BA) (x:α):∀ m:List (BA×α),getK k (setM s x m)=if k=s then some x else getK k m
 | []=>by
  unfold setM getK;rw [find?_cons];by_cases h:k=s
  ·rw [if_pos h,dYT h.symm]; rfl
  ·rw [if_neg h,dYF (fun e=>h e.symm)]
   first | done | rfl
 | e::r=>by
  unfold setM;rw [y5];by_cases h:s=e.1
  ·rw [dYT h,cT];unfold getK;rw [find?_cons,find?_cons];by_cases hk:k=s
   ·rw [if_pos hk,dYT hk.symm]; rfl
   ·rw [if_neg hk,dYF (fun e=>hk e.symm),dYF (fun e'=>hk (by rw [h]; exact e'.symm))]
  ·rw [dYF h,cF];have ih:=qkq s k x r;unfold getK at ih ⊢;rw [find?_cons,find?_cons];by_cases hk:e.1=k
   ·rw [dYT hk,if_neg (fun e'=>h (by rw [<- e',<- hk]))]
   ·rw [dYF hk]; exact ih
theorem qiZ (s:BA) (x:α):∀ m:List (BA×α),(wu m).Nodup->(wu (setM s x m)).Nodup/\∀ k,k∈wu (setM s x m)->k=s\/k∈wu m
 | [],_=>by
  unfold setM wu;exact ⟨by simp,fun k hk=>.inl (by simpa using hk)⟩
 | e::r,h=>by
  unfold wu at h;rw [map_cons,nodup_cons] at h;unfold setM;rw [y5];by_cases hs:s=e.1
  ·rw [dYT hs,cT];unfold wu;rw [map_cons,map_cons];refine ⟨nodup_cons.2 ⟨by rw [hs]; exact h.1,h.2⟩,fun k hk=>?_⟩
   rcases mem_cons.1 hk with hk | hk
   ·exact .inl hk
   ·exact .inr (mem_cons_of_mem _ hk)
  ·rw [dYF hs,cF];obtain ⟨h1,h2⟩:=qiZ s x r h.2;unfold wu at h1 h2 ⊢;rw [map_cons,map_cons];refine ⟨nodup_cons.2 ⟨fun hm=>?_,h1⟩,fun k hk=>?_⟩
   ·rcases h2 _ hm with e' | e'
    ·exact hs e'.symm
    ·exact h.1 e'
   ·rcases mem_cons.1 hk with hk | hk
    ·exact .inr (by rw [hk]; exact mem_cons_self ..)
    ·exact (h2 k hk).imp id (mem_cons_of_mem _)
theorem qhF (s:BA):∀ m:List (BA×α),(wu m).Nodup->delM s m=delK s m
 | [],_=>rfl
 | e::r,h=>by
  unfold wu at h;rw [map_cons,nodup_cons] at h;unfold delM delK;rw [y5,filter_cons];by_cases hs:s=e.1
  ·rw [dYT hs,cT,if_neg (fun x=>(of_decide_eq_true x:e.1≠s) hs.symm)]
   refine (List.filter_eq_self.2 fun x hx=>?_).symm
   refine dYT fun ex=>h.1 ?_
   rw [<- hs,<- ex];exact mem_map.2 ⟨x,hx,rfl⟩
  ·rw [dYF hs,cF,if_pos (show decide (e.1≠s)=true from dYT (fun e':e.1=s=>hs e'.symm)),qhF s r h.2]; rfl
theorem qpW (s k:BA) (m:List (BA×α)):getK k (delK s m)=if k=s then none else getK k m:=by
 unfold delK;induction m with
 | nil=>unfold getK; split<;>rfl
 | cons e r ih=>
  rw [filter_cons];by_cases hs:e.1=s
  ·rw [if_neg (fun x=>(of_decide_eq_true x:e.1≠s) hs),ih]
   by_cases hk:k=s
   ·rw [if_pos hk,if_pos hk]
   ·rw [if_neg hk,if_neg hk];unfold getK;rw [find?_cons,dYF (fun x=>hk (by rw [<- x,hs]))]
  ·rw [if_pos (dYT hs)];unfold getK at ih ⊢;rw [find?_cons,find?_cons];by_cases hk:e.1=k
   ·rw [dYT hk,if_neg (fun x=>hs (by rw [hk,x]))]
   ·rw [dYF hk]; exact ih
theorem qj5 {m:List (BA×α)} {k:BA}:k∈wu m↔∃ v,getK k m=some v:=by
 unfold wu;constructor
 ·intro h;cases hg:getK k m with
  | some v=>exact ⟨v,rfl⟩
  | none=>
   obtain ⟨x,hx,e⟩:=mem_map.1 h;exact absurd e (zq.1 hg x hx)
 ·rintro ⟨v,hv⟩
  unfold getK at hv;obtain ⟨x,hx,rfl⟩:=map_eq_some_iff.1 hv;exact mem_map.2 ⟨x,List.mem_of_find?_eq_some hx,of_decide_eq_true (List.find?_some (p:=fun x:BA×α=>decide (x.1=k)) hx)⟩
end
theorem qmC:∀ x y:List UInt8,x < y↔zH x y=true
 | _,[]=>by simp [zH]
 | [],b::y=>by simp [zH]
 | a::x,b::y=>by
  rw [List.cons_lt_cons_iff,qmC x y];simp only [zH,Bool.or_eq_true,and_eq_true,decide_eq_true_eq,beq_iff_eq]
theorem qrl (x y:List UInt8):x<=y↔zH y x=false:=by
 rw [<- List.not_lt,qmC,not_eq_true]
theorem qql (l:List BA) (h:l.Nodup):(zQ l).Pairwise (fun a b=>blt a b=true)/\∀ k,k∈zQ l↔k∈l:=by
 rw [qbS];have hp:=List.mergeSort_perm (l.map fun s=>s.data.toList) (fun x y=>decide (x<=y))
 have hs:=List.pairwise_mergeSort (le:=fun x y:List UInt8=>decide (x<=y)) (fun a b c h1 h2=>by
  simp only [decide_eq_true_eq] at h1 h2 ⊢; exact List.le_trans h1 h2) (fun a b=>by
  simp only [Bool.or_eq_true,decide_eq_true_eq]; exact List.le_total a b) (l.map fun s=>s.data.toList)
 have hnd:(l.map fun s=>s.data.toList).Nodup:=by
  unfold List.Nodup;rw [List.pairwise_map];exact h.imp fun hab e=>hab (q2c e)
 have hnd2:=hp.nodup_iff.2 hnd;refine ⟨?_,fun k=>?_⟩
 ·rw [List.pairwise_map];refine (hs.and hnd2).imp fun {a b} ⟨h1,h2⟩=>?_
  simp only [decide_eq_true_eq] at h1;show zH a b=true;exact qac b a (fun e=>h2 e.symm) ((qrl a b).1 h1)
 ·rw [mem_map];constructor
  ·rintro ⟨x,hx,rfl⟩
   obtain ⟨s,hs,rfl⟩:=mem_map.1 (hp.mem_iff.1 hx);exact hs
  ·intro hk;exact ⟨k.data.toList,hp.mem_iff.2 (mem_map.2 ⟨k,hk,rfl⟩),rfl⟩
structure MR (m:List (BA×Spt)) (t:List Spt):Prop where
 asc:AscK t
 nd:(wu m).Nodup
 get:∀ k,getK k m=(getK k t).map fun p=>(k,p)
theorem MR.nil:MR [] []:=⟨qhA,List.nodup_nil,fun _=>rfl⟩
theorem MR.set {m:List (BA×Spt)} {t:List Spt} (h:MR m t) (k:BA) (p:Pos):MR (setM k (k,p) m) (zl t (k,some p)) where
 asc:=q9x h.asc _
 nd:=(qiZ k (k,p) m h.nd).1
 get:=fun j=>by
  rw [qkq,qiV h.asc];by_cases e:j=k
  ·rw [if_pos e,if_pos e,e]; rfl
  ·rw [if_neg e,if_neg e]; exact h.get j
theorem MR.del {m:List (BA×Spt)} {t:List Spt} (h:MR m t) (k:BA):MR (delM k m) (zl t (k,none)) where
 asc:=q9x h.asc _
 nd:=by
  rw [qhF k m h.nd];unfold delK wu;exact h.nd.sublist ((List.filter_sublist).map _)
 get:=fun j=>by
  rw [qhF k m h.nd,qpW,qiV h.asc];by_cases e:j=k
  ·rw [if_pos e,if_pos e]; rfl
  ·rw [if_neg e,if_neg e]; exact h.get j
theorem MR.out {m:List (BA×Spt)} {t:List Spt} (h:MR m t):(zQ (wu m)).map (fun k=>getM k dS m)=t:=by
 obtain ⟨h1,h2⟩:=qql (wu m) h.nd;have hg:∀ k∈zQ (wu m),∃ p,getK k t=some p/\getM k dS m=(k,p):=fun k hk=>by
  obtain ⟨v,hv⟩:=qj5.1 ((h2 k).1 hk);have:=h.get k;rw [hv] at this;cases hx:getK k t with
  | none=>rw [hx] at this; cases this
  | some p=>
   rw [hx] at this;refine ⟨p,rfl,?_⟩;rw [qmu,hv];exact Option.some.inj this
 refine q2k ?_ h.asc fun x=>?_
 ·unfold AscK;rw [List.pairwise_map];refine List.Pairwise.imp_of_mem (fun {a b} ha hb hab=>?_) h1
  obtain ⟨_,_,e1⟩:=hg a ha;obtain ⟨_,_,e2⟩:=hg b hb;show blt (getM a dS m).1 (getM b dS m).1=true;rw [e1,e2]; exact hab
 ·rw [mem_map];constructor
  ·rintro ⟨k,hk,rfl⟩
   obtain ⟨p,q1,q2⟩:=hg k hk;rw [q2];exact (yO h.asc).1 q1
  ·intro hx;have q:=(yO h.asc).2 (show (x.1,x.2)∈t from hx)
   have:=h.get x.1;rw [q] at this;have hk:=(h2 x.1).2 (qj5.2 ⟨_,this⟩);obtain ⟨p,q1,q2⟩:=hg x.1 hk;rw [q] at q1;refine ⟨x.1,hk,?_⟩;rw [q2,<- Option.some.inj q1]
theorem MR.len {m:List (BA×Spt)} {t:List Spt} (h:MR m t):(wu m).length=t.length:=by
 have:=congrArg length h.out;rw [length_map] at this;rw [<- this,qbS,length_map,List.length_mergeSort,length_map]
theorem qaR (m:List (BA×Spt)) (ks:List BA) (hn:ks.length<=1000000000):∀ (r:List BA) (i:Nat) (acc:List Spt),ks.drop i=r->i<=ks.length->acc.length<=i->
  q4l acc ks (ks.length:Int) (i:Int) m=some ((acc++r.map (fun k=>getM k dS m),true),())
 | [],i,acc,hd,hi,ha=>by
  have:=drop_eq_nil_iff.1 hd;rw [q8Q];have k1:decide ((i:Int) < (ks.length:Int))=false:=dYF (by omega)
  simp only [k1,cF,map_nil,append_nil]
 | k::r,i,acc,hd,hi,ha=>by
  obtain ⟨e1,hlt,e2⟩:=qV eB hd;rw [q8Q];have k1:decide ((i:Int) < (ks.length:Int))=true:=dYT (by omega)
  have k2:decide (0<=(i:Int))=true:=dYT (by omega)
  have k4:w64 ((i:Int)+1)=((i+1:Nat):Int):=ql (by omega)
  have kl:lim (acc.length+1) 40=true:=qW (by omega)
  simp only [k1,k2,k4,aS,cT,tN,e1,pmk];rw [kl];have:=qaR m ks hn r (i+1) (acc++[getM k dS m]) e2 hlt (by rw [lA,lS]; omega)
  refine Eq.trans this ?_;rw [map_cons,pA,singleton_append]
theorem q6y (d:List Fil) (l:List Int) (ln i:Int) (n:Nat) (ps:List Pla) (pl k:Int) (b:Bat) (hb:batT b=true) (a z:Int):∀ (r:List Chg) (j:Nat) (m:List (BA×Spt)) (t:List Spt),b.2.drop j=r->j<=b.2.length->MR m t->
  ∃ m',q2F (n:Int) l ln i ps pl k b.2 (b.2.length:Int) (j:Int) d m b.1 b.2 a z=q2E (n:Int) l ln i ps pl (w64 (k+1)) d m'/\MR m' ((r.map (opP n a b.1)).foldl zl t)
 | [],j,m,t,hd,hj,hm=>by
  have:=drop_eq_nil_iff.1 hd;rw [q8P];have k1:decide ((j:Int) < (b.2.length:Int))=false:=dYF (by omega)
  simp only [k1,cF];exact ⟨m,rfl,hm⟩
 | c::r,j,m,t,hd,hj,hm=>by
  obtain ⟨e1,hlt,e2⟩:=qV dC hd;have h40:=qg0 hb;have hsz:=qbn (qhB hb) (yM hd);rw [q8P];have k1:decide ((j:Int) < (b.2.length:Int))=true:=dYT (by omega)
  have k2:decide (0<=(j:Int))=true:=dYT (by omega)
  have k4:w64 ((j:Int)+1)=((j+1:Nat):Int):=ql (by omega)
  have kl:limS c.1.size=true:=qX (by omega)
  simp only [k1,k2,k4,aS,cT,tN,e1];rw [kl,map_cons,List.foldl_cons];unfold opP;cases hg:c.2.2 with
  | true=>
   simp only [cT];exact q6y d l ln i n ps pl k b hb a z r (j+1) _ _ e2 hlt (hm.del c.1)
  | false=>
   simp only [cF,cT];exact q6y d l ln i n ps pl k b hb a z r (j+1) _ _ e2 hlt (hm.set c.1 ((n:Int),(a,b.1)))
theorem qaQ (d:List Fil) (l:List Int) (ln i:Int) (n:Nat) (ps:List Pla) (hps:ps.length<=1000000) (hb:∀ p∈ps,batT p.1=true):∀ (bs:List Bat) (a k:Nat) (m:List (BA×Spt)) (t:List Spt),ps.drop k=plB a bs->k<=ps.length->MR m t->
  ∃ m',q2E (n:Int) l ln i ps (ps.length:Int) (k:Int) d m=q2D l ln (w64 (i+1)) d m'/\MR m' ((opsR n a bs).foldl zl t)
 | [],a,k,m,t,hd,hk,hm=>by
  have:=drop_eq_nil_iff.1 hd;rw [q8O];have k1:decide ((k:Int) < (ps.length:Int))=false:=dYF (by omega)
  simp only [k1,cF];exact ⟨m,rfl,hm⟩
 | b::bs,a,k,m,t,hd,hk,hm=>by
  have hd':ps.drop k=(b,((a:Int),((batL b).length:Int)))::plB (a+(batL b).length) bs:=hd;obtain ⟨e1,hlt,e2⟩:=qV dP hd';have hbt:batT b=true:=hb _ (yM hd');rw [q8O];have k1:decide ((k:Int) < (ps.length:Int))=true:=dYT (by omega)
  have k2:decide (0<=(k:Int))=true:=dYT (by omega)
  have k4:w64 ((k:Int)+1)=((k+1:Nat):Int):=ql (by omega)
  simp only [k1,k2,aS,cT,tN,e1];obtain ⟨m1,p1,p2⟩:=q6y d l ln i n ps (ps.length:Int) (k:Int) b hbt (a:Int) ((batL b).length:Int) b.2 0 m t rfl (zero_le _) hm;obtain ⟨m2,q1,q2⟩:=qaQ d l ln i n ps hps hb bs (a+(batL b).length) (k+1) m1 _ e2 hlt p2;refine ⟨m2,?_,?_⟩
  ·rw [k4] at p1;exact p1.trans q1
  ·rw [qdl,List.foldl_append]; exact q2
theorem qaP (d:List Fil) (hd30:d.length<=30) (l:List Nat) (hl:l.length<=100) (hm:∀ n∈l,n < 100/\hasN d n=true):∀ (r:List Nat) (i:Nat) (m:List (BA×Spt)) (t:List Spt),l.drop i=r->i<=l.length->MR m t->t.length+800000 * r.length<=1000000000->
  q2D (natI l) ((natI l).length:Int) (i:Int) d m=some (((r.flatMap (opsN d)).foldl zl t,true),())
 | [],i,m,t,hd,hi,ha,hlen=>by
  have:=drop_eq_nil_iff.1 hd;have hll:(natI l).length=l.length:=length_map ..;rw [q8N,hll];have k1:decide ((i:Int) < (l.length:Int))=false:=dYF (by omega)
  have hk:=ha.len;have kl:lim (wu m).length 16=true:=qW (by rw [hk]; simp at hlen; omega)
  have hs:(zQ (wu m)).length<=1000000000:=by
   rw [qbS,length_map,List.length_mergeSort,length_map,hk]; simp at hlen; omega
  simp only [k1,cF];rw [kl];refine (qaR m (zQ (wu m)) hs _ 0 [] rfl (zero_le _) (le_refl _)).trans ?_;rw [drop_zero,ha.out]; rfl
 | n::r,i,m,t,hd,hi,ha,hlen=>by
  obtain ⟨e1,hlt,e2⟩:=qV 0 hd;obtain ⟨hn,hh⟩:=hm n (yM hd);have hll:(natI l).length=l.length:=length_map ..;have eI:(natI l).getD i 0=(n:Int):=by rw [q0m hlt,e1]
  have hb:=q4v d (show n<=99 by omega)
  have hz:=qi4 (batD d n) (q09 d n);rw [length_cons] at hlen;rw [q8N];have k1:decide ((i:Int) < ((natI l).length:Int))=true:=dYT (by rw [hll]; omega)
  have k2:decide (0<=(i:Int))=true:=dYT (by omega)
  have k4:w64 ((i:Int)+1)=((i+1:Nat):Int):=ql (by omega)
  simp only [k1,k2,aS,cT,tN,eI,q0b,q0d hn,q27 d (show d.length<=1000000000 by omega),qaf n (show n<=99 by omega),oB,qmK hn hh]
  obtain ⟨m1,p1,p2⟩:=qaQ d (natI l) ((natI l).length:Int) (i:Int) n (plB (q09 d n) (batD d n)) (by omega) (fun p hp=>qaB p.1 (by
   rw [<- qec (batD d n) (q09 d n)]; exact mem_map.2 ⟨p,hp,rfl⟩)) (batD d n) (q09 d n) 0 m t rfl (zero_le _) ha
  refine Eq.trans p1 ?_;rw [k4];rw [<- qb2] at p2;have hf:=q78 (opsN d n) t;have ho:(opsN d n).length<=800000:=by
   rw [qb2];have:=qbI n (batD d n) (q09 d n) qaB;omega
  rw [qaP d hd30 l hl hm r (i+1) m1 _ e2 hlt p2 (by omega),List.flatMap_cons,List.foldl_append]
theorem qjr (d:List Fil) (hn:d.length<=1000000000):qbw d=some (dirO d,()):=by
 rw [qjq,q4B d hn];simp only [oB];unfold dirO;rcases q4V d with ⟨h1,h2⟩ | ⟨l,h1,h2,h3,h4,h5,_,_⟩
 ·rw [h1,h2]; rfl
 ·rw [h1,h2];refine (qaP d (qK.1 h3).1 l h4 h5 l 0 [] [] rfl (zero_le _) MR.nil (by simp; omega)).trans ?_
  show _=some ((dirD d l,true),());rw [qdU]; rfl
noncomputable def doO (d:List Fil) (a:Act):List Fil×Bool:=match actB d a with
 | some x=>(x,true)
 | none=>([],false)
theorem jk {d:List Fil} {a:Act} (h:actB d a=none):doO d a=([],false):=by unfold doO; rw [h]
theorem q0T {d:List Fil} {a:Act} (h:¬ (dOkB d=true/\(a.1=3\/a.2.2.2.size=0)/\(a.1=1\/a.2.2.1.size=0))):actB d a=none:=by
 unfold actB;rw [if_neg];intro hx;simp only [and_eq_true,Bool.or_eq_true,decide_eq_true_eq] at hx;exact h ⟨hx.1.1,hx.1.2,hx.2⟩
theorem q2j {d:List Fil} {a:Act} (h:doA d a=none):actB d a=none:=by
 unfold actB;split
 ·rw [h]; rfl
 ·rfl
theorem q3i {d:List Fil} {a:Act} {x:List Fil} (h1:dOkB d=true) (h2:a.1=3\/a.2.2.2.size=0) (h3:a.1=1\/a.2.2.1.size=0) (h4:doA d a=some x):doO d a=bif dOkB x then (x,true) else ([],false):=by
 unfold doO actB;rw [if_pos (by simp only [and_eq_true,Bool.or_eq_true,decide_eq_true_eq]; exact ⟨⟨h1,h2⟩,h3⟩),h4]
 show (match okD x with | some x=>(x,true) | none=>([],false))=_
 unfold okD;cases dOkB x<;>rfl
theorem qeN (d:List Fil) (hn:d.length<=1000000000):q0k d=some (d,()):=by
 rw [qfm];have kl:lim (0+d.length) 40=true:=qW (by omega)
 rw [kl]; rfl
theorem qeH {d:List Fil} (h:AscK d) (hn:d.length<=1000000000) {m:Nat} (hm:m < d.length):qj d (m:Int) (w64 ((m:Int)+1))=some (delK (d.getD m dF).1 d,()):=by
 rw [show w64 ((m:Int)+1)=((m+1:Nat):Int) from ql (by omega),za]
 unfold delF;have k1:decide (0<=(m:Int))=true:=dYT (by omega)
 have k2:decide ((m:Int)<=((m+1:Nat):Int))=true:=dYT (by omega)
 have k3:decide (((m+1:Nat):Int)<=(d.length:Int))=true:=dYT (by omega)
 have k4:lim d.length 40=true:=qW (by omega)
 simp only [k1,k2,k3,aS,tN,qs2 h hm];rw [k4]; rfl
theorem q0E (k:BA) (v:BA×Int) (d:List Fil):(putK k v d).length<=d.length+1:=by
 have:=qdI d (k,some v);exact this
theorem qmk (t:BA):eB++t=t:=zx (by rw [jP]; rfl)
theorem dst (g:Bool) (x:List Fil):(bif !g then some ((([]:List Fil),false),()) else some ((x,true),()))=some ((bif g then (x,true) else ([],false)),()):=by cases g<;>rfl
theorem qjt (d:List Fil) (hn:d.length<=2000000) (a:Act) (ha:a.2.2.1.size<=1000000000000):qbx d a=some (doO d a,()):=by
 obtain ⟨v,k,t,to⟩:=a;have ha:t.size<=1000000000000:=ha;rw [qjs,qd1 d (by omega),zN d (by omega)]
 simp only [oB];cases hok:dOkB d with
 | false=>
  rw [jk (q0T fun h=>by rw [hok] at h; cases h.1)]; rfl
 | true=>
  have hasc:=(qK.1 hok).2.2;have hl30:=(qK.1 hok).1;simp only [nT,cF,y5,q9X,qeN d (show d.length<=1000000000 by omega),oB]
  by_cases v1:v=1
  ·subst v1;simp only [show ((1:Int) != 3)=true from rfl,show ((1:Int) != 1)=false from rfl,show ((1:Int)==1)=true from rfl,cT,cF]
   by_cases hto:to.size=0
   ·simp only [dYT hto,nT,cF];rcases q0j d k with ⟨h1,h2⟩ | ⟨m,hm,h2,h3,h4⟩
    ·have hdo:doA d (1,(k,(t,to)))=some (putK k (t,0) d):=by
      unfold doA;rw [if_pos rfl];show some (putK k (((getK k d).getD (bOf [],0)).1++t,((getK k d).getD (bOf [],0)).2) d)=_;rw [h2];show some (putK k (bOf []++t,0) d)=_;rw [qa5]
     rw [q3i hok (.inr hto) (.inl rfl) hdo,h1];have kl:limS ((eB).size+t.size)=true:=qX (by show 0+_<=_; omega)
     have hz:=q0E k (t,0) d;simp only [show decide ((-1:Int)>=0)=false from rfl,cF,kl,cT,qmk,qbM d hasc hn,oB,zN (putK k (t,0) d) (by omega),dst]
    ·have hdo:doA d (1,(k,(t,to)))=some (putK k ((d.getD m dF).2.1++t,(d.getD m dF).2.2) d):=by
      unfold doA;rw [if_pos rfl];show some (putK k (((getK k d).getD (bOf [],0)).1++t,((getK k d).getD (bOf [],0)).2) d)=_;rw [h3]; rfl
     rw [q3i hok (.inr hto) (.inl rfl) hdo,h2];have hsz:=(q1y hok (q1K (d:=dF) hm)).2;have kl:limS ((d.getD m dF).2.1.size+t.size)=true:=qX (by omega)
     have hz:=q0E k ((d.getD m dF).2.1++t,(d.getD m dF).2.2) d;simp only [dYT (show (m:Int)>=0 by omega),dYT (show (0:Int)<=(m:Int) by omega),dYT (show (m:Int) < (d.length:Int) by omega),aS,tN,kl,cT,h4,qbM d hasc hn,oB,zN (putK k ((d.getD m dF).2.1++t,(d.getD m dF).2.2) d) (by omega),dst]
   ·rw [jk (q0T fun h=>by
     rcases h.2.1 with h | h
     ·exact absurd (show (1:Int)=3 from h) (by decide)
     ·exact hto h)]
    simp only [dYF hto,nF,cT]
  ·have b1:(v != 1)=true:=by rw [bne_iff_ne]; exact v1
   have b1':(v==1)=false:=by rw [<- not_eq_true,beq_iff_eq]; exact v1
   simp only [b1,b1',cT,cF];by_cases ht:t.size=0
   ·simp only [dYT ht,nT,cF];rcases q0j d k with ⟨h1,h2⟩ | ⟨m,hm,h2,h3,h4⟩
    ·have hdo:doA d (v,(k,(t,to)))=none:=by
      unfold doA;rw [if_neg v1];show (match getK k d with | none=>none | some f=>_)=_
      rw [h2]
     rw [jk (q2j hdo),h1];simp only [show decide ((-1:Int) < 0)=true from rfl,cT]
     cases (v != 3)<;>cases decide (to.size=0)<;>rfl
    ·rw [h2];have hsz:=(q1y hok (q1K (d:=dF) hm)).2;have c1:decide ((m:Int) < 0)=false:=dYF (by omega)
     have c2:decide ((0:Int)<=(m:Int))=true:=dYT (by omega)
     have c3:decide ((m:Int) < (d.length:Int))=true:=dYT (by omega)
     simp only [c1,c2,c3,aS,cT,cF,tN];by_cases v2:v=2
     ·subst v2;simp only [show ((2:Int) != 3)=true from rfl,show ((2:Int)==2)=true from rfl,cT]
      by_cases hto:to.size=0
      ·have hdo:doA d (2,(k,(t,to)))=some (putK k ((d.getD m dF).2.1,((d.getD m dF).2.1.size:Int)) d):=by
        unfold doA;rw [if_neg v1];show (match getK k d with | none=>none | some f=>_)=_
        rw [h3]; rfl
       rw [q3i hok (.inr hto) (.inr ht) hdo];have hset:=qpk hasc hm ((d.getD m dF).2.1,((d.getD m dF).2.1.size:Int));rw [h4] at hset;have hz:=q0E k ((d.getD m dF).2.1,((d.getD m dF).2.1.size:Int)) d;simp only [dYT hto,nT,cF,h4,hset,zN (putK k ((d.getD m dF).2.1,((d.getD m dF).2.1.size:Int)) d) (by omega),oB,dst]
      ·rw [jk (q0T fun h=>by
        rcases h.2.1 with h | h
        ·exact absurd (show (2:Int)=3 from h) (by decide)
        ·exact hto h)]
       simp only [dYF hto,nF,cT]
     ·have b2:(v==2)=false:=by rw [<- not_eq_true,beq_iff_eq]; exact v2
      simp only [b2,cF];by_cases v3:v=3
      ·subst v3;simp only [show ((3:Int) != 3)=false from rfl,show ((3:Int)==3)=true from rfl,cT,cF]
       by_cases he:to=k
       ·have hdo:doA d (3,(k,(t,to)))=none:=by
         unfold doA;rw [if_neg v1];show (match getK k d with | none=>none | some f=>_)=_
         rw [h3];show (if (3:Int)=2 then _ else if (3:Int)=3 then (if (d.getD m dF).2.2=((d.getD m dF).2.1.size:Int)/\to≠k then some (putK to (d.getD m dF).2 (delK k d)) else none) else _)=none
         rw [if_neg (by decide),if_pos rfl,if_neg (fun h=>h.2 he)]
        rw [jk (q2j hdo)];simp only [dYT he,cT]
       ·simp only [dYF he,cF];by_cases hk:(d.getD m dF).2.2=((d.getD m dF).2.1.size:Int)
        ·have hdo:doA d (3,(k,(t,to)))=some (putK to (d.getD m dF).2 (delK k d)):=by
          unfold doA;rw [if_neg v1];show (match getK k d with | none=>none | some f=>_)=_
          rw [h3];show (if (3:Int)=2 then _ else if (3:Int)=3 then (if (d.getD m dF).2.2=((d.getD m dF).2.1.size:Int)/\to≠k then some (putK to (d.getD m dF).2 (delK k d)) else none) else _)=_
          rw [if_neg (by decide),if_pos rfl,if_pos ⟨hk,he⟩]
         rw [q3i hok (.inl rfl) (.inr ht) hdo];have bk:((d.getD m dF).2.2 != ((d.getD m dF).2.1.size:Int))=false:=by rw [hk]; simp
         have hdl:=q6o k d;have hz:=q0E to (d.getD m dF).2 (delK k d);simp only [bk,cF,qeH hasc (show d.length<=1000000000 by omega) hm,h4,oB,qbM (delK k d) (q4t hasc k) (by omega),zN (putK to (d.getD m dF).2 (delK k d)) (by omega),dst]
        ·have hdo:doA d (3,(k,(t,to)))=none:=by
          unfold doA;rw [if_neg v1];show (match getK k d with | none=>none | some f=>_)=_
          rw [h3];show (if (3:Int)=2 then _ else if (3:Int)=3 then (if (d.getD m dF).2.2=((d.getD m dF).2.1.size:Int)/\to≠k then some (putK to (d.getD m dF).2 (delK k d)) else none) else _)=none
          rw [if_neg (by decide),if_pos rfl,if_neg (fun h=>hk h.1)]
         rw [jk (q2j hdo)];have bk:((d.getD m dF).2.2 != ((d.getD m dF).2.1.size:Int))=true:=by rw [bne_iff_ne]; exact hk
         simp only [bk,cT]
      ·have b3:(v==3)=false:=by rw [<- not_eq_true,beq_iff_eq]; exact v3
       have b3':(v != 3)=true:=by rw [bne_iff_ne]; exact v3
       simp only [b3,b3',cT,cF];by_cases hto:to.size=0
       ·simp only [dYT hto,nT,cF];by_cases v4:v=4
        ·subst v4;have hdo:doA d (4,(k,(t,to)))=some (delK k d):=by
          unfold doA;rw [if_neg v1];show (match getK k d with | none=>none | some f=>_)=_
          rw [h3]; rfl
         rw [q3i hok (.inr hto) (.inr ht) hdo];have hdl:=q6o k d;simp only [show ((4:Int)==4)=true from rfl,cT,qeH hasc (show d.length<=1000000000 by omega) hm,h4,oB,zN (delK k d) (by omega),dst]
        ·have b4:(v==4)=false:=by rw [<- not_eq_true,beq_iff_eq]; exact v4
         have hdo:doA d (v,(k,(t,to)))=none:=by
          unfold doA;rw [if_neg v1];show (match getK k d with | none=>none | some f=>_)=_
          rw [h3];show (if v=2 then _ else if v=3 then _ else if v=4 then _ else none)=none
          rw [if_neg v2,if_neg v3,if_neg v4]
         rw [jk (q2j hdo)];simp only [b4,cF]
       ·rw [jk (q0T fun h=>by
         rcases h.2.1 with h | h
         ·exact v3 h
         ·exact hto h)]
        simp only [dYF hto,nF,cT]
   ·rw [jk (q0T fun h=>by
     rcases h.2.2 with h | h
     ·exact v1 h
     ·exact ht h)]
    simp only [dYF ht,nF,cT];cases (v != 3)<;>cases decide (to.size=0)<;>rfl
theorem qmM {k:BA} (h:inB (k.size:Int) 1 8=false) (v:BA×Int) (d:List Fil):dOkB (putK k v d)=false:=by
 rw [<- not_eq_true];intro hx;have:=(q03.1 ((qK.1 hx).2.1 (k,v) (jX.2 (.inl rfl))));rw [q1u,decide_eq_false_iff_not] at h;have h1:1<=k.size:=this.1;have h2:k.size<=8:=this.2.1;exact h (by omega)
theorem qra {d:List Fil} (hok:dOkB d=true) {k:BA} (h:inB (k.size:Int) 1 8=false):getK k d=none:=by
 refine zq.2 fun f hf e=>?_
 have:=(q03.1 ((qK.1 hok).2.1 f hf));rw [q1u,decide_eq_false_iff_not] at h;rw [e] at this;exact h (by omega)
theorem qr2 {d:List Fil} {v:Int} {k t to:BA} (v1:v≠1) {f:BA×Int} (h:getK k d=some f):doA d (v,(k,(t,to)))=if v=2 then some (putK k (f.1,(f.1.size:Int)) d) else if v=3 then (if f.2=(f.1.size:Int)/\to≠k then some (putK to f (delK k d)) else none) else if v=4 then some (delK k d) else none:=by
 unfold doA;rw [if_neg v1];show (match getK k d with | none=>none | some f=>_)=_
 rw [h]
theorem qmh {d:List Fil} {v:Int} {k t to:BA} (v1:v≠1) (h:getK k d=none):doA d (v,(k,(t,to)))=none:=by
 unfold doA;rw [if_neg v1];show (match getK k d with | none=>none | some f=>_)=_
 rw [h]
theorem qmg {d:List Fil} {k t to:BA} (h:getK k d=none):doA d (1,(k,(t,to)))=some (putK k (t,0) d):=by
 unfold doA;rw [if_pos rfl];show some (putK k (((getK k d).getD (bOf [],0)).1++t,((getK k d).getD (bOf [],0)).2) d)=_;rw [h];show some (putK k (bOf []++t,0) d)=_;rw [qa5]
theorem qr3 {d:List Fil} {k t to:BA} {f:BA×Int} (h:getK k d=some f):doA d (1,(k,(t,to)))=some (putK k (f.1++t,f.2) d):=by
 unfold doA;rw [if_pos rfl];show some (putK k (((getK k d).getD (bOf [],0)).1++t,((getK k d).getD (bOf [],0)).2) d)=_;rw [h]; rfl
theorem qr4 {d:List Fil} (hok:dOkB d=true) {v:Int} {k t to:BA} (h:inB (k.size:Int) 1 8=false):doO d (v,(k,(t,to)))=([],false):=by
 have hg:=qra hok h;by_cases v1:v=1
 ·subst v1;by_cases hto:to.size=0
  ·rw [q3i hok (.inr hto) (.inl rfl) (qmg hg),qmM h]; rfl
  ·exact jk (q0T fun h=>by
    rcases h.2.1 with h | h
    ·exact absurd (show (1:Int)=3 from h) (by decide)
    ·exact hto h)
 ·exact jk (q2j (qmh v1 hg))
theorem qjI (d:List Fil) (hn:d.length<=2000000) (a:Act) (ha:a.2.2.1.size<=1000000000000):qbW d a=some (doO d a,()):=by
 obtain ⟨v,k,t,to⟩:=a;have ha:t.size<=1000000000000:=ha;rw [qjH,jq d (by omega)]
 simp only [oB,qgL,q4C d (show d.length<=1000000000 by omega)]
 cases hok:dOkB d with
 | false=>
  rw [jk (q0T fun h=>by rw [hok] at h; cases h.1)]; rfl
 | true=>
  have hasc:=(qK.1 hok).2.2;have hl30:=(qK.1 hok).1;simp only [nT,cF];cases hnk:inB (k.size:Int) 1 8 with
  | false=>rw [qr4 hok hnk]; rfl
  | true=>
   simp only [nT,cF,y5,q9X];by_cases v1:v=1
   ·subst v1;simp only [show ((1:Int) != 3)=true from rfl,show ((1:Int) != 1)=false from rfl,show ((1:Int)==1)=true from rfl,cT,cF]
    by_cases hto:to.size=0
    ·simp only [dYT hto,nT,cF];rcases q0j d k with ⟨h1,h2⟩ | ⟨m,hm,h2,h3,h4⟩
     ·rw [q3i hok (.inr hto) (.inl rfl) (qmg h2),h1];have kl:limS ((eB).size+t.size)=true:=qX (by show 0+_<=_; omega)
      have hz:=q0E k (t,0) d;simp only [show decide ((-1:Int)>=0)=false from rfl,cF,kl,cT,qmk,q9O d hn,oB,jq (putK k (t,0) d) (by omega),dst]
     ·rw [q3i hok (.inr hto) (.inl rfl) (qr3 h3),h2];have hsz:=(q1y hok (q1K (d:=dF) hm)).2;have kl:limS ((d.getD m dF).2.1.size+t.size)=true:=qX (by omega)
      have hz:=q0E k ((d.getD m dF).2.1++t,(d.getD m dF).2.2) d;simp only [dYT (show (m:Int)>=0 by omega),dYT (show (0:Int)<=(m:Int) by omega),dYT (show (m:Int) < (d.length:Int) by omega),aS,tN,kl,cT,h4,q9O d hn,oB,jq (putK k ((d.getD m dF).2.1++t,(d.getD m dF).2.2) d) (by omega),dst]
    ·rw [jk (q0T fun h=>by
      rcases h.2.1 with h | h
      ·exact absurd (show (1:Int)=3 from h) (by decide)
      ·exact hto h)]
     simp only [dYF hto,nF,cT]
   ·have b1:(v != 1)=true:=by rw [bne_iff_ne]; exact v1
    have b1':(v==1)=false:=by rw [<- not_eq_true,beq_iff_eq]; exact v1
    simp only [b1,b1',cT,cF];by_cases ht:t.size=0
    ·simp only [dYT ht,nT,cF];rcases q0j d k with ⟨h1,h2⟩ | ⟨m,hm,h2,h3,h4⟩
     ·rw [jk (q2j (qmh v1 h2)),h1];simp only [show decide ((-1:Int)>=0)=false from rfl,show decide ((-1:Int) < 0)=true from rfl,cT,cF]
      cases (v != 3)<;>cases decide (to.size=0)<;>rfl
     ·rw [h2];have hf:=(q03.1 ((qK.1 hok).2.1 _ (q1K (d:=dF) hm)));have c0:decide ((m:Int)>=0)=true:=dYT (by omega)
      have c1:decide ((m:Int) < 0)=false:=dYF (by omega)
      have c2:decide ((0:Int)<=(m:Int))=true:=dYT (by omega)
      have c3:decide ((m:Int) < (d.length:Int))=true:=dYT (by omega)
      simp only [c0,c1,c2,c3,aS,cT,cF,tN];have hdo:=qr2 (t:=t) (to:=to) v1 h3;by_cases v2:v=2
      ·subst v2;rw [if_pos rfl] at hdo;simp only [show ((2:Int) != 3)=true from rfl,show ((2:Int)==2)=true from rfl,cT]
       by_cases hto:to.size=0
       ·rw [q3i hok (.inr hto) (.inr ht) hdo];have hz:=q0E k ((d.getD m dF).2.1,((d.getD m dF).2.1.size:Int)) d;simp only [dYT hto,nT,cF,h4,q9O d hn,jq (putK k ((d.getD m dF).2.1,((d.getD m dF).2.1.size:Int)) d) (by omega),oB,dst]
       ·rw [jk (q0T fun h=>by
         rcases h.2.1 with h | h
         ·exact absurd (show (2:Int)=3 from h) (by decide)
         ·exact hto h)]
        simp only [dYF hto,nF,cT]
      ·have b2:(v==2)=false:=by rw [<- not_eq_true,beq_iff_eq]; exact v2
       rw [if_neg v2] at hdo;simp only [b2,cF];by_cases v3:v=3
       ·subst v3;rw [if_pos rfl] at hdo;simp only [show ((3:Int) != 3)=false from rfl,show ((3:Int)==3)=true from rfl,cT,cF]
        by_cases hk:(d.getD m dF).2.2=((d.getD m dF).2.1.size:Int)
        ·have bk:decide ((d.getD m dF).2.2 < ((d.getD m dF).2.1.size:Int))=false:=dYF (by omega)
         simp only [bk,cF];by_cases he:to=k
         ·rw [if_neg (fun h=>h.2 he)] at hdo
          rw [jk (q2j hdo)];simp only [dYT he,cT]
         ·rw [if_pos ⟨hk,he⟩] at hdo;simp only [dYF he,cF];rw [q3i hok (.inl rfl) (.inr ht) hdo];have hdl:=q6o k d;have hz:=q0E to (d.getD m dF).2 (delK k d);cases hnt:inB (to.size:Int) 1 8 with
          | false=>rw [qmM hnt]; rfl
          | true=>
           simp only [nT,cF,qcm d hn,oB,q9O (delK k d) (show (delK k d).length<=2000000 by omega),jq (putK to (d.getD m dF).2 (delK k d)) (by omega),dst]
        ·have bk:decide ((d.getD m dF).2.2 < ((d.getD m dF).2.1.size:Int))=true:=dYT (by omega)
         rw [if_neg (fun h=>hk h.1)] at hdo
         rw [jk (q2j hdo)];simp only [bk,cT]
       ·have b3:(v==3)=false:=by rw [<- not_eq_true,beq_iff_eq]; exact v3
        have b3':(v != 3)=true:=by rw [bne_iff_ne]; exact v3
        rw [if_neg v3] at hdo;simp only [b3,b3',cT,cF];by_cases hto:to.size=0
        ·simp only [dYT hto,nT,cF];by_cases v4:v=4
         ·subst v4;rw [if_pos rfl] at hdo;rw [q3i hok (.inr hto) (.inr ht) hdo];have hdl:=q6o k d;simp only [show ((4:Int)==4)=true from rfl,cT,qcm d hn,oB,jq (delK k d) (by omega),dst]
         ·have b4:(v==4)=false:=by rw [<- not_eq_true,beq_iff_eq]; exact v4
          rw [if_neg v4] at hdo;rw [jk (q2j hdo)];simp only [b4,cF]
        ·rw [jk (q0T fun h=>by
          rcases h.2.1 with h | h
          ·exact v3 h
          ·exact hto h)]
         simp only [dYF hto,nF,cT]
    ·rw [jk (q0T fun h=>by
      rcases h.2.2 with h | h
      ·exact v1 h
      ·exact ht h)]
     simp only [dYF ht,nF,cT];cases (v != 3)<;>cases decide (to.size=0)<;>rfl
abbrev dA:Act:=(0,(eB,(eB,eB)))
def aSz (xs:List Act):Prop:=xs.length<=1000000000/\∀ a∈xs,a.2.2.1.size<=1000000000000
theorem qhx {d d':List Fil} {a:Act} (h:actB d a=some d'):d'.length<=2000000:=by
 have:=(qK.1 (qm0 h).2.1).1; omega
theorem qiL (d:List Fil) (a:Act):(actB d a=none/\doO d a=([],false))\/∃ d',actB d a=some d'/\doO d a=(d',true):=by
 unfold doO;cases actB d a with
 | none=>exact .inl ⟨rfl,rfl⟩
 | some x=>exact .inr ⟨x,rfl,rfl⟩
theorem q85 (xs:List Act) (hs:aSz xs) (z:List Fil):∀ (r:List Act) (i:Nat) (d:List Fil),xs.drop i=r->i<=xs.length->d.length<=2000000->
  q3B xs xs (xs.length:Int) (i:Int) z d=some (((y9 d r).1,((i+(y9 d r).2:Nat):Int)),())
 | [],i,d,hd,hi,hl=>by
  have:=drop_eq_nil_iff.1 hd;rw [q84];have k1:decide ((i:Int) < (xs.length:Int))=false:=dYF (by omega)
  simp only [k1,cF,y9];rw [show xs.length=i+0 by omega]
 | a::r,i,d,hd,hi,hl=>by
  obtain ⟨e1,hlt,e2⟩:=qV dA hd;have hn:=hs.1;rw [q84];have k1:decide ((i:Int) < (xs.length:Int))=true:=dYT (by omega)
  have k2:decide (0<=(i:Int))=true:=dYT (by omega)
  have k4:w64 ((i:Int)+1)=((i+1:Nat):Int):=ql (by omega)
  simp only [k1,k2,k4,aS,cT,tN,e1,pmk,qjt d hl a (hs.2 a (yM hd)),oB];rcases qiL d a with ⟨h1,h2⟩ | ⟨d',h1,h2⟩
  ·rw [h2];simp only [nF,cT,y9,h1];rfl
  ·rw [h2];simp only [nT,cF,y9,h1];rw [q85 xs hs z r (i+1) d' e2 hlt (qhx h1)];rw [show i+((y9 d' r).2+1)=i+1+(y9 d' r).2 by omega]
theorem qhP (d:List Fil) (hd:d.length<=2000000) (xs:List Act) (hs:aSz xs):qaa d xs=some (((y9 d xs).1,((y9 d xs).2:Int)),()):=by
 rw [qhO,qeN d (by omega)]
 simp only [oB];have:=q85 xs hs [] xs 0 d rfl (zero_le _) hd;rw [zero_add] at this;exact this
theorem q8b (xs:List Act) (hs:aSz xs) (z:List Fil):∀ (r:List Act) (i:Nat) (d:List Fil),xs.drop i=r->i<=xs.length->d.length<=2000000->
  q3O xs (i:Int) z d=some (((y9 d r).1,((i+(y9 d r).2:Nat):Int)),())
 | [],i,d,hd,hi,hl=>by
  have:=drop_eq_nil_iff.1 hd;rw [q8a];have k1:decide ((i:Int) < (xs.length:Int))=false:=dYF (by omega)
  simp only [k1,cF,y9];rw [show xs.length=i+0 by omega]
 | a::r,i,d,hd,hi,hl=>by
  obtain ⟨e1,hlt,e2⟩:=qV dA hd;have hn:=hs.1;rw [q8a];have k1:decide ((i:Int) < (xs.length:Int))=true:=dYT (by omega)
  have k2:decide (0<=(i:Int))=true:=dYT (by omega)
  have k4:w64 ((i:Int)+1)=((i+1:Nat):Int):=ql (by omega)
  simp only [k1,k2,k4,aS,cT,tN,e1,pmk,qjI d hl a (hs.2 a (yM hd)),oB];rcases qiL d a with ⟨h1,h2⟩ | ⟨d',h1,h2⟩
  ·rw [h2];simp only [nF,cT,y9,h1];rfl
  ·rw [h2];simp only [nT,cF,y9,h1];rw [q8b xs hs z r (i+1) d' e2 hlt (qhx h1)];rw [show i+((y9 d' r).2+1)=i+1+(y9 d' r).2 by omega]
theorem q6K (d:List Fil) (hd:d.length<=2000000) (xs:List Act) (hs:aSz xs):q0H d xs=some (((y9 d xs).1,((y9 d xs).2:Int)),()):=by
 rw [qii];have kl:lim (0+d.length) 40=true:=qW (by omega)
 have:=q8b xs hs [] xs 0 d rfl (zero_le _) hd;rw [zero_add] at this;rw [kl];exact this
theorem qn5 (l:List Int) (x:Int) (hl:l.length<=2000000):q0o l x=some (decide (x∈l),()):=by
 rw [q5R,q7X];have hi:=q4w (fun i=>zi l x (l.length:Int) i) (fun y:Int=>x==y) 0 l (fun n=>some (n,()))
  (fun i hi=>by
   conv=>lhs; rw [q1Q]
   have e1:decide ((i:Int) < (l.length:Int))=true:=dYT (by omega)
   have e2:decide (0<=(i:Int))=true:=dYT (by omega)
   have e3:w64 ((i:Int)+1)=((i+1:Nat):Int):=ql (by omega)
   simp only [e1,e2,e3,aS,cT,tN])
  (by
   show zi l x (l.length:Int) (l.length:Int)=_;rw [q1Q];simp only [Int.lt_irrefl,decide_false,cF])
 rw [hi];simp only [oB];congr 2
 rcases q7b (fun y:Int=>x==y) l 0 with ⟨h1,h2⟩ | ⟨j,h1,h2,h3,_⟩
 ·rw [h1,dYF (by omega),eq_comm,dYF]
  intro hm;have:=h2 x hm;simp at this
 ·rw [h2,dYT (by omega),eq_comm,dYT]
  have e:=List.getElem?_eq_getElem h1;have:=h3 _ e;rw [beq_iff_eq] at this;rw [this];exact List.getElem_mem h1
theorem qr5:((4:Int),(qH,(eB,eB)))=drA yu:=rfl
theorem qor (k:BA):((4:Int),(k,(eB,eB)))=drA k:=rfl
theorem qnQ {d:List Fil} (h:AscK d):((d.filter (fun f=>decide (f.1=yu))).map fun _=>drA yu)=if (getK yu d).isSome then [drA yu] else []:=by
 rcases q0j d yu with ⟨_,h2⟩ | ⟨m,hm,_,h3,h4⟩
 ·rw [h2,List.filter_eq_nil_iff.2 (fun f hf=>by simpa using zq.1 h2 f hf)]; rfl
 ·obtain ⟨e,h1,h2⟩:=qfZ h hm;rw [h4] at h1 h2;rw [h3];have:(d.filter (fun f=>decide (f.1=yu)))=[d.getD m dF]:=by
   conv=>lhs; rw [e]
   rw [List.filter_append,filter_cons,if_pos (dYT h4),List.filter_eq_nil_iff.2 (fun x hx=>by simpa using zI (h1 x hx)),List.filter_eq_nil_iff.2 (fun x hx=>by simpa using (zI (h2 x hx)).symm)]; rfl
  rw [this]; rfl
theorem qkQ {l:List Nat} {n:Nat}:(n:Int)∈natI l↔n∈l:=by
 unfold natI;rw [mem_map];constructor
 ·rintro ⟨m,hm,e⟩
  have:m=n:=by omega
  rw [<- this]; exact hm
 ·exact fun h=>⟨n,h,rfl⟩
theorem q3x (d:List Fil) (hok:dOkB d=true) (l:List Nat) (hl:l.length<=100):∀ (r:List Fil) (i:Nat) (acc:List Act),d.drop i=r->i<=d.length->acc.length<=100+i->
  jV (natI l) acc d (d.length:Int) (i:Int)=some (acc++(r.filter (q0u l)).map (fun f=>drA f.1),())
 | [],i,acc,hd,hi,ha=>by
  have:=drop_eq_nil_iff.1 hd;rw [q60];have k1:decide ((i:Int) < (d.length:Int))=false:=dYF (by omega)
  simp only [k1,cF,filter_nil,map_nil,append_nil]
 | f::r,i,acc,hd,hi,ha=>by
  obtain ⟨e1,hlt,e2⟩:=qV dF hd;have hl30:=(qK.1 hok).1;have hsz:=q1y hok (yM hd);have hll:(natI l).length=l.length:=length_map ..;rw [q60];have k1:decide ((i:Int) < (d.length:Int))=true:=dYT (by omega)
  have k2:decide (0<=(i:Int))=true:=dYT (by omega)
  have k4:w64 ((i:Int)+1)=((i+1:Nat):Int):=ql (by omega)
  have kl:lim (acc.length+1) 56=true:=qW (by omega)
  simp only [k1,k2,k4,aS,cT,tN,e1,qdx f.1 (by omega),oB,qor]
  rw [kl,filter_cons];rcases q3J f.1 with ⟨q1,q2⟩ | ⟨n,hn,q1,q2,q3⟩
  ·have hs:q0u l f=false:=by unfold q0u; rw [q2]
   rw [q1,hs];simp only [show decide ((-1:Int)>=0)=false from rfl,cF,false_eq_true,if_false]
   exact q3x d hok l hl r (i+1) acc e2 hlt (by omega)
  ·have hs:q0u l f=!l.contains n:=by unfold q0u; rw [q2]
   rw [q1,hs];simp only [dYT (show (n:Int)>=0 by omega),cT,qn5 (natI l) (n:Int) (by omega),oB]
   by_cases hm:n∈l
   ·have h1:l.contains n=true:=List.contains_iff_mem.2 hm;simp only [dYT (qkQ.2 hm),h1,nT,cF,false_eq_true,if_false];exact q3x d hok l hl r (i+1) acc e2 hlt (by omega)
   ·have h1:l.contains n=false:=by rw [<- not_eq_true,List.contains_iff_mem]; exact hm
    simp only [dYF (fun h=>hm (qkQ.1 h)),h1,nF,cT,if_true]
    rw [q3x d hok l hl r (i+1) (acc++[drA f.1]) e2 hlt (by rw [lA,lS]; omega),map_cons,pA,singleton_append]
theorem q6l (d:List Fil) (hok:dOkB d=true) (l:List Nat) (hl:l.length<=100):∀ (r:List Fil) (i:Nat) (acc:List Act),d.drop i=r->i<=d.length->acc.length<=i->
  q0Y (natI l) acc d (d.length:Int) (i:Int) d=some ((acc++((r.filter (fun f=>decide (f.1=yu))).map fun _=>drA yu))++(d.filter (q0u l)).map (fun f=>drA f.1),())
 | [],i,acc,hd,hi,ha=>by
  have:=drop_eq_nil_iff.1 hd;have hl30:=(qK.1 hok).1;rw [q5Z];have k1:decide ((i:Int) < (d.length:Int))=false:=dYF (by omega)
  simp only [k1,cF,filter_nil,map_nil,append_nil];exact q3x d hok l hl d 0 acc rfl (zero_le _) (by omega)
 | f::r,i,acc,hd,hi,ha=>by
  obtain ⟨e1,hlt,e2⟩:=qV dF hd;have hl30:=(qK.1 hok).1;rw [q5Z];have k1:decide ((i:Int) < (d.length:Int))=true:=dYT (by omega)
  have k2:decide (0<=(i:Int))=true:=dYT (by omega)
  have k4:w64 ((i:Int)+1)=((i+1:Nat):Int):=ql (by omega)
  have kl:lim (acc.length+1) 56=true:=qW (by omega)
  have en:(qH:BA)=yu:=rfl;simp only [k1,k2,k4,aS,cT,tN,e1,y5,qr5];rw [kl,filter_cons,en];by_cases hq:f.1=yu
  ·rw [dYT hq,if_pos rfl];simp only [cT];rw [q6l d hok l hl r (i+1) (acc++[drA yu]) e2 hlt (by rw [lA,lS]; omega),map_cons,pA acc,singleton_append]
  ·rw [dYF hq,if_neg (by decide)]
   simp only [cF];exact q6l d hok l hl r (i+1) acc e2 hlt (by omega)
theorem qlI (d:List Fil) (hok:dOkB d=true) (l:List Nat) (hl:l.length<=100):q7U d (natI l)=some (wP d l,()):=by
 rw [qfl];refine (q6l d hok l hl d 0 [] rfl (zero_le _) (le_refl _)).trans ?_;rw [nil_append,qnQ (qK.1 hok).2.2]; rfl
theorem qot {d:List Fil} {n:Nat} (hn:n < 100) (hh:hasN d n=true) (hs:(segD d n).isSome=true):(rsO n (faO d (nmL n)).1).2.2.1=(endD d n:Int)/\(faO d (nmL n)).1=txtD d n/\endD d n<=(txtD d n).size:=by
 have ht:(faO d (nmL n)).1=txtD d n:=by
  unfold faO txtD;unfold hasN at hh;cases hg:getK (nmL n) d with
  | none=>rw [hg] at hh; cases hh
  | some v=>rfl
 obtain ⟨x,hx⟩:=Option.isSome_iff_exists.1 hs;have hseg:=hx;rw [q8K hn hh] at hseg;have e1:hdD d n=x.1:=by unfold hdD; rw [hx]; rfl
 have e2:batD d n=x.2:=by unfold batD; rw [hx]; rfl
 refine ⟨?_,ht,?_⟩
 ·unfold rsO endD;rw [hseg,e1,e2]
 ·unfold endD qdw;rw [e1,e2,<- ht];obtain ⟨_,_,_,_,_,r,e⟩:=q4U (f:=x.1) (bs:=x.2) hseg;rw [yj,e];simp only [lA]; omega
theorem q9w {l:List Nat} (h:AscN l) {i n:Nat} {r:List Nat} (hd:l.drop i=n::r):n=l.getLastD 0↔r=[]:=by
 have hne:l≠[]:=by intro e; rw [e] at hd; simp at hd
 have hl:l.getLastD 0=(n::r).getLastD 0:=by
  rw [<- hd]
  conv=>lhs; rw [<- List.take_append_drop i l]
  rw [List.getLastD_eq_getLast?,List.getLastD_eq_getLast?,hd,List.getLast?_append];cases h:(n::r).getLast? with
  | none=>rw [List.getLast?_eq_none_iff] at h; cases h
  | some x=>rfl
 rw [hl];cases r with
 | nil=>simp
 | cons m r=>
  constructor
  ·intro e;have hp:(l.drop i).Pairwise (· < ·):=h.sublist (List.drop_sublist i l);rw [hd] at hp;have hm:(n::m::r).getLastD 0∈m::r:=by
    rw [List.getLastD_eq_getLast?];rw [List.getLast?_cons_cons];cases hx:(m::r).getLast? with
    | none=>rw [List.getLast?_eq_none_iff] at hx; cases hx
    | some x=>exact List.mem_of_getLast? hx
   have:=(List.pairwise_cons.1 hp).1 _ hm;omega
  ·intro e; cases e
noncomputable def qcb (d:List Fil) (n:Nat):List Act:=[adA yu (bOf ((bl (txtD d n)).take (endD d n))),kpA yu,mvA yu (nmL n)]
theorem qhs {d:List Fil} {l:List Nat} (h:AscN l) {i n:Nat} {r:List Nat} (hd:l.drop i=n::r):zD d (l.getLastD 0) (n::r)=if endD d n=(txtD d n).size then zD d (l.getLastD 0) r else if r=[] then some (qcb d n) else none:=by
 have e:zD d (l.getLastD 0) (n::r)=if endD d n=(txtD d n).size then zD d (l.getLastD 0) r else if n=l.getLastD 0 then (zD d (l.getLastD 0) r).map fun x=>adA yu (bOf ((bl (txtD d n)).take (endD d n)))::kpA yu::mvA yu (nmL n)::x else none:=rfl
 rw [e];split
 ·rfl
 ·by_cases hr:r=[]
  ·rw [if_pos ((q9w h hd).2 hr),if_pos hr,hr]; rfl
  ·rw [if_neg (fun e=>hr ((q9w h hd).1 e)),if_neg hr]
theorem qjm (d:List Fil) (n:Nat):(qcb d n).length=3:=rfl
theorem qlv (d:List Fil) (n:Nat):[((1:Int),(qH,((txtD d n).extract 0 (endD d n),eB))),(2,(qH,(eB,eB))),(3,(qH,(eB,nmL n)))]=qcb d n:=by
 rw [qr6]; rfl
theorem qdf (d:List Fil) (hd30:d.length<=30) (l:List Nat) (hl:l.length<=100) (hasc:AscN l) (hm:∀ n∈l,n < 100/\hasN d n=true) (hs:∀ n∈l,(segD d n).isSome=true):∀ (r:List Nat) (i:Nat) (acc:List Act),l.drop i=r->i<=l.length->acc.length<=1000+3 * i->
  q0h (natI l) acc (i:Int) d=some ((match zD d (l.getLastD 0) r with | none=>([],false) | some t=>(acc++t,true)),())
 | [],i,acc,hd,hi,ha=>by
  have:=drop_eq_nil_iff.1 hd;have hll:(natI l).length=l.length:=length_map ..;rw [q7K,hll];have k1:decide ((i:Int) < (l.length:Int))=false:=dYF (by omega)
  simp only [k1,cF,zD,append_nil]
 | n::r,i,acc,hd,hi,ha=>by
  obtain ⟨e1,hlt,e2⟩:=qV 0 hd;obtain ⟨hn,hh⟩:=hm n (yM hd);have hll:(natI l).length=l.length:=length_map ..;have eI:(natI l).getD i 0=(n:Int):=by rw [q0m hlt,e1]
  obtain ⟨q1,q2,q3⟩:=qot hn hh (hs n (yM hd));rw [q2] at q1;rw [q7K,qhs hasc hd];have k1:decide ((i:Int) < ((natI l).length:Int))=true:=dYT (by rw [hll]; omega)
  have k2:decide (0<=(i:Int))=true:=dYT (by omega)
  have k4:w64 ((i:Int)+1)=((i+1:Nat):Int):=ql (by omega)
  simp only [k1,k2,k4,aS,cT,tN,eI,zC,q0d hn,q3P d (show d.length<=1000000000 by omega),oB,q2,jR n (show n<=99 by omega),q1]
  by_cases he:endD d n=(txtD d n).size
  ·have b:(((endD d n:Nat):Int)==((txtD d n).size:Int))=true:=by rw [beq_iff_eq]; omega
   simp only [b,cT,if_pos he];exact qdf d hd30 l hl hasc hm hs r (i+1) acc e2 hlt (by omega)
  ·have b:(((endD d n:Nat):Int)==((txtD d n).size:Int))=false:=by rw [<- not_eq_true,beq_iff_eq]; omega
   simp only [b,cF,if_neg he];have hlen:l.length - i=r.length+1:=by
    have:=congrArg length hd;rw [length_drop,length_cons] at this; exact this
   by_cases hr:r=[]
   ·have hr0:r.length=0:=by rw [hr]; rfl
    have htr:zD d (l.getLastD 0) r=some []:=by rw [hr]; rfl
    have k5:decide (((i+1:Nat):Int) < ((natI l).length:Int))=false:=dYF (by rw [hll]; omega)
    have kl:lim (acc.length+3) 56=true:=qW (by omega)
    have k6:decide ((0:Int)<=((endD d n:Nat):Int))=true:=dYT (by omega)
    have k7:decide (((endD d n:Nat):Int)<=((txtD d n).size:Int))=true:=dYT (by omega)
    simp only [k5,cF,show decide ((0:Int)<=0)=true from rfl,k6,k7,aS,cT,show toNat 0=0 from rfl,qlv]
    rw [kl,cT,qdf d hd30 l hl hasc hm hs r (i+1) (acc++qcb d n) e2 hlt (by rw [lA,qjm]; omega),htr,if_pos hr]
    simp only [append_nil]
   ·have hpos:0 < r.length:=length_pos_iff.2 hr;have k5:decide (((i+1:Nat):Int) < ((natI l).length:Int))=true:=dYT (by rw [hll]; omega)
    simp only [k5,cT,if_neg hr]
theorem q9Q (d:List Fil) (hok:dOkB d=true) (l:List Nat) (hl:l.length<=100) (hne:l≠[]) (hseg:∀ n,n < 100->hasN d n=true->(n∈l↔¬ n < l.getD 0 0)):∀ (r:List Fil) (i:Nat) (acc:List Act),d.drop i=r->i<=d.length->acc.length<=100+i->
  zZ (natI l) acc (i:Int) d=q0h (natI l) (acc++(r.filter (q0u l)).map (fun f=>drA f.1)) 0 d
 | [],i,acc,hd,hi,ha=>by
  have:=drop_eq_nil_iff.1 hd;rw [q7J];have k1:decide ((i:Int) < (d.length:Int))=false:=dYF (by omega)
  simp only [k1,cF,filter_nil,map_nil,append_nil]
 | f::r,i,acc,hd,hi,ha=>by
  obtain ⟨e1,hlt,e2⟩:=qV dF hd;have hl30:=(qK.1 hok).1;have hasc:=(qK.1 hok).2.2;have hsz:=q1y hok (yM hd);have hpos:0 < l.length:=length_pos_iff.2 hne;have hll:(natI l).length=l.length:=length_map ..;have e0:(natI l).getD (toNat 0) 0=((l.getD 0 0:Nat):Int):=q0m hpos;rw [q7J];have k1:decide ((i:Int) < (d.length:Int))=true:=dYT (by omega)
  have k2:decide (0<=(i:Int))=true:=dYT (by omega)
  have k3:decide ((0:Int) < ((natI l).length:Int))=true:=dYT (by rw [hll]; omega)
  have k4:w64 ((i:Int)+1)=((i+1:Nat):Int):=ql (by omega)
  have kl:lim (acc.length+1) 56=true:=qW (by omega)
  rw [k1,k2];simp only [aS,cT];rw [k3,k4,e0];simp only [aS,cT,tN,e1,qkE f.1 (show f.1.size<=1000000 by omega),oB,qor,show decide ((0:Int)<=0)=true from rfl]
  rw [kl,filter_cons];rcases q3J f.1 with ⟨q1,q2⟩ | ⟨n,hn,q1,q2,q3⟩
  ·have hs:q0u l f=false:=by unfold q0u; rw [q2]
   rw [q1,hs];simp only [show decide ((-1:Int)>=0)=false from rfl,cF,false_eq_true,if_false]
   exact q9Q d hok l hl hne hseg r (i+1) acc e2 hlt (by omega)
  ·have hs:q0u l f=!l.contains n:=by unfold q0u; rw [q2]
   have hh:hasN d n=true:=by
    unfold hasN;rw [q3,(yO hasc).2 (show (f.1,f.2)∈d from yM hd)]; rfl
   have hiff:=hseg n hn hh;rw [q1,hs];simp only [dYT (show (n:Int)>=0 by omega),cT]
   by_cases hm:n∈l
   ·have h1:l.contains n=true:=List.contains_iff_mem.2 hm;have h2:=hiff.1 hm;simp only [dYF (show ¬ (n:Int) < ((l.getD 0 0:Nat):Int) by omega),h1,nT,cF,false_eq_true,if_false]
    exact q9Q d hok l hl hne hseg r (i+1) acc e2 hlt (by omega)
   ·have h1:l.contains n=false:=by rw [<- not_eq_true,List.contains_iff_mem]; exact hm
    have h2:n < l.getD 0 0:=Decidable.byContradiction fun h=>hm (hiff.2 h)
    simp only [dYT (show (n:Int) < ((l.getD 0 0:Nat):Int) by omega),h1,nF,cT,if_true]
    rw [q9Q d hok l hl hne hseg r (i+1) (acc++[drA f.1]) e2 hlt (by rw [lA,lS]; omega),map_cons,pA,singleton_append]
theorem qnK (d:List Fil) (hok:dOkB d=true) (l:List Nat) (hl:l.length<=100) (hasc:AscN l) (hne:l≠[]) (hm:∀ n∈l,n < 100/\hasN d n=true) (hs:∀ n∈l,(segD d n).isSome=true) (hseg:∀ n,n < 100->hasN d n=true->(n∈l↔¬ n < l.getD 0 0)):q9j d (natI l)=some ((match zD d (l.getLastD 0) l with | none=>([],false) | some t=>(wP d l++t,true)),()):=by
 have hl30:=(qK.1 hok).1;have hfin:∀ acc:List Act,acc.length<=1->zZ (natI l) acc 0 d=some ((match zD d (l.getLastD 0) l with | none=>([],false) | some t=>((acc++(d.filter (q0u l)).map (fun f=>drA f.1))++t,true)),()):=fun acc ha=>by
  have hf:((d.filter (q0u l)).map (fun f=>drA f.1)).length<=30:=by
   rw [length_map]; exact le_trans (length_filter_le ..) hl30
  refine (q9Q d hok l hl hne hseg d 0 acc rfl (zero_le _) (by omega)).trans ?_
  exact qdf d hl30 l hl hasc hm hs l 0 _ rfl (zero_le _) (by rw [lA]; omega)
 rw [qhj,q4C d (by omega)]
 simp only [oB];have en:(qH:BA)=yu:=rfl;rw [en];unfold wP;have kl:lim (0+1) 56=true:=qW (by omega)
 rcases q0j d yu with ⟨h1,h2⟩ | ⟨m,hm',h1,h3,_⟩
 ·rw [h1,h2];simp only [show decide ((-1:Int)>=0)=false from rfl,cF,Option.isSome_none,false_eq_true,if_false,nil_append]
  exact (hfin [] (zero_le _)).trans (by simp only [nil_append])
 ·rw [h1,h3];simp only [dYT (show (m:Int)>=0 by omega),cT,Option.isSome_some,if_true]
  rw [kl];exact hfin [drA yu] (le_refl _)
theorem qkj (q:Int) (a b:List Bat):endQ q (a++b)=endQ (endQ q a) b:=by
 unfold endQ;rw [List.getLast?_append];cases b.getLast?<;>rfl
theorem qch (f:Int) (ps:List Pla) (hn:ps.length<=1000000):∀ (bs:List Bat) (a i:Nat) (acc:List Bat),ps.drop i=plB a bs->i<=ps.length->acc.length<=i->a+(bats bs).length<=1000000000->
  q1b f (a:Int) acc ps (ps.length:Int) (i:Int)=some ((f,(acc++bs,(((a+(bats bs).length:Nat):Int),true))),())
 | [],a,i,acc,hd,hi,ha,hz=>by
  have:=drop_eq_nil_iff.1 hd;rw [q48];have k1:decide ((i:Int) < (ps.length:Int))=false:=dYF (by omega)
  simp only [k1,cF,append_nil];rfl
 | b::bs,a,i,acc,hd,hi,ha,hz=>by
  have hd':ps.drop i=(b,((a:Int),((batL b).length:Int)))::plB (a+(batL b).length) bs:=hd;obtain ⟨e1,hlt,e2⟩:=qV dP hd';rw [q71,lA] at hz;rw [q48];have k1:decide ((i:Int) < (ps.length:Int))=true:=dYT (by omega)
  have k2:decide (0<=(i:Int))=true:=dYT (by omega)
  have k4:w64 ((i:Int)+1)=((i+1:Nat):Int):=ql (by omega)
  have k5:w64 ((a:Int)+((batL b).length:Int))=((a+(batL b).length:Nat):Int):=qo (by omega) (by omega)
  have kl:lim (acc.length+1) 32=true:=qW (by omega)
  rw [k1,k2];simp only [aS,cT];rw [kl];simp only [cT,k4,tN,e1,k5,pmk];rw [qch f ps hn bs (a+(batL b).length) (i+1) (acc++[b]) e2 hlt (by rw [lA,lS]; omega) (by omega),q71,lA,pA,singleton_append,Nat.add_assoc]
theorem qcy (n:Nat) (hn:n<=99) (t:BA):q4A (n:Int) t=some (rsO n t,()):=by
 rw [qcx,qaf n hn,q9I n hn];unfold plO rsO;cases h:segR n t with
 | none=>rfl
 | some x=>
  have hl:=qlj hn h;obtain ⟨h1,h2,h3,_,_,r,e⟩:=q4U (f:=x.1) (bs:=x.2) h;have hlen:=congrArg length e;rw [<- yj,lA,lA] at hlen;have hho:(hoO n t).2.1=((qL n x.1).length:Int):=by
   have h':=h;rw [qba n hn] at h';unfold hoO
   revert h'
   cases (unO t).1 with
   | nil=>intro h'; cases h'
   | cons s ts=>
    intro h';obtain ⟨f,hf,hx⟩:=map_eq_some_iff.1 h';simp only [hf];rw [<- hx]
  simp only [oB,nT,cF,hho];have hz:=qi4 x.2 (qL n x.1).length;have:=qch (x.1:Int) (plB (qL n x.1).length x.2) (by omega) x.2 (qL n x.1).length 0 [] rfl (zero_le _) (le_refl _) (by omega)
  exact this
theorem qj1 {bs:List Bat} (h:bs≠[]) (q:Int):(bs.getD (bs.length - 1) dB).1=endQ q bs:=by
 unfold endQ;rw [List.getLast?_eq_getElem?,List.getD_eq_getElem?_getD];have:0 < bs.length:=length_pos_iff.2 h;rw [List.getElem?_eq_getElem (show bs.length - 1 < bs.length by omega)]; rfl
theorem qde (d:List Fil) (hd30:d.length<=30) (l:List Nat) (hl:l.length<=100) (hm:∀ n∈l,n < 100/\hasN d n=true):∀ (r:List Nat) (i:Nat) (q:Int),l.drop i=r->i<=l.length->
  q2a (natI l) q (i:Int) d=some (endQ q (allB d r),())
 | [],i,q,hd,hi=>by
  have:=drop_eq_nil_iff.1 hd;have hll:(natI l).length=l.length:=length_map ..;rw [q8h,hll];have k1:decide ((i:Int) < (l.length:Int))=false:=dYF (by omega)
  simp only [k1,cF]; rfl
 | n::r,i,q,hd,hi=>by
  obtain ⟨e1,hlt,e2⟩:=qV 0 hd;obtain ⟨hn,hh⟩:=hm n (yM hd);have hll:(natI l).length=l.length:=length_map ..;have eI:(natI l).getD i 0=(n:Int):=by rw [q0m hlt,e1]
  have hb:=q4v d (show n<=99 by omega)
  rw [q8h];have k1:decide ((i:Int) < ((natI l).length:Int))=true:=dYT (by rw [hll]; omega)
  have k2:decide (0<=(i:Int))=true:=dYT (by omega)
  have k4:w64 ((i:Int)+1)=((i+1:Nat):Int):=ql (by omega)
  have ih:=fun q'=>qde d hd30 l hl hm r (i+1) q' e2 hlt
  have ea:allB d (n::r)=batD d n++allB d r:=rfl;rw [k1,k2];simp only [aS,cT,k4,tN,eI,qcn d hd30 hn hh,oB];rw [ea,qkj];by_cases h0:batD d n=[]
  ·have k5:decide (((batD d n).length:Int) > 0)=false:=dYF (by rw [h0]; decide)
   rw [k5,cF,ih,h0]; rfl
  ·have hpos:0 < (batD d n).length:=length_pos_iff.2 h0;have k5:decide (((batD d n).length:Int) > 0)=true:=dYT (by omega)
   have w1:w64 (((batD d n).length:Int) - 1)=(((batD d n).length - 1:Nat):Int):=(qo (by omega) (by omega)).trans (by omega)
   have q1:decide (0<=(((batD d n).length - 1:Nat):Int))=true:=dYT (by omega)
   have q2:decide ((((batD d n).length - 1:Nat):Int) < ((batD d n).length:Int))=true:=dYT (by omega)
   rw [k5,cT,w1,q1,q2];simp only [aS,cT,tN,qj1 h0 q];exact ih _
theorem qoR (d:List Fil) (hd30:d.length<=30) (l:List Nat) (hl:l.length<=100) (hm:∀ n∈l,n < 100/\hasN d n=true):qaw d (natI l)=some (q1w (allB d l),()):=by
 rw [qip];exact qde d hd30 l hl hm l 0 0 rfl (zero_le _)
abbrev noE:Eng:=([],(0,(0,(0,[]))))
noncomputable def opO (d:List Fil) (room:Int):Eng×List Act×Bool:=match q5p d room with
 | some x=>(x.1,(x.2,true))
 | none=>(noE,([],false))
theorem qfO {d:List Fil} (hok:dOkB d=true) (m:Nat):∀ {l:List Nat} {t:List Act},zD d m l=some t->t.length<=3 * l.length/\∀ a∈t,a.2.2.1.size<=1000000000000
 | [],t,h=>by
  have h:some []=some t:=h;rw [<- Option.some.inj h];exact ⟨zero_le _,fun a ha=>by cases ha⟩
 | n::l,t,h=>by
  have e:zD d m (n::l)=if endD d n=(txtD d n).size then zD d m l else if n=m then (zD d m l).map fun x=>adA yu (bOf ((bl (txtD d n)).take (endD d n)))::kpA yu::mvA yu (nmL n)::x else none:=rfl
  rw [e] at h;split at h
  ·obtain ⟨h1,h2⟩:=qfO hok m h;exact ⟨by rw [length_cons]; omega,h2⟩
  ·split at h
   ·obtain ⟨x,hx,rfl⟩:=map_eq_some_iff.1 h;obtain ⟨h1,h2⟩:=qfO hok m hx;refine ⟨by simp only [length_cons]; omega,fun a ha=>?_⟩
    have ht:(txtD d n).size<=20000:=by
     unfold txtD;cases hg:getK (nmL n) d with
     | none=>exact zero_le _
     | some v=>exact (q1y hok ((yO (qK.1 hok).2.2).1 hg)).2
    rcases mem_cons.1 ha with rfl | ha
    ·show (bOf _).size<=_;rw [qz ((bl (txtD d n)).take (endD d n)),List.length_take,<- yj]; omega
    ·rcases mem_cons.1 ha with rfl | ha
     ·exact zero_le _
     ·rcases mem_cons.1 ha with rfl | ha
      ·exact zero_le _
      ·exact h2 a ha
   ·cases h
theorem qlq {d:List Fil} (hok:dOkB d=true) (l:List Nat):(wP d l).length<=31/\∀ a∈wP d l,a.2.2.1.size<=1000000000000:=by
 have hl30:=(qK.1 hok).1;have hf:=length_filter_le (q0u l) d;unfold wP;refine ⟨?_,fun a ha=>?_⟩
 ·rw [lA,length_map];split
  ·rw [lS]; omega
  ·rw [List.length_nil]; omega
 ·rcases mem_append.1 ha with ha | ha
  ·split at ha
   ·rw [mem_singleton.1 ha]; exact zero_le _
   ·cases ha
  ·obtain ⟨f,_,rfl⟩:=mem_map.1 ha;exact zero_le _
theorem qm1 {d:List Fil} (hok:dOkB d=true) {l:List Nat} (hl:l.length<=100) {m:Nat} {t:List Act} (h:zD d m l=some t):aSz (wP d l++t)/\(wP d l++t).length<=400:=by
 obtain ⟨h1,h2⟩:=qfO hok m h;obtain ⟨h3,h4⟩:=qlq hok l;have hlen:(wP d l++t).length<=400:=by rw [lA]; omega
 exact ⟨⟨by omega,fun a ha=>(mem_append.1 ha).elim (h4 a) (h2 a)⟩,hlen⟩
theorem qq0 {d:List Fil} {l:List Nat} (h:segs d=some l):∀ n,n < 100->hasN d n=true->(n∈l↔¬ n < l.getD 0 0):=fun n hn hh=>by
 obtain ⟨_,h2,h3,_⟩:=jm.1 h;have hasc:AscN l:=by rw [h2]; exact q4u d
 cases hl:l with
 | nil=>exact absurd hl h3
 | cons m r=>
  rw [<- hl];have e:l.getD 0 0=m:=by rw [hl]; rfl
  have hm:m∈segN d:=by rw [<- h2,hl]; exact mem_cons_self ..
  have hle:=(q0l.1 hm).2.2;rw [e];constructor
  ·intro hx;rw [hl] at hx hasc;rcases mem_cons.1 hx with rfl | hx
   ·exact Nat.lt_irrefl _
   ·have:=(List.pairwise_cons.1 hasc).1 n hx; omega
  ·intro hx;rw [h2];exact q0l.2 ⟨hn,hh,by omega⟩
theorem qj2 {l:List Nat} (h:l≠[]) (hl:l.length<=100):(natI l).getD (toNat (w64 (((natI l).length:Int) - 1))) 0=((l.getLastD 0:Nat):Int)/\(decide (0<=w64 (((natI l).length:Int) - 1))&&decide (w64 (((natI l).length:Int) - 1) < ((natI l).length:Int)))=true:=by
 have hll:(natI l).length=l.length:=length_map ..;have hpos:0 < l.length:=length_pos_iff.2 h;have w1:w64 ((l.length:Int) - 1)=((l.length - 1:Nat):Int):=(qo (by omega) (by omega)).trans (by omega)
 rw [hll,w1];refine ⟨?_,by simp; omega⟩
 rw [tN,q0m (by omega),List.getLastD_eq_getLast?,List.getLast?_eq_getElem?,List.getD_eq_getElem?_getD]
theorem q8D:∀ (xs:List Act) (d:List Fil),(y9 d xs).2<=xs.length
 | [],_=>le_refl _
 | a::r,d=>by
  simp only [y9];split
  ·exact zero_le _
  ·rename_i x _;have:=q8D r x;rw [length_cons]; omega
theorem q8A {d:List Fil} {room:Int} (h:¬ (100<=room/\room<=20000/\q2o d=true/\rise d=true)):opO d room=(noE,([],false)):=by
 unfold opO q5p;rw [if_neg h]
theorem ql3 {d:List Fil} {room:Int} (h:100<=room/\room<=20000/\q2o d=true/\rise d=true) {l:List Nat} (hl:segs d=some l):opO d room=match zD d (l.getLastD 0) l with
  | none=>(noE,([],false))
  | some t=>if (y9 d (wP d l++t)).2=(wP d l++t).length then (mkE d (y9 d (wP d l++t)).1 room l,(wP d l++t,true)) else (noE,([],false)):=by
 unfold opO q5p;rw [if_pos h,hl];cases ht:zD d (l.getLastD 0) l with
 | none=>simp only [ht]
 | some t=>
  simp only [ht];by_cases hc:(y9 d (wP d l++t)).2=(wP d l++t).length
  ·rw [if_pos hc,if_pos hc]
  ·rw [if_neg hc,if_neg hc]
theorem q7A (d:List Fil) (hn:d.length<=2000000) (room:Int):zY d room=some (opO d room,()):=by
 rw [qdC,jg,q1u];simp only [oB];by_cases h1:100<=room/\room<=20000
 ·simp only [dYT h1,nT,cF,qfH d (show d.length<=1000000000 by omega),qgY d (show d.length<=1000000000 by omega),oB]
  cases h2:rise d with
  | false=>rw [q8A (fun h=>by rw [h2] at h; cases h.2.2.2)]; rfl
  | true=>
   cases h3:q2o d with
   | false=>rw [q8A (fun h=>by rw [h3] at h; cases h.2.2.1)]; rfl
   | true=>
    rcases q4V d with ⟨g1,g2⟩ | ⟨l,g1,g2,hok,g4,g5,g6,g7⟩
    ·unfold rise at h2;rw [g2] at h2; cases h2
    ·have hasc:AscN l:=by rw [(jm.1 g2).2.1]; exact q4u d
     have hl30:=(qK.1 hok).1;rw [ql3 ⟨h1.1,h1.2,h3,h2⟩ g2];have hdir:dirO d=(dirD d l,true):=by unfold dirO; rw [g2]
     obtain ⟨ll1,ll2⟩:=qj2 g7 g4;simp only [nT,cF,q2y d (show d.length<=1000000000 by omega),g1,oB,qnK d hok l g4 hasc g7 g5 g6 (qq0 g2)]
     cases ht:zD d (l.getLastD 0) l with
     | none=>
      simp only [q6K d hn [] ⟨zero_le _,fun a ha=>by cases ha⟩,oB,nF,cT]
     | some t=>
      obtain ⟨s1,s2⟩:=qm1 hok g4 ht;have hle:=q8D (wP d l++t) d;simp only [q6K d hn _ s1,oB,nT,cF];by_cases hc:(y9 d (wP d l++t)).2=(wP d l++t).length
      ·have k1:decide ((((y9 d (wP d l++t)).2:Nat):Int) < ((wP d l++t).length:Int))=false:=dYF (by omega)
       rw [k1,if_pos hc,ll1,ll2];simp only [cF,cT,qjG d (show d.length<=1000000000 by omega),hdir,oB,qoR d hl30 l g4 g5]
       rfl
      ·have k1:decide ((((y9 d (wP d l++t)).2:Nat):Int) < ((wP d l++t).length:Int))=true:=dYT (by omega)
       rw [k1,if_neg hc]; rfl
 ·simp only [dYF h1,nF,cT];rw [q8A (fun h=>h1 ⟨h.1,h.2.1⟩)]
noncomputable def finO (d:List Fil) (room act:Int) (dir:List Spt) (xs:List Act) (q:Int):Eng×List Act×Bool:=if (y9 d xs).2=xs.length then (((y9 d xs).1,(room,(act,(q,dir)))),(xs,true)) else (noE,([],false))
theorem q5b (d:List Fil) (hok:dOkB d=true) (l:List Nat) (hl:l.length<=100) (hasc:AscN l) (hm:∀ n∈l,n < 100/\hasN d n=true) (hs:∀ n∈l,(segD d n).isSome=true) (z:List Fil) (room:Int) (dir:List Spt):∀ (r:List Nat) (i:Nat) (xs:List Act) (q:Int),l.drop i=r->i<=l.length->xs.length<=1000+3 * i->(∀ a∈xs,a.2.2.1.size<=1000000000000)->
  wL xs (natI l) ((natI l).length:Int) (i:Int) d [] 0 0 0 [] z room ((l.getLastD 0:Nat):Int) q dir=some ((match zD d (l.getLastD 0) r with | none=>(noE,([],false)) | some t=>finO d room ((l.getLastD 0:Nat):Int) dir (xs++t) (endQ q (allB d r))),())
 | [],i,xs,q,hd,hi,ha,hx=>by
  have:=drop_eq_nil_iff.1 hd;have hll:(natI l).length=l.length:=length_map ..;have hl30:=(qK.1 hok).1;have hle:=q8D xs d;rw [q4Q,hll];have k1:decide ((i:Int) < (l.length:Int))=false:=dYF (by omega)
  rw [k1,cF,qhP d (by omega) xs ⟨by omega,hx⟩]
  have et:zD d (l.getLastD 0) []=some []:=rfl;have eq:endQ q (allB d [])=q:=rfl;rw [et,eq];simp only [oB,append_nil];unfold finO;by_cases hc:(y9 d xs).2=xs.length
  ·have k2:decide ((((y9 d xs).2:Nat):Int) < (xs.length:Int))=false:=dYF (by omega)
   rw [k2,if_pos hc]; rfl
  ·have k2:decide ((((y9 d xs).2:Nat):Int) < (xs.length:Int))=true:=dYT (by omega)
   rw [k2,if_neg hc]; rfl
 | n::r,i,xs,q,hd,hi,ha,hx=>by
  obtain ⟨e1,hlt,e2⟩:=qV 0 hd;obtain ⟨hn,hh⟩:=hm n (yM hd);have hl30:=(qK.1 hok).1;have hll:(natI l).length=l.length:=length_map ..;have eI:(natI l).getD i 0=(n:Int):=by rw [q0m hlt,e1]
  obtain ⟨q1,q2,q3⟩:=qot hn hh (hs n (yM hd));have qb:=qi9 hn hh;rw [q2] at q1 qb;have hb:=q4v d (show n<=99 by omega)
  have ea:allB d (n::r)=batD d n++allB d r:=rfl;rw [q4Q,qhs hasc hd,ea,qkj];have k1:decide ((i:Int) < ((natI l).length:Int))=true:=dYT (by rw [hll]; omega)
  have k2:decide (0<=(i:Int))=true:=dYT (by omega)
  have k4:w64 ((i:Int)+1)=((i+1:Nat):Int):=ql (by omega)
  rw [k1,k2];simp only [aS,cT];rw [k4];simp only [tN,eI,q0b,q0d hn,q27 d (show d.length<=1000000000 by omega),oB,q2,qcy n (show n<=99 by omega),q1,qb]
  have kl:lim (xs.length+3) 56=true:=qW (by omega)
  have k6:decide ((0:Int)<=((endD d n:Nat):Int))=true:=dYT (by omega)
  have k7:decide (((endD d n:Nat):Int)<=((txtD d n).size:Int))=true:=dYT (by omega)
  have go:∀ s:Int,(bif ((endD d n:Nat):Int)==((txtD d n).size:Int) then wL xs (natI l) ((natI l).length:Int) ((i+1:Nat):Int) d [] 0 0 0 [] z room ((l.getLastD 0:Nat):Int) s dir
    else bif (n:Int) != ((l.getLastD 0:Nat):Int) then some ((noE,([],false)),())
    else bif decide ((0:Int)<=0)&&(decide ((0:Int)<=((endD d n:Nat):Int))&&decide (((endD d n:Nat):Int)<=((txtD d n).size:Int))) then
     bif lim (xs.length+3) 56 then wL (xs++[((1:Int),(qH,((txtD d n).extract (toNat 0) (endD d n),eB))),(2,(qH,(eB,eB))),(3,(qH,(eB,nmL n)))]) (natI l) ((natI l).length:Int) ((i+1:Nat):Int) d [] 0 0 0 [] z room ((l.getLastD 0:Nat):Int) s dir
     else none
    else none)=some ((match (if endD d n=(txtD d n).size then zD d (l.getLastD 0) r else if r=[] then some (qcb d n) else none) with | none=>(noE,([],false)) | some t=>finO d room ((l.getLastD 0:Nat):Int) dir (xs++t) (endQ s (allB d r))),()):=fun s=>by
   by_cases he:endD d n=(txtD d n).size
   ·have b:(((endD d n:Nat):Int)==((txtD d n).size:Int))=true:=by rw [beq_iff_eq]; omega
    rw [b,cT,if_pos he];exact q5b d hok l hl hasc hm hs z room dir r (i+1) xs s e2 hlt (by omega) hx
   ·have b:(((endD d n:Nat):Int)==((txtD d n).size:Int))=false:=by rw [<- not_eq_true,beq_iff_eq]; omega
    rw [b,cF,if_neg he];by_cases hr:r=[]
    ·have hna:=(q9w hasc hd).2 hr;have b2:((n:Int) != ((l.getLastD 0:Nat):Int))=false:=by rw [<- hna]; simp
     have e0:(txtD d n).extract (toNat 0) (endD d n)=(txtD d n).extract 0 (endD d n):=rfl;have htr:zD d (l.getLastD 0) r=some []:=by rw [hr]; rfl
     have hsz:(txtD d n).size<=20000:=by
      unfold txtD;cases hg:getK (nmL n) d with
      | none=>exact zero_le _
      | some v=>exact (q1y hok ((yO (qK.1 hok).2.2).1 hg)).2
     rw [b2,cF,show decide ((0:Int)<=0)=true from rfl,k6,k7,kl,e0,qlv,if_pos hr]
     simp only [aS,cT];rw [q5b d hok l hl hasc hm hs z room dir r (i+1) (xs++qcb d n) s e2 hlt (by rw [lA,qjm]; omega) (fun a ha=>by
      rcases mem_append.1 ha with ha | ha
      ·exact hx a ha
      ·unfold qcb at ha;rcases mem_cons.1 ha with rfl | ha
       ·show (bOf _).size<=_;rw [qz ((bl (txtD d n)).take (endD d n)),List.length_take,<- yj]; omega
       ·rcases mem_cons.1 ha with rfl | ha
        ·exact zero_le _
        ·rw [mem_singleton.1 ha]; exact zero_le _),htr]
     simp only [append_nil]
    ·have hna:n≠l.getLastD 0:=fun e=>hr ((q9w hasc hd).1 e)
     have b2:((n:Int) != ((l.getLastD 0:Nat):Int))=true:=by rw [bne_iff_ne]; omega
     rw [b2,cT,if_neg hr]
  by_cases h0:batD d n=[]
  ·have k5:decide (((batD d n).length:Int) > 0)=false:=dYF (by rw [h0]; decide)
   rw [k5,cF];have:endQ q (batD d n)=q:=by rw [h0]; rfl
   rw [this];exact go q
  ·have hpos:0 < (batD d n).length:=length_pos_iff.2 h0;have k5:decide (((batD d n).length:Int) > 0)=true:=dYT (by omega)
   have w1:w64 (((batD d n).length:Int) - 1)=(((batD d n).length - 1:Nat):Int):=(qo (by omega) (by omega)).trans (by omega)
   have p1:decide (0<=(((batD d n).length - 1:Nat):Int))=true:=dYT (by omega)
   have p2:decide ((((batD d n).length - 1:Nat):Int) < ((batD d n).length:Int))=true:=dYT (by omega)
   rw [k5,cT,w1,p1,p2];simp only [aS,cT,tN,qj1 h0 q];exact go _
theorem qd7 (d:List Fil) (hn:d.length<=2000000) (room:Int):q5a d room=some (opO d room,()):=by
 rw [qd6,jB,q1u];simp only [oB];by_cases h1:100<=room/\room<=20000
 ·simp only [dYT h1,nT,cF,qfk d (show d.length<=1000000000 by omega),qgj d (show d.length<=1000000000 by omega),oB]
  cases h3:q2o d with
  | false=>rw [q8A (fun h=>by rw [h3] at h; cases h.2.2.1)]; rfl
  | true=>
   cases h2:rise d with
   | false=>rw [q8A (fun h=>by rw [h2] at h; cases h.2.2.2)]; rfl
   | true=>
    rcases q4V d with ⟨g1,g2⟩ | ⟨l,g1,g2,hok,g4,g5,g6,g7⟩
    ·unfold rise at h2;rw [g2] at h2; cases h2
    ·have hasc:AscN l:=by rw [(jm.1 g2).2.1]; exact q4u d
     rw [ql3 ⟨h1.1,h1.2,h3,h2⟩ g2];have hdir:dirO d=(dirD d l,true):=by unfold dirO; rw [g2]
     obtain ⟨ll1,ll2⟩:=qj2 g7 g4;obtain ⟨s1,s2⟩:=qlq hok l;simp only [nT,cF,q4B d (show d.length<=1000000000 by omega),g1,oB,qjr d (show d.length<=1000000000 by omega),hdir,qlI d hok l g4]
     rw [ll1,ll2,cT];refine (q5b d hok l g4 hasc g5 g6 [] room (dirD d l) l 0 (wP d l) 0 rfl (zero_le _) (by omega) s2).trans ?_
     cases ht:zD d (l.getLastD 0) l with
     | none=>simp only [ht]
     | some t=>simp only [ht]; rfl
 ·simp only [dYF h1,nF,cT];rw [q8A (fun h=>h1 ⟨h.1,h.2.1⟩)]
end Go.Den.S
namespace Go.Den.S
open Go Go.Den
open Classical
set_option maxRecDepth 4000
theorem qs4 (a b:Fil):(decide (a.1=b.1)&&(decide (a.2.1=b.2.1)&&((a.2.2==b.2.2)&&true)))=decide (a=b):=by
 rw [Bool.eq_iff_iff];simp only [and_eq_true,decide_eq_true_eq,beq_iff_eq,and_true];constructor
 ·rintro ⟨h1,h2,h3⟩; exact Prod.ext h1 (Prod.ext h2 h3)
 ·rintro rfl; exact ⟨rfl,rfl,rfl⟩
theorem qps (a b:Spt):(decide (a.1=b.1)&&((a.2.1==b.2.1)&&((a.2.2.1==b.2.2.1)&&((a.2.2.2==b.2.2.2)&&true))))=decide (a=b):=by
 rw [Bool.eq_iff_iff];simp only [and_eq_true,decide_eq_true_eq,beq_iff_eq,and_true];constructor
 ·rintro ⟨h1,h2,h3,h4⟩; exact Prod.ext h1 (Prod.ext h2 (Prod.ext h3 h4))
 ·rintro rfl; exact ⟨rfl,rfl,rfl,rfl⟩
theorem qiz (a b:List Fil) (hn:a.length<=1000000000) (hl:a.length=b.length):∀ (k i:Nat),i+k=a.length->qN a b (a.length:Int) (i:Int)=some (decide (a.drop i=b.drop i),())
 | 0,i,hi=>by
  rw [yS];have k1:decide ((i:Int) < (a.length:Int))=false:=dYF (by omega)
  rw [k1,cF,List.drop_eq_nil_of_le (show a.length<=i by omega),List.drop_eq_nil_of_le (show b.length<=i by omega),dYT rfl]
 | k+1,i,hi=>by
  have hla:i < a.length:=by omega
  have hlb:i < b.length:=by omega
  rw [yS];have k1:decide ((i:Int) < (a.length:Int))=true:=dYT (by omega)
  have k2:decide (0<=(i:Int))=true:=dYT (by omega)
  have k3:decide ((i:Int) < (b.length:Int))=true:=dYT (by omega)
  have k4:w64 ((i:Int)+1)=((i+1:Nat):Int):=ql (by omega)
  rw [k1,k2];simp only [aS,cT];rw [k3,k4];simp only [aS,cT,tN,y5,qs4,qiz a b hn hl k (i+1) (by omega)]
  rw [drop_eq_getElem_cons hla,drop_eq_getElem_cons hlb,<- wT (d:=dF) hla,<- wT (d:=dF) hlb];by_cases h:a.getD i dF=b.getD i dF
  ·rw [dYT h,nT,cF,h];simp only [List.cons.injEq,true_and]
  ·simp only [dYF h,nF,cT,List.cons.injEq,h,false_and,decide_false]
theorem qiA (a b:List Spt) (hn:a.length<=1000000000) (hl:a.length=b.length):∀ (k i:Nat),i+k=a.length->qO a b (a.length:Int) (i:Int)=some (decide (a.drop i=b.drop i),())
 | 0,i,hi=>by
  rw [yT];have k1:decide ((i:Int) < (a.length:Int))=false:=dYF (by omega)
  rw [k1,cF,List.drop_eq_nil_of_le (show a.length<=i by omega),List.drop_eq_nil_of_le (show b.length<=i by omega),dYT rfl]
 | k+1,i,hi=>by
  have hla:i < a.length:=by omega
  have hlb:i < b.length:=by omega
  rw [yT];have k1:decide ((i:Int) < (a.length:Int))=true:=dYT (by omega)
  have k2:decide (0<=(i:Int))=true:=dYT (by omega)
  have k3:decide ((i:Int) < (b.length:Int))=true:=dYT (by omega)
  have k4:w64 ((i:Int)+1)=((i+1:Nat):Int):=ql (by omega)
  rw [k1,k2];simp only [aS,cT];rw [k3,k4];simp only [aS,cT,tN,y5,qps,qiA a b hn hl k (i+1) (by omega)]
  rw [drop_eq_getElem_cons hla,drop_eq_getElem_cons hlb,<- wT (d:=dS) hla,<- wT (d:=dS) hlb];by_cases h:a.getD i dS=b.getD i dS
  ·rw [dYT h,nT,cF,h];simp only [List.cons.injEq,true_and]
  ·simp only [dYF h,nF,cT,List.cons.injEq,h,false_and,decide_false]
theorem qrS (a b:List Fil) (hn:a.length<=1000000000):yx a b=some (decide (a=b),()):=by
 rw [zf];by_cases hl:a.length=b.length
 ·have k:(((a.length:Nat):Int) != (b.length:Int))=false:=by rw [hl]; simp
  rw [k,cF];exact qiz a b hn hl a.length 0 (by omega)
 ·have k:(((a.length:Nat):Int) != (b.length:Int))=true:=by rw [bne_iff_ne]; omega
  rw [k,cT,dYF (fun e=>hl (by rw [e]))]
theorem qrT (a b:List Spt) (hn:a.length<=1000000000):yA a b=some (decide (a=b),()):=by
 rw [zh];by_cases hl:a.length=b.length
 ·have k:(((a.length:Nat):Int) != (b.length:Int))=false:=by rw [hl]; simp
  rw [k,cF];exact qiA a b hn hl a.length 0 (by omega)
 ·have k:(((a.length:Nat):Int) != (b.length:Int))=true:=by rw [bne_iff_ne]; omega
  rw [k,cT,dYF (fun e=>hl (by rw [e]))]
theorem qrB (x e:Eng) (h1:x.1.length<=1000000000) (h2:x.2.2.2.2.length<=1000000000):q5j x e=some (decide (x=e),()):=by
 rw [qdd,qrS _ _ h1,qrT _ _ h2];simp only [oB];have key:decide (x=e)=(decide (x.1=e.1)&&((x.2.1==e.2.1)&&((x.2.2.1==e.2.2.1)&&((x.2.2.2.1==e.2.2.2.1)&&decide (x.2.2.2.2=e.2.2.2.2))))):=by
  rw [Bool.eq_iff_iff];simp only [and_eq_true,decide_eq_true_eq,beq_iff_eq];constructor
  ·rintro rfl; exact ⟨rfl,rfl,rfl,rfl,rfl⟩
  ·rintro ⟨a,b,c,d,f⟩; exact Prod.ext a (Prod.ext b (Prod.ext c (Prod.ext d f)))
 rw [key];cases decide (x.1=e.1)<;>cases (x.2.1==e.2.1)<;>cases (x.2.2.1==e.2.2.1)<;>cases (x.2.2.2.1==e.2.2.2.1)<;>rfl
theorem qkn (d:List Fil):∀ l:List Nat,(∀ n∈l,n < 100)->(l.flatMap (opsN d)).length<=800000 * l.length
 | [],_=>le_refl _
 | n::l,h=>by
  have h1:=qkn d l fun x hx=>h x (mem_cons_of_mem _ hx)
  have hn:=h n (mem_cons_self ..);have h2:(opsN d n).length<=800000:=by
   rw [qb2];have a:=qbI n (batD d n) (q09 d n) qaB;have b:=q4v d (show n<=99 by omega)
   omega
  rw [List.flatMap_cons,lA,length_cons]; omega
theorem qki {d:List Fil} {l:List Nat} (hl:l.length<=100) (hm:∀ n∈l,n < 100):(dirD d l).length<=80000000:=by
 rw [qdU];have h1:=q78 (l.flatMap (opsN d)) [];have h2:=qkn d l hm;unfold runK;rw [List.length_nil] at h1;omega
theorem qjX:∀ (xs:List Act) (d:List Fil),d.length<=2000000->(y9 d xs).1.length<=2000000
 | [],d,h=>h
 | a::r,d,h=>by
  simp only [y9];split
  ·exact h
  ·rename_i x hx;exact qjX r x (qhx hx)
theorem ql2 {d:List Fil} (hd:d.length<=2000000) {room:Int} {x:Eng×List Act} (h:q5p d room=some x):x.1.1.length<=2000000/\x.1.2.2.2.2.length<=80000000/\x.2.length<=1000000000:=by
 unfold q5p at h;split at h
 ·split at h
  ·cases h
  ·rename_i l hl;obtain ⟨h1,h2,h3,h4⟩:=jm.1 hl;have hlen:l.length<=100:=by
    rw [h2]; unfold segN;exact le_trans (length_filter_le ..) (by simp)
   split at h
   ·cases h
   ·rename_i t ht;split at h
    ·rw [<- Option.some.inj h];refine ⟨qjX _ _ hd,qki hlen (fun n hn=>?_),(qm1 h1 hlen ht).1.1⟩
     rw [h2] at hn;exact (q0l.1 hn).1
    ·cases h
 ·cases h
theorem qff (e:Eng) (hd:e.1.length<=2000000):q7P e=some (decide (eOkP e),()):=by
 rw [qfe,qd7 e.1 hd];simp only [oB];unfold opO eOkP;cases hx:q5p e.1 e.2.1 with
 | none=>simp
 | some x=>
  obtain ⟨x,xs⟩:=x;obtain ⟨l1,l2,_⟩:=ql2 hd hx;have l1:x.1.length<=2000000:=l1;have l2:x.2.2.2.2.length<=80000000:=l2;simp only [cT];cases xs with
  | nil=>
   have k:((([]:List Act).length:Int)==0)=true:=rfl;rw [k,cT,qrB x e (by omega) (by omega)]
   simp
  | cons a r=>
   have k:(((a::r).length:Int)==0)=false:=by rw [<- not_eq_true,beq_iff_eq,length_cons]; omega
   rw [k,cF];simp
theorem qcp (e x:Eng) (hn:x.2.2.2.2.length<=1000000000) (hl:x.2.2.2.2.length=e.2.2.2.2.length):∀ (k i:Nat),i+k=x.2.2.2.2.length->q2x (i:Int) e.1 e.2.1 e.2.2.1 e.2.2.2.1 e.2.2.2.2 x.1 x.2.1 x.2.2.1 x.2.2.2.1 x.2.2.2.2=some (decide (x.2.2.2.2.drop i=e.2.2.2.2.drop i),())
 | 0,i,hi=>by
  rw [q62];have k1:decide ((i:Int) < (x.2.2.2.2.length:Int))=false:=dYF (by omega)
  rw [k1,cF,List.drop_eq_nil_of_le (show x.2.2.2.2.length<=i by omega),List.drop_eq_nil_of_le (show e.2.2.2.2.length<=i by omega),dYT rfl]
 | k+1,i,hi=>by
  have hla:i < x.2.2.2.2.length:=by omega
  have hlb:i < e.2.2.2.2.length:=by omega
  rw [q62];have k1:decide ((i:Int) < (x.2.2.2.2.length:Int))=true:=dYT (by omega)
  have k2:decide (0<=(i:Int))=true:=dYT (by omega)
  have k3:decide ((i:Int) < (e.2.2.2.2.length:Int))=true:=dYT (by omega)
  have k4:w64 ((i:Int)+1)=((i+1:Nat):Int):=ql (by omega)
  rw [k1,k2];simp only [aS,cT];rw [k3,k4];simp only [aS,cT,tN,y5,qps,qcp e x hn hl k (i+1) (by omega)]
  rw [drop_eq_getElem_cons hla,drop_eq_getElem_cons hlb,<- wT (d:=dS) hla,<- wT (d:=dS) hlb];by_cases h:x.2.2.2.2.getD i dS=e.2.2.2.2.getD i dS
  ·rw [dYT h,nT,cF,h];simp only [List.cons.injEq,true_and]
  ·simp only [dYF h,nF,cT,List.cons.injEq,h,false_and,decide_false]
theorem qp1 {d:List Fil} {room:Int} {x:Eng} (h:q5p d room=some (x,[])):x.1=d/\x.2.1=room:=by
 obtain ⟨_,_,l,_,e⟩:=qad.1 h;rw [e]; exact ⟨rfl,rfl⟩
theorem qfC (e:Eng) (hd:e.1.length<=2000000):q7Y e=some (decide (eOkP e),()):=by
 rw [qfB,q7A e.1 hd];simp only [oB];unfold opO eOkP;cases hx:q5p e.1 e.2.1 with
 | none=>simp
 | some x=>
  obtain ⟨x,xs⟩:=x;obtain ⟨l1,l2,_⟩:=ql2 hd hx;have l2:x.2.2.2.2.length<=80000000:=l2;simp only [nT,cF];cases xs with
  | nil=>
   obtain ⟨d1,d2⟩:=qp1 hx;have k:decide ((([]:List Act).length:Int) > 0)=false:=rfl;rw [k,cF];have key:(some (x,([]:List Act))=some (e,[]))↔x.2.2.1=e.2.2.1/\x.2.2.2.1=e.2.2.2.1/\x.2.2.2.2=e.2.2.2.2:=by
    constructor
    ·intro h;have:=(Prod.mk.inj (Option.some.inj h)).1;rw [this]; exact ⟨rfl,rfl,rfl⟩
    ·rintro ⟨a,b,c⟩
     have:x=e:=Prod.ext d1 (Prod.ext d2 (Prod.ext a (Prod.ext b c)));rw [this]
   by_cases h1:x.2.2.1=e.2.2.1
   ·have b1:(x.2.2.1 != e.2.2.1)=false:=by rw [h1]; simp
    rw [b1,cF];by_cases h2:x.2.2.2.1=e.2.2.2.1
    ·have b2:(x.2.2.2.1 != e.2.2.2.1)=false:=by rw [h2]; simp
     rw [b2,cF];by_cases hl:x.2.2.2.2.length=e.2.2.2.2.length
     ·have b3:((x.2.2.2.2.length:Int) != (e.2.2.2.2.length:Int))=false:=by rw [hl]; simp
      rw [b3,cF];refine (qcp e x (by omega) hl x.2.2.2.2.length 0 (by omega)).trans ?_
      rw [drop_zero,drop_zero];refine congrArg (fun b=>some (b,())) ?_
      rw [Bool.eq_iff_iff];simp only [decide_eq_true_eq];exact ⟨fun h=>key.2 ⟨h1,h2,h⟩,fun h=>(key.1 h).2.2⟩
     ·have b3:((x.2.2.2.2.length:Int) != (e.2.2.2.2.length:Int))=true:=by rw [bne_iff_ne]; omega
      rw [b3,cT];refine congrArg (fun b=>some (b,())) ?_
      rw [Bool.eq_iff_iff];simp only [false_eq_true,false_iff,decide_eq_true_eq];exact (fun h=>hl (by rw [(key.1 h).2.2]))
    ·have b2:(x.2.2.2.1 != e.2.2.2.1)=true:=by rw [bne_iff_ne]; exact h2
     rw [b2,cT];refine congrArg (fun b=>some (b,())) ?_
     rw [Bool.eq_iff_iff];simp only [false_eq_true,false_iff,decide_eq_true_eq];exact (fun h=>h2 (key.1 h).2.1)
   ·have b1:(x.2.2.1 != e.2.2.1)=true:=by rw [bne_iff_ne]; exact h1
    rw [b1,cT];refine congrArg (fun b=>some (b,())) ?_
    rw [Bool.eq_iff_iff];simp only [false_eq_true,false_iff,decide_eq_true_eq];exact (fun h=>h1 (key.1 h).1)
  | cons a r=>
   have k:decide (((a::r).length:Int) > 0)=true:=dYT (by rw [length_cons]; omega)
   rw [k,cT];simp
end Go.Den.S
namespace Go.Den.S
open Go Go.Den
set_option maxRecDepth 4000
def qbL (k:BA) (l:List Chg):BA×Bool:=match l.find? (fun c=>decide (c.1=k)&&!c.2.2) with
 | some c=>(c.2.1,true)
 | none=>(eB,false)
theorem qnV (k:BA) (c:Chg) (r:List Chg):qbL k (c::r)=bif decide (c.1=k) then (bif !c.2.2 then (c.2.1,true) else qbL k r) else qbL k r:=by
 unfold qbL;rw [find?_cons];cases decide (c.1=k)<;>cases c.2.2<;>rfl
theorem qck (s:Spt) (cs:List Chg) (hn:cs.length<=1000000000):∀ (r:List Chg) (i:Nat),cs.drop i=r->i<=cs.length->
  q1t cs (cs.length:Int) (i:Int) s.1 s.2.1 s.2.2.1 s.2.2.2=some (qbL s.1 r,())
 | [],i,hd,hi=>by
  have:=drop_eq_nil_iff.1 hd;rw [q7o];have k1:decide ((i:Int) < (cs.length:Int))=false:=dYF (by omega)
  simp only [k1,cF]; rfl
 | c::r,i,hd,hi=>by
  obtain ⟨e1,hlt,e2⟩:=qV dC hd;rw [q7o];have k1:decide ((i:Int) < (cs.length:Int))=true:=dYT (by omega)
  have k2:decide (0<=(i:Int))=true:=dYT (by omega)
  have k4:w64 ((i:Int)+1)=((i+1:Nat):Int):=ql (by omega)
  rw [k1,k2];simp only [aS,cT,k4,tN,e1,y5,qck s cs hn r (i+1) e2 hlt,qnV];cases decide (c.1=s.1)<;>cases c.2.2<;>rfl
noncomputable def q9z (d:List Fil) (n:Nat) (a:Int):Option Bat:=(getK (nmL n) d).bind fun x=>
 if a < 0\/(x.1.size:Int) < a then none else match (unfr ((bl x.1).drop a.toNat)).1 with
  | []=>none
  | h::_=>jC h
theorem qbe (d:List Fil) (s:Spt) {n:Nat} (h:s.2.1=(n:Int)):valD d s=(q9z d n s.2.2.1).bind fun b=>if b.1=s.2.2.2 then (b.2.find? fun c=>decide (c.1=s.1)&&!c.2.2).map (·.2.1) else none:=by
 unfold valD q9z;rw [h,if_neg (by omega),tN]
 cases getK (nmL n) d with
 | none=>rfl
 | some x=>
  simp only [oB];split
  ·rfl
  ·cases (unfr ((bl x.1).drop s.2.2.1.toNat)).1 with
   | nil=>rfl
   | cons h r=>rfl
noncomputable def voO (d:List Fil) (s:Spt):BA×Bool:=match valD d s with
 | some v=>(v,true)
 | none=>(eB,false)
theorem qcg {d:List Fil} {s:Spt} (h:valD d s=none):voO d s=(eB,false):=by unfold voO; rw [h]
theorem qqz {d:List Fil} {s:Spt} {n:Nat} (h:s.2.1=(n:Int)) {b:Bat} (hb:q9z d n s.2.2.1=some b):voO d s=bif (b.1 != s.2.2.2) then (eB,false) else qbL s.1 b.2:=by
 unfold voO;rw [qbe d s h,hb];simp only [oB];by_cases e:b.1=s.2.2.2
 ·have:(b.1 != s.2.2.2)=false:=by rw [e]; simp
  rw [this,if_pos e,cF];unfold qbL;cases b.2.find? fun c=>decide (c.1=s.1)&&!c.2.2<;>rfl
 ·have:(b.1 != s.2.2.2)=true:=bne_iff_ne.2 e;rw [this,if_neg e,cT]
theorem qmn (t:BA) (a:Nat):bl (t.extract a t.size)=(bl t).drop a:=by
 rw [q3f,List.take_of_length_le];rw [length_drop,<- yj]; omega
theorem qpc {h:BA} {b:Bat} (e:jC h=some b):b.2.length<=40:=qg0 (q0F.1 e).1
theorem qgA (d:List Fil) (hd:dOkB d=true) (s:Spt) {n:Nat} (hn:n < 100) (h:s.2.1=(n:Int)):q8T d s=some (voO d s,()):=by
 have hl:=(qK.1 hd).1;rw [qgz,q0b,h,q0d hn];simp only [oB];rw [q27 d (by omega)]
 simp only [oB];rw [zN d (by omega),hd]
 unfold faO;cases hg:getK (nmL n) d with
 | none=>rw [qcg (by rw [qbe d s h]; unfold q9z; rw [hg]; rfl)]; rfl
 | some x=>
  have hf:=(yO (qK.1 hd).2.2).1 hg;have hx:x.1.size<=20000:=(q03.1 ((qK.1 hd).2.1 _ hf)).2.2.1;simp only [oB,nT,cF,jB,q1u];by_cases ha:0<=s.2.2.1/\s.2.2.1<=(x.1.size:Int)
  ·rw [dYT ha,dYT ha.1,dYT ha.2,dYT (Int.le_refl _),q5e];simp only [nT,cF,aS,cT,oB,tN];have hu:(unO (x.1.extract s.2.2.1.toNat x.1.size)).1=(unfr ((bl x.1).drop s.2.2.1.toNat)).1:=by
    unfold unO;rw [if_pos (by rw [yj,qmn,length_drop,<- yj]; omega),qmn]
   have hf:=fun h=>qht (t:=x.1.extract s.2.2.1.toNat x.1.size) (h:=h)
   have hba:q9z d n s.2.2.1=match (unfr ((bl x.1).drop s.2.2.1.toNat)).1 with | []=>none | h::_=>jC h:=by
    unfold q9z;rw [hg,oB,if_neg (by omega)]
   rw [hu] at hf ⊢;cases hc:(unfr ((bl x.1).drop s.2.2.1.toNat)).1 with
   | nil=>rw [hc] at hba; rw [qcg (by rw [qbe d s h,hba]; rfl)]; rfl
   | cons t r=>
    have hh:frOk t:=hf t (by rw [hc]; exact mem_cons_self ..)
    have k1:(((t::r).length:Int)==0)=false:=by rw [beq_eq_false_iff_ne,length_cons]; omega
    have k2:decide ((0:Int) < ((t::r).length:Int))=true:=dYT (by rw [length_cons]; omega)
    have k3:decide ((0:Int)<=0)=true:=rfl;have k4:(t::r).getD (toNat 0) eB=t:=rfl;rw [k1,k2,k3,k4,q86 t (by have:=hh.2; omega)]
    rw [hc] at hba;have hba:q9z d n s.2.2.1=jC t:=hba;simp only [cF,aS,cT,oB];cases hb:jC t with
    | none=>rw [qfw hb,qcg (by rw [qbe d s h,hba,hb]; rfl)]; rfl
    | some b=>
     have hb40:=qpc hb;rw [qfx hb,qqz h (hba.trans hb)];simp only [nT,cF];have:=qck s b.2 (by omega) b.2 0 rfl (zero_le _)
     rw [h] at this;rw [show ((0:Int))=((0:Nat):Int) from rfl,this]
     cases (b.1 != s.2.2.2)<;>rfl
  ·rw [dYF ha,qcg (by
    rw [qbe d s h]; unfold q9z; rw [hg,oB,if_pos (by omega)]; rfl)]; rfl
end Go.Den.S
namespace Go.Den.S
open Go Go.Den
open Classical
set_option maxRecDepth 4000
theorem qr1 {d:List Fil} {l:List Nat} {s:Spt} (h:s∈dirD d l):∃ n∈l,s.2.1=(n:Int):=by
 unfold dirD at h;obtain ⟨x,hx,rfl⟩:=mem_map.1 h;have h:=qkU hx;unfold qhr at h;obtain ⟨n,hn,h⟩:=List.mem_flatMap.1 h;obtain ⟨p,hp,h⟩:=List.mem_flatMap.1 h;unfold qc8 at h;obtain ⟨c,hc,h⟩:=mem_map.1 h;simp only [Prod.mk.injEq] at h;obtain ⟨e1,e2⟩:=h;refine ⟨n,hn,?_⟩;cases hg:c.2.2 with
 | true=>rw [hg] at e2; cases e2
 | false=>
  rw [hg] at e2;simp only [cF,Option.some.injEq] at e2;show x.2.1.1=_;rw [<- e2]
noncomputable def conS (d:List Fil) (l:List Spt):List Chg:=l.map fun s=>(s.1,((voO d s).1,false))
theorem qaO (e:Eng) (hd:dOkB e.1=true) (l:List Spt) (hl:l.length<=1000000000) (hs:∀ s∈l,∃ n:Nat,n < 100/\s.2.1=(n:Int)):∀ (r:List Spt) (i:Nat) (acc:List Chg),l.drop i=r->i<=l.length->acc.length<=i->
  q2m acc l (l.length:Int) (i:Int) e.1 e.2.1 e.2.2.1 e.2.2.2.1 e.2.2.2.2=some ((acc++conS e.1 r,true),())
 | [],i,acc,hd',hi,ha=>by
  have:=drop_eq_nil_iff.1 hd';rw [q5T];have k1:decide ((i:Int) < (l.length:Int))=false:=dYF (by omega)
  simp only [k1,cF];show _=some ((acc++[],true),());rw [append_nil]
 | s::r,i,acc,hd',hi,ha=>by
  obtain ⟨e1,hlt,e2⟩:=qV dS hd';obtain ⟨n,hn,h⟩:=hs s (yM hd');rw [q5T];have k1:decide ((i:Int) < (l.length:Int))=true:=dYT (by omega)
  have k2:decide (0<=(i:Int))=true:=dYT (by omega)
  have k4:w64 ((i:Int)+1)=((i+1:Nat):Int):=ql (by omega)
  have kl:lim (acc.length+1) 40=true:=qW (by omega)
  rw [k1,k2];simp only [aS,cT,k4,tN,e1,pmk];rw [qgA e.1 hd s hn h];simp only [oB];rw [kl,cT,qaO e hd l hl hs r (i+1) _ e2 hlt (by rw [lA,lS]; omega),pA]
  rfl
noncomputable def coO (e:Eng):List Chg×Bool:=if eOkP e then (conS e.1 e.2.2.2.2,true) else ([],false)
theorem qlk {d:List Fil} {l:List Nat} (h:segs d=some l):l.length<=100:=by
 rw [(jm.1 h).2.1]; unfold segN;exact le_trans (length_filter_le ..) (by simp)
theorem qou {e:Eng} (h:eOkP e):dOkB e.1=true/\e.2.2.2.2.length<=80000000/\∀ s∈e.2.2.2.2,∃ n:Nat,n < 100/\s.2.1=(n:Int):=by
 obtain ⟨_,_,l,C,he⟩:=q6q.1 h;have h5:e.2.2.2.2=dirD e.1 l:=by rw [he]; rfl
 have hm:∀ n∈l,n < 100:=fun n hn=>(C.mem.1 hn).1
 refine ⟨C.ok,?_,fun s hs=>?_⟩
 ·rw [h5]; exact qki (qlk C.segs) hm
 ·rw [h5] at hs;obtain ⟨n,hn,e1⟩:=qr1 hs;exact ⟨n,hm n hn,e1⟩
theorem qfd (e:Eng) (hd:e.1.length<=2000000):q7O e=some (coO e,()):=by
 rw [qfc,qff e hd];unfold coO;by_cases h:eOkP e
 ·obtain ⟨f1,f2,f3⟩:=qou h;rw [dYT h,if_pos h];exact qaO e f1 e.2.2.2.2 (by omega) f3 e.2.2.2.2 0 [] rfl (zero_le _) (le_refl _)
 ·rw [dYF h,if_neg h]; rfl
def chgs (m:List (BA×BA)):List Chg:=m.map fun x=>(x.1,(x.2,false))
theorem qqT {d:List Fil} {l:List Nat} (C:Clean d l):conS d (dirD d l)=chgs (conD d l):=by
 unfold conS chgs;rw [<- qqU (fun n hn=>C.seg hn),List.map_map]
 refine List.map_congr_left fun s hs=>?_
 show (s.1,((voO d s).1,false))=(s.1,((valD d s).getD (bOf []),false));unfold voO;cases valD d s<;>rfl
theorem qs0 {d:List Fil} {l:List Nat} (C:Clean d l) {room:Int} (h1:100<=room) (h2:room<=20000):coO (mkE d d room l)=(chgs (conD d l),true):=by
 unfold coO;rw [if_pos (q6q.2 ⟨h1,h2,l,C,rfl⟩)];show (conS d (dirD d l),true)=_;rw [qqT C]
theorem mx (k m:Int):(bif decide (m > k) then m else k)=max k m:=by
 by_cases h:m > k
 ·rw [dYT h,cT]; omega
 ·rw [dYF h,cF]; omega
theorem qe7 {α:Type} (acc r:List α) (f d:α) {i:Nat} (h:acc.length=i):(acc++f::r).getD i d=f:=by
 subst h; simp
theorem q1C (f:Fil) (d:List Fil):zO (f::d)=f.2.1.size+zO d:=by simp [zO]
theorem qqk {d:List Fil} (h:dOkB d=true):zO d<=600000:=by
 obtain ⟨h1,h2,_⟩:=qK.1 h;have:∀ l:List Fil,(∀ f∈l,q0s f=true)->zO l<=20000 * l.length:=by
  intro l;induction l with
  | nil=>intro _; exact le_refl _
  | cons f l ih=>
   intro hl;have a:=ih fun g hg=>hl g (mem_cons_of_mem _ hg)
   have b:=(q03.1 (hl f (mem_cons_self ..))).2.2.1;rw [q1C,length_cons]; omega
 have:=this d h2;omega
theorem q9d (d:List Fil) (hn:d.length<=1000000000):∀ (r:List Fil) (i a:Nat),d.drop i=r->i<=d.length->a+zO r<=1000000000->
  q3e (a:Int) (i:Int) d=some (((a+zO r:Nat):Int),())
 | [],i,a,hd',hi,ha=>by
  have:=drop_eq_nil_iff.1 hd';rw [q7L];have k1:decide ((i:Int) < (d.length:Int))=false:=dYF (by omega)
  simp only [k1,cF]; rfl
 | f::r,i,a,hd',hi,ha=>by
  obtain ⟨e1,hlt,e2⟩:=qV dF hd';rw [q1C] at ha;rw [q7L];have k1:decide ((i:Int) < (d.length:Int))=true:=dYT (by omega)
  have k2:decide (0<=(i:Int))=true:=dYT (by omega)
  have k4:w64 ((i:Int)+1)=((i+1:Nat):Int):=ql (by omega)
  have k5:w64 ((a:Int)+(f.2.1.size:Int))=((a+f.2.1.size:Nat):Int):=qo (by omega) (by omega)
  simp only [k1,k2,aS,cT,tN,e1,k4,k5];rw [q9d d hn r (i+1) _ e2 hlt (by omega),q1C,Nat.add_assoc]
theorem qnL {d:List Fil} (h:dOkB d=true):q15 d=some ((zO d:Int),()):=by
 have h1:=(qK.1 h).1;have h2:=qqk h;rw [qhk];have:=q9d d (by omega) d 0 0 rfl (zero_le _) (by omega)
 rw [zero_add] at this;exact this
noncomputable def putA (d:List Fil) (l:List Nat) (b:Bat):Option (List Act):=
 if (txtD d (l.getLastD 0)).size < 300 then some [adA (nmL (l.getLastD 0)) (bOf (batL b)),kpA (nmL (l.getLastD 0))]
 else if l.getLastD 0+1 < 100 then some [adA yu (bOf (qL (l.getLastD 0+1) (l.headD 0)++batL b)),kpA yu,mvA yu (nmL (l.getLastD 0+1))] else none
theorem q6D {l:List Nat} (h:l≠[]):l.getLastD 0∈l:=by
 cases l with
 | nil=>exact absurd rfl h
 | cons a l=>rw [List.getLastD_cons,<- List.getLast_eq_getLastD (h:=h)]; exact List.getLast_mem h
theorem Clean.txt {d:List Fil} {l:List Nat} (C:Clean d l) {n:Nat} (hn:n∈l):getK (nmL n) d=some (txtD d n,((txtD d n).size:Int))/\(txtD d n).size<=20000:=by
 obtain ⟨t,h1,_,_,h2,_⟩:=C.file hn;have:txtD d n=t:=by unfold txtD; rw [h1]; rfl
 rw [this]; exact ⟨h1,h2⟩
theorem qmd {β:Type} {k:BA} {l:List (BA×β)} (h:getK k l=none):delK k l=l:=by
 unfold delK;rw [List.filter_eq_self];exact fun x hx=>dYT (zq.1 h x hx)
theorem qfW {d x:List Fil} {a:Act} {y:List Fil} (h:actB d a=some x) (hd:doA d a=some y):x=y/\dOkB y=true:=by
 obtain ⟨_,h2,h3⟩:=qm0 h;rw [hd] at h3;have e:y=x:=Option.some.inj h3;rw [e]; exact ⟨rfl,h2⟩
theorem qbN {d:List Fil} (C:AscK d) {k t:BA} {kp:Int} (h:dOkB (putK k (t,kp) d)=true):t.size<=20000:=by
 have:(k,(t,kp))∈putK k (t,kp) d:=jX.2 (.inl rfl);exact (q03.1 ((qK.1 h).2.1 _ this)).2.2.1
theorem qla {d:List Fil} {l:List Nat} (C:Clean d l) {b:Bat} (hb:batT b=true) (hq:q1w (allB d l) < b.1) {xs:List Act} (ha:putA d l b=some xs) {x:List Fil} (hx:allA d xs x) :
  ∃ l',Clean x l'/\allB x l'=allB d l++[b]:=by
 unfold putA at ha;obtain ⟨t1,t2⟩:=C.txt (q6D C.ne);split at ha
 ·have ha:=(Option.some.inj ha).symm;rw [ha] at hx;obtain ⟨d1,a1,_⟩:=qbh hx;obtain ⟨_,o1⟩:=qfW a1 (qcV t1);have hs:=qbN C.asc o1;rw [qf1,qz,lA,<- yj] at hs;obtain ⟨_,o2,b1,b2⟩:=q9T C (b:=b) t1 hs;have:=q8E hx (wK b1 (wK b2 (q4s _)));rw [this];exact ⟨l,C.put hb hq t1 o2⟩
 ·split at ha
  ·rename_i hm;have ha:=(Option.some.inj ha).symm;rw [ha] at hx;obtain ⟨d1,a1,_⟩:=qbh hx;obtain ⟨_,o1⟩:=qfW a1 (qcU C.new);have hs:=qbN C.asc o1;rw [qz] at hs;have hl:=(qK.1 o1).1;rw [qfv,qmd C.new] at hl;obtain ⟨_,_,o3,b1,b2,b3⟩:=qdn C (by omega) hs (l.getLastD 0+1)
   have:=q8E hx (wK b1 (wK b2 (wK b3 (q4s _))));rw [this];exact ⟨_,C.next hb hq hm o3⟩
  ·cases ha
theorem head_mem {l:List Nat} (h:l≠[]):l.headD 0∈l:=by
 cases l with
 | nil=>exact absurd rfl h
 | cons a l=>exact mem_cons_self ..
theorem qrw {d:List Fil} {l:List Nat} (C:Clean d l) {b:Bat} (hb:batT b=true) {xs:List Act} (ha:putA d l b=some xs):aSz xs:=by
 have hbl:=q6i hb;unfold putA at ha;split at ha
 ·rw [<- Option.some.inj ha];refine ⟨by simp,fun a h=>?_⟩
  rcases mem_cons.1 h with rfl | h
  ·show (bOf (batL b)).size<=_;rw [qz]; omega
  ·rw [mem_singleton.1 h]; exact zero_le _
 ·split at ha
  ·rename_i hm;rw [<- Option.some.inj ha];refine ⟨by simp,fun a h=>?_⟩
   rcases mem_cons.1 h with rfl | h
   ·show (bOf (_++batL b)).size<=_;rw [qz,lA,q9H hm (C.mem.1 (head_mem C.ne)).1]; omega
   ·rcases mem_cons.1 h with rfl | h
    ·exact zero_le _
    ·rw [mem_singleton.1 h]; exact zero_le _
  ·cases ha
noncomputable def runO (d:List Fil) (room:Int):Option (List Act)->Eng×List Act×Int
 | none=>(noE,([],2))
 | some xs=>bif decide ((y9 d xs).2 < xs.length)||decide ((zO (y9 d xs).1:Int) > room) then (noE,([],2)) else ((opO (y9 d xs).1 room).1,(xs,0))
theorem q9W (d:List Fil) (room:Int) (xs:List Act):runO d room (some xs)=bif decide ((y9 d xs).2 < xs.length)||decide ((zO (y9 d xs).1:Int) > room) then (noE,([],2)) else ((opO (y9 d xs).1 room).1,(xs,0)):=rfl
noncomputable def puO (e:Eng) (cs:List Chg):Eng×List Act×Int:=
 if h:eOkP e/\batT (e.2.2.2.1+1,cs)=true then runO e.1 e.2.1 (putA e.1 (segN e.1) (e.2.2.2.1+1,cs)) else (noE,([],1))
theorem qbo {d:List Fil} {l:List Nat} (C:Clean d l):segN d=l:=(jm.1 C.segs).2.1.symm
theorem q46 {e:Eng} (h:eOkP e):100<=e.2.1/\e.2.1<=20000/\Clean e.1 (segN e.1)/\e.2.2.1=(((segN e.1).getLastD 0:Nat):Int)/\e.2.2.2.1=q1w (allB e.1 (segN e.1))/\e.2.2.2.2=dirD e.1 (segN e.1)/\e=mkE e.1 e.1 e.2.1 (segN e.1):=by
 obtain ⟨h1,h2,l,C,he⟩:=q6q.1 h;rw [qbo C];refine ⟨h1,h2,C,?_,?_,?_,he⟩<;>rw [he]<;>rfl
theorem qq5 {bs:List Bat} (h:∀ b∈bs,batT b=true):0<=q1w bs/\q1w bs<=1000000000:=by
 unfold q1w;cases hl:bs.getLast? with
 | none=>exact ⟨Int.le_refl _,by decide⟩
 | some b=>exact qaD (h b (List.mem_of_getLast? hl))
theorem qg6 {d:List Fil} {l:List Nat} (C:Clean d l) {room:Int} (h1:100<=room) (h2:room<=20000):opO d room=(mkE d d room l,([],true)):=by
 unfold opO;rw [qad.2 ⟨h1,h2,l,C,rfl⟩]
theorem qjZ {d:List Fil} {xs:List Act}:allA d xs (y9 d xs).1↔(y9 d xs).2=xs.length:=by
 unfold allA;constructor
 ·intro h; exact congrArg Prod.snd h
 ·intro h; exact Prod.ext rfl h
theorem qrJ {e:Eng} (h:eOkP e) {cs:List Chg} (hb:batT (e.2.2.2.1+1,cs)=true) {xs:List Act} (ha:putA e.1 (segN e.1) (e.2.2.2.1+1,cs)=some xs) (hx:allA e.1 xs (y9 e.1 xs).1):(opO (y9 e.1 xs).1 e.2.1).2.2=true/\dOkB (y9 e.1 xs).1=true:=by
 obtain ⟨r1,r2,C,_,hq,_⟩:=q46 h;obtain ⟨l',C',_⟩:=qla C hb (by rw [hq]; show _ < q1w _+1; omega) ha hx
 rw [qg6 C' r1 r2];exact ⟨rfl,C'.ok⟩
theorem qqn {e:Eng} (h:eOkP e) (hn:e.1.length<=2000000) {cs:List Chg} (hb:batT (e.2.2.2.1+1,cs)=true) {xs:List Act} (ha:putA e.1 (segN e.1) (e.2.2.2.1+1,cs)=some xs) :
  ((q0H e.1 xs).bind fun r13=>bif decide (r13.1.2 < (xs.length:Int)) then some ((noE,(([]:List Act),(2:Int))),()) else
   (q15 r13.1.1).bind fun r14=>bif decide (r14.1 > e.2.1) then some ((noE,(([]:List Act),(2:Int))),()) else
    (zY r13.1.1 e.2.1).bind fun r15=>bif !r15.1.2.2 then some ((noE,(([]:List Act),(2:Int))),()) else some ((r15.1.1,(xs,(0:Int))),()))=some (runO e.1 e.2.1 (some xs),()):=by
 obtain ⟨r1,r2,C,_,hq,_⟩:=q46 h;have hsz:=qrw C hb ha;rw [q6K e.1 hn xs hsz];simp only [oB];have hle:=q8D xs e.1;rw [q9W];by_cases hall:(y9 e.1 xs).2=xs.length
 ·obtain ⟨g1,g2⟩:=qrJ h hb ha (qjZ.2 hall);have hlen:=(qK.1 g2).1;rw [dYF (show ¬ ((y9 e.1 xs).2:Int) < (xs.length:Int) by omega),dYF (show ¬ (y9 e.1 xs).2 < xs.length by omega),cF,qnL g2,Bool.false_or]
  simp only [oB];rw [q7A _ (by omega)]
  simp only [oB,g1];cases decide ((zO (y9 e.1 xs).1:Int) > e.2.1)<;>rfl
 ·rw [dYT (show ((y9 e.1 xs).2:Int) < (xs.length:Int) by omega),dYT (show (y9 e.1 xs).2 < xs.length by omega)]
  rfl
theorem q9a (e:Eng) (hn:e.1.length<=2000000) (cs:List Chg) (hc:cs.length<=1000000000):q1i e cs=some (puO e cs,()):=by
 rw [qfE,q43 _ hc,qfC e hn];simp only [oB];unfold puO;by_cases h:eOkP e
 ·obtain ⟨r1,r2,C,hact,hq,_⟩:=q46 h;have hqb:=qq5 C.bt;have w1:w64 (e.2.2.2.1+1)=e.2.2.2.1+1:=qo (by omega) (by omega)
  rw [dYT h,w1];unfold btO;by_cases hb:batT (e.2.2.2.1+1,cs)=true
  ·rw [if_pos hb,dif_pos ⟨h,hb⟩];simp only [nT,cF];have hfr:frO (bOf (bTL (e.2.2.2.1+1,cs)))=(bOf (batL (e.2.2.2.1+1,cs)),true):=qd3 (qaC hb);rw [q1h,hfr];simp only [oB];have fin:=fun xs=>qqn h hn hb (xs:=xs)
   have hpa:putA e.1 (segN e.1) (e.2.2.2.1+1,cs)=putA e.1 (segN e.1) (e.2.2.2.1+1,cs):=rfl;rw [zC,hact];generalize hl:segN e.1=l at *;have hlm:=q6D C.ne;have h100:=(C.mem.1 hlm).1;obtain ⟨t1,t2⟩:=C.txt hlm;have hl30:=C.len;rw [q0d h100];simp only [oB];have hfa:faO e.1 (nmL (l.getLastD 0))=(txtD e.1 (l.getLastD 0),true):=by unfold faO; rw [t1]
   rw [q3P e.1 (by omega),hfa]
   simp only [oB];unfold putA at hpa fin ⊢;by_cases hs:(txtD e.1 (l.getLastD 0)).size < 300
   ·rw [dYF (show ¬ ((txtD e.1 (l.getLastD 0)).size:Int)>=300 by omega),if_pos hs,cF,q4C e.1 (by omega)]
    rcases q0j e.1 (nmL (l.getLastD 0)) with ⟨_,i2⟩ | ⟨m,_,i2,_⟩
    ·rw [t1] at i2; cases i2
    ·rw [i2];simp only [oB];rw [dYF (show ¬ (m:Int) < 0 by omega),cF]
     rw [if_pos hs] at fin;exact fin _ rfl
   ·rw [dYT (show ((txtD e.1 (l.getLastD 0)).size:Int)>=300 by omega),if_neg hs,cT,q2y e.1 (by omega)]
    rw [if_neg hs] at fin;have hsg:sgO e.1=(natI l,true):=by unfold sgO; rw [C.segs]
    have hlen:=qlk C.segs;have hll:(natI l).length=l.length:=length_map ..;have hpos:0 < l.length:=length_pos_iff.2 C.ne;have hh:(natI l).getD (toNat 0) 0=((l.headD 0:Nat):Int):=by
     have:=q0m (l:=l) (i:=0) hpos;refine this.trans ?_;cases l with
     | nil=>exact absurd rfl C.ne
     | cons a l=>rfl
    have w2:w64 (((l.getLastD 0:Nat):Int)+1)=((l.getLastD 0+1:Nat):Int):=ql (by omega)
    have hhd:=C.mem.1 (head_mem C.ne);have hle:l.headD 0<=l.getLastD 0:=by
     obtain ⟨i,hi,hlt⟩:=q9u C.ascN C.ne;have hm:=head_mem C.ne;rw [hi] at hm;rcases mem_append.1 hm with hm | hm
     ·have:=hlt _ hm;rw [<- hi] at this; omega
     ·have:=mem_singleton.1 hm;rw [<- hi] at this; omega
    rw [hsg];simp only [oB,hh,w2,hll];rw [zC];simp only [oB];rw [show decide ((0:Int)<=0)=true from rfl,dYT (show (0:Int) < (l.length:Int) by omega),q4H]
    simp only [aS,cT,oB];unfold htO;by_cases hm:l.getLastD 0+1 < 100
    ·rw [if_pos (by omega),if_pos hm]
     rw [if_pos hm] at fin;have e1:=q9H hm hhd.1;have e2:=q6i hb;simp only [tN,nT,cF];rw [qX (by rw [qz,qz]; omega),cT,q0d hm,<- qaA,q4C e.1 (by omega)]
     rcases q0j e.1 (nmL (l.getLastD 0+1)) with ⟨i1,_⟩ | ⟨m,_,_,i2,_⟩
     ·rw [i1];simp only [oB];rw [show decide ((-1:Int) < 0)=true from rfl,cT]
      exact fin _ rfl
     ·exfalso
      have hh:hasN e.1 (l.getLastD 0+1)=true:=by unfold hasN; rw [i2]; rfl
      have hin:=(C.has hm).1 hh;obtain ⟨i,hi,hlt⟩:=q9u C.ascN C.ne;rw [hi] at hin;rcases mem_append.1 hin with hin | hin
      ·have:=hlt _ hin;rw [<- hi] at this; omega
      ·have:=mem_singleton.1 hin;rw [<- hi] at this; omega
    ·rw [if_neg (by omega),if_neg hm]; rfl
  ·rw [if_neg hb,dif_neg (fun c=>hb c.2)]; rfl
 ·rw [dYF h,dif_neg (fun c=>h c.1)]; rfl
end Go.Den.S
namespace Go.Den.S
open Go Go.Den
set_option maxRecDepth 4000
theorem qm7 (a b:Int):(a != b)=!decide (a=b):=by
 by_cases e:a=b
 ·simp [e]
 ·simp [e]

end Go.Den.S
namespace Go.Den.S
open Go Go.Den
open Classical
set_option maxRecDepth 4000
structure qsx (e:Eng):Prop where
 fl:e.1.length<=9223372036854775807
 fs:∀ x∈e.1,x.1.size<=9223372036854775807/\x.2.1.size<=9223372036854775807
 sl:e.2.2.2.2.length<=9223372036854775807
 ss:∀ x∈e.2.2.2.2,x.1.size<=9223372036854775807
structure SmE (e:Eng):Prop where
 f:e.1.length<=2000000
 s:e.2.2.2.2.length<=80000000
theorem qke (d:List Fil) (l:List Spt):(conS d l).length=l.length:=by unfold conS; rw [length_map]
end Go.Den.S
