/- EhQ: equations of the functions of this seat as the executor tells them, or plain facts about them. Conditions: none here. -/
import Derived.Test.YthejgmhimclmdaaGreatDoorEhK
set_option linter.all false
open Bool (and_eq_true false_eq_true not_eq_true)
open Int (toNat toNat_natCast)
open List (append_assoc append_nil drop_eq_getElem_cons drop_eq_nil_iff drop_zero filter_cons filter_nil find?_cons length length_append length_cons length_drop length_filter_le length_map length_pos_iff length_singleton map_cons map_nil mem_append mem_cons mem_cons_self mem_map nil_append nodup_cons singleton_append)
open Nat (le_refl le_trans zero_le)
open Option (map_eq_some_iff)
namespace Go.Den.S
open Go Go.Den
set_option maxRecDepth 4000
section
variable {α:Type}
theorem qlo (s:BA) (d:α):∀ m:List (BA×α),getM s d m=(getK s m).getD d
 | []=>rfl
 | e::r=>by
  unfold getM getK;rw [qV,find?_cons];by_cases h:s=e.1
  ·rw [dYT h,cT,dYT h.symm]; rfl
  ·rw [dYF h,cF,dYF (fun x=>h x.symm),qlo s d r]; rfl
theorem qjz (s k:BA) (x:α):∀ m:List (BA×α),getK k (setM s x m)=if k=s then some x else getK k m
 | []=>by
  unfold setM getK;rw [find?_cons];by_cases h:k=s
  ·rw [if_pos h,dYT h.symm]; rfl
  ·rw [if_neg h,dYF (fun e=>h e.symm)]
   first | done | rfl
 | e::r=>by
  unfold setM;rw [qV];by_cases h:s=e.1
  ·rw [dYT h,cT];unfold getK;rw [find?_cons,find?_cons];by_cases hk:k=s
   ·rw [if_pos hk,dYT hk.symm]; rfl
   ·rw [if_neg hk,dYF (fun e=>hk e.symm),dYF (fun e'=>hk (by rw [h]; exact e'.symm))]
  ·rw [dYF h,cF];have ih:=qjz s k x r;unfold getK at ih ⊢;rw [find?_cons,find?_cons];by_cases hk:e.1=k
   ·rw [dYT hk,if_neg (fun e'=>h (by rw [<- e',<- hk]))]
   ·rw [dYF hk]; exact ih
theorem qi7 (s:BA) (x:α):∀ m:List (BA×α),(yX m).Nodup->(yX (setM s x m)).Nodup/\∀ k,k∈yX (setM s x m)->k=s\/k∈yX m
 | [],_=>by
  unfold setM yX;exact ⟨by simp,fun k hk=>.inl (by simpa using hk)⟩
 | e::r,h=>by
  unfold yX at h;rw [map_cons,nodup_cons] at h;unfold setM;rw [qV];by_cases hs:s=e.1
  ·rw [dYT hs,cT];unfold yX;rw [map_cons,map_cons];refine ⟨nodup_cons.2 ⟨by rw [hs]; exact h.1,h.2⟩,fun k hk=>?_⟩
   rcases mem_cons.1 hk with hk | hk
   ·exact .inl hk
   ·exact .inr (List.mem_cons_of_mem _ hk)
  ·rw [dYF hs,cF];obtain ⟨h1,h2⟩:=qi7 s x r h.2;unfold yX at h1 h2 ⊢;rw [map_cons,map_cons];refine ⟨nodup_cons.2 ⟨fun hm=>?_,h1⟩,fun k hk=>?_⟩
   ·rcases h2 _ hm with e' | e'
    ·exact hs e'.symm
    ·exact h.1 e'
   ·rcases mem_cons.1 hk with hk | hk
    ·exact .inr (by rw [hk]; exact mem_cons_self ..)
    ·exact (h2 k hk).imp id (List.mem_cons_of_mem _)
theorem qgH (s:BA):∀ m:List (BA×α),(yX m).Nodup->delM s m=delK s m
 | [],_=>rfl
 | e::r,h=>by
  unfold yX at h;rw [map_cons,nodup_cons] at h;unfold delM delK;rw [qV,filter_cons];by_cases hs:s=e.1
  ·rw [dYT hs,cT,if_neg (fun x=>(of_decide_eq_true x:e.1≠s) hs.symm)]
   refine (List.filter_eq_self.2 fun x hx=>?_).symm
   refine dYT fun ex=>h.1 ?_
   rw [<- hs,<- ex];exact mem_map.2 ⟨x,hx,rfl⟩
  ·rw [dYF hs,cF,if_pos (show decide (e.1≠s)=true from dYT (fun e':e.1=s=>hs e'.symm)),qgH s r h.2]; rfl
theorem qow (s k:BA) (m:List (BA×α)):getK k (delK s m)=if k=s then none else getK k m:=by
 unfold delK;induction m with
 | nil=>unfold getK; split<;>rfl
 | cons e r ih=>
  rw [filter_cons];by_cases hs:e.1=s
  ·rw [if_neg (fun x=>(of_decide_eq_true x:e.1≠s) hs),ih]
   by_cases hk:k=s
   ·rw [if_pos hk,if_pos hk]
   ·rw [if_neg hk,if_neg hk];unfold getK;rw [find?_cons,dYF (fun x=>hk (by rw [<- x,hs]))]
  ·rw [if_pos (dYT hs)];unfold getK at ih ⊢;rw [find?_cons,find?_cons];by_cases hk:e.1=k
   ·rw [dYT hk,if_neg (fun x=>hs (by rw [hk,x]))]
   ·rw [dYF hk]; exact ih
theorem qid {m:List (BA×α)} {k:BA}:k∈yX m↔∃ v,getK k m=some v:=by
 unfold yX;constructor
 ·intro h;cases hg:getK k m with
  | some v=>exact ⟨v,rfl⟩
  | none=>
   obtain ⟨x,hx,e⟩:=mem_map.1 h;exact absurd e (q0L.1 hg x hx)
 ·rintro ⟨v,hv⟩
  unfold getK at hv;obtain ⟨x,hx,rfl⟩:=map_eq_some_iff.1 hv;exact mem_map.2 ⟨x,List.mem_of_find?_eq_some hx,of_decide_eq_true (List.find?_some (p:=fun x:BA×α=>decide (x.1=k)) hx)⟩
end
theorem qlw:∀ x y:List UInt8,x < y↔je x y=true
 | _,[]=>by simp [je]
 | [],b::y=>by simp [je]
 | a::x,b::y=>by
  rw [List.cons_lt_cons_iff,qlw x y];simp only [je,Bool.or_eq_true,and_eq_true,decide_eq_true_eq,beq_iff_eq]
theorem qpC (x y:List UInt8):x<=y↔je y x=false:=by
 rw [<- List.not_lt,qlw,not_eq_true]
theorem qoQ (l:List BA) (h:l.Nodup):(zw l).Pairwise (fun a b=>blt a b=true)/\∀ k,k∈zw l↔k∈l:=by
 rw [qaX];have hp:=List.mergeSort_perm (l.map fun s=>s.data.toList) (fun x y=>decide (x<=y))
 have hs:=List.pairwise_mergeSort (le:=fun x y:List UInt8=>decide (x<=y)) (fun a b c h1 h2=>by
  simp only [decide_eq_true_eq] at h1 h2 ⊢; exact List.le_trans h1 h2) (fun a b=>by
  simp only [Bool.or_eq_true,decide_eq_true_eq]; exact List.le_total a b) (l.map fun s=>s.data.toList)
 have hnd:(l.map fun s=>s.data.toList).Nodup:=by
  unfold List.Nodup;rw [List.pairwise_map];exact h.imp fun hab e=>hab (q2E e)
 have hnd2:=hp.nodup_iff.2 hnd;refine ⟨?_,fun k=>?_⟩
 ·rw [List.pairwise_map];refine (hs.and hnd2).imp fun {a b} ⟨h1,h2⟩=>?_
  simp only [decide_eq_true_eq] at h1;show je a b=true;exact q9x b a (fun e=>h2 e.symm) ((qpC a b).1 h1)
 ·rw [mem_map];constructor
  ·rintro ⟨x,hx,rfl⟩
   obtain ⟨s,hs,rfl⟩:=mem_map.1 (hp.mem_iff.1 hx);exact hs
  ·intro hk;exact ⟨k.data.toList,hp.mem_iff.2 (mem_map.2 ⟨k,hk,rfl⟩),rfl⟩
structure MR (m:List (BA×Spt)) (t:List Spt):Prop where
 asc:AscK t
 nd:(yX m).Nodup
 get:∀ k,getK k m=(getK k t).map fun p=>(k,p)
theorem MR.nil:MR [] []:=⟨ql1,List.nodup_nil,fun _=>rfl⟩
theorem MR.set {m:List (BA×Spt)} {t:List Spt} (h:MR m t) (k:BA) (p:Pos):MR (setM k (k,p) m) (zN t (k,some p)) where
 asc:=q8Z h.asc _
 nd:=(qi7 k (k,p) m h.nd).1
 get:=fun j=>by
  rw [qjz,qi3 h.asc];by_cases e:j=k
  ·rw [if_pos e,if_pos e,e]; rfl
  ·rw [if_neg e,if_neg e]; exact h.get j
theorem MR.del {m:List (BA×Spt)} {t:List Spt} (h:MR m t) (k:BA):MR (delM k m) (zN t (k,none)) where
 asc:=q8Z h.asc _
 nd:=by
  rw [qgH k m h.nd];unfold delK yX;exact h.nd.sublist ((List.filter_sublist).map _)
 get:=fun j=>by
  rw [qgH k m h.nd,qow,qi3 h.asc];by_cases e:j=k
  ·rw [if_pos e,if_pos e]; rfl
  ·rw [if_neg e,if_neg e]; exact h.get j
theorem MR.out {m:List (BA×Spt)} {t:List Spt} (h:MR m t):(zw (yX m)).map (fun k=>getM k dS m)=t:=by
 obtain ⟨h1,h2⟩:=qoQ (yX m) h.nd;have hg:∀ k∈zw (yX m),∃ p,getK k t=some p/\getM k dS m=(k,p):=fun k hk=>by
  obtain ⟨v,hv⟩:=qid.1 ((h2 k).1 hk);have:=h.get k;rw [hv] at this;cases hx:getK k t with
  | none=>rw [hx] at this; cases this
  | some p=>
   rw [hx] at this;refine ⟨p,rfl,?_⟩;rw [qlo,hv];exact Option.some.inj this
 refine qj9 ?_ h.asc fun x=>?_
 ·unfold AscK;rw [List.pairwise_map];refine List.Pairwise.imp_of_mem (fun {a b} ha hb hab=>?_) h1
  obtain ⟨_,_,e1⟩:=hg a ha;obtain ⟨_,_,e2⟩:=hg b hb;show blt (getM a dS m).1 (getM b dS m).1=true;rw [e1,e2]; exact hab
 ·rw [mem_map];constructor
  ·rintro ⟨k,hk,rfl⟩
   obtain ⟨p,q1,q2⟩:=hg k hk;rw [q2];exact (wB h.asc).1 q1
  ·intro hx;have q:=(wB h.asc).2 (show (x.1,x.2)∈t from hx)
   have:=h.get x.1;rw [q] at this;have hk:=(h2 x.1).2 (qid.2 ⟨_,this⟩);obtain ⟨p,q1,q2⟩:=hg x.1 hk;rw [q] at q1;refine ⟨x.1,hk,?_⟩;rw [q2,<- Option.some.inj q1]
theorem MR.len {m:List (BA×Spt)} {t:List Spt} (h:MR m t):(yX m).length=t.length:=by
 have:=congrArg length h.out;rw [length_map] at this;rw [<- this,qaX,length_map,List.length_mergeSort,length_map]
theorem qa7 (m:List (BA×Spt)) (ks:List BA) (hn:ks.length<=1000000000):∀ (r:List BA) (i:Nat) (acc:List Spt),ks.drop i=r->i<=ks.length->acc.length<=i->
  q3P acc ks (ks.length:Int) (i:Int) m=some ((acc++r.map (fun k=>getM k dS m),true),())
 | [],i,acc,hd,hi,ha=>by
  have:=drop_eq_nil_iff.1 hd;rw [q8i];have k1:decide ((i:Int) < (ks.length:Int))=false:=dYF (by omega)
  simp only [k1,cF,map_nil,append_nil]
 | k::r,i,acc,hd,hi,ha=>by
  obtain ⟨e1,hlt,e2⟩:=qX eB hd;rw [q8i];have k1:decide ((i:Int) < (ks.length:Int))=true:=dYT (by omega)
  have k2:decide (0<=(i:Int))=true:=dYT (by omega)
  have k4:w64 ((i:Int)+1)=((i+1:Nat):Int):=qo (by omega)
  have kl:lim (acc.length+1) 40=true:=qZ (by omega)
  simp only [k1,k2,k4,Bool.and_self,cT,toNat_natCast,e1,pmk];rw [kl];have:=qa7 m ks hn r (i+1) (acc++[getM k dS m]) e2 hlt (by rw [length_append,length_singleton]; omega)
  refine Eq.trans this ?_;rw [map_cons,append_assoc,singleton_append]
theorem q5J (d:List Fil) (l:List Int) (ln i:Int) (n:Nat) (ps:List Pla) (pl k:Int) (b:Bat) (hb:batT b=true) (a z:Int):∀ (r:List Chg) (j:Nat) (m:List (BA×Spt)) (t:List Spt),b.2.drop j=r->j<=b.2.length->MR m t->
  ∃ m',q1Z (n:Int) l ln i ps pl k b.2 (b.2.length:Int) (j:Int) d m b.1 b.2 a z=q1Y (n:Int) l ln i ps pl (w64 (k+1)) d m'/\MR m' ((r.map (opP n a b.1)).foldl zN t)
 | [],j,m,t,hd,hj,hm=>by
  have:=drop_eq_nil_iff.1 hd;rw [q8h];have k1:decide ((j:Int) < (b.2.length:Int))=false:=dYF (by omega)
  simp only [k1,cF];exact ⟨m,rfl,hm⟩
 | c::r,j,m,t,hd,hj,hm=>by
  obtain ⟨e1,hlt,e2⟩:=qX dC hd;have h40:=qf6 hb;have hsz:=qaw (qgD hb) (yN hd);rw [q8h];have k1:decide ((j:Int) < (b.2.length:Int))=true:=dYT (by omega)
  have k2:decide (0<=(j:Int))=true:=dYT (by omega)
  have k4:w64 ((j:Int)+1)=((j+1:Nat):Int):=qo (by omega)
  have kl:limS c.1.size=true:=qY (by omega)
  simp only [k1,k2,k4,Bool.and_self,cT,toNat_natCast,e1];rw [kl,map_cons,List.foldl_cons];unfold opP;cases hg:c.2.2 with
  | true=>
   simp only [cT];exact q5J d l ln i n ps pl k b hb a z r (j+1) _ _ e2 hlt (hm.del c.1)
  | false=>
   simp only [cF,cT];exact q5J d l ln i n ps pl k b hb a z r (j+1) _ _ e2 hlt (hm.set c.1 ((n:Int),(a,b.1)))
theorem qa6 (d:List Fil) (l:List Int) (ln i:Int) (n:Nat) (ps:List Pla) (hps:ps.length<=1000000) (hb:∀ p∈ps,batT p.1=true):∀ (bs:List Bat) (a k:Nat) (m:List (BA×Spt)) (t:List Spt),ps.drop k=plB a bs->k<=ps.length->MR m t->
  ∃ m',q1Y (n:Int) l ln i ps (ps.length:Int) (k:Int) d m=q1X l ln (w64 (i+1)) d m'/\MR m' ((opsR n a bs).foldl zN t)
 | [],a,k,m,t,hd,hk,hm=>by
  have:=drop_eq_nil_iff.1 hd;rw [q8g];have k1:decide ((k:Int) < (ps.length:Int))=false:=dYF (by omega)
  simp only [k1,cF];exact ⟨m,rfl,hm⟩
 | b::bs,a,k,m,t,hd,hk,hm=>by
  have hd':ps.drop k=(b,((a:Int),((batL b).length:Int)))::plB (a+(batL b).length) bs:=hd;obtain ⟨e1,hlt,e2⟩:=qX dP hd';have hbt:batT b=true:=hb _ (yN hd');rw [q8g];have k1:decide ((k:Int) < (ps.length:Int))=true:=dYT (by omega)
  have k2:decide (0<=(k:Int))=true:=dYT (by omega)
  have k4:w64 ((k:Int)+1)=((k+1:Nat):Int):=qo (by omega)
  simp only [k1,k2,Bool.and_self,cT,toNat_natCast,e1];obtain ⟨m1,p1,p2⟩:=q5J d l ln i n ps (ps.length:Int) (k:Int) b hbt (a:Int) ((batL b).length:Int) b.2 0 m t rfl (zero_le _) hm;obtain ⟨m2,q1,q2⟩:=qa6 d l ln i n ps hps hb bs (a+(batL b).length) (k+1) m1 _ e2 hlt p2;refine ⟨m2,?_,?_⟩
  ·rw [k4] at p1;exact p1.trans q1
  ·rw [qcv,List.foldl_append]; exact q2
theorem qa5 (d:List Fil) (hd30:d.length<=30) (l:List Nat) (hl:l.length<=100) (hm:∀ n∈l,n < 100/\hasN d n=true):∀ (r:List Nat) (i:Nat) (m:List (BA×Spt)) (t:List Spt),l.drop i=r->i<=l.length->MR m t->t.length+800000 * r.length<=1000000000->
  q1X (natI l) ((natI l).length:Int) (i:Int) d m=some (((r.flatMap (opsN d)).foldl zN t,true),())
 | [],i,m,t,hd,hi,ha,hlen=>by
  have:=drop_eq_nil_iff.1 hd;have hll:(natI l).length=l.length:=length_map ..;rw [q8f,hll];have k1:decide ((i:Int) < (l.length:Int))=false:=dYF (by omega)
  have hk:=ha.len;have kl:lim (yX m).length 16=true:=qZ (by rw [hk]; simp at hlen; omega)
  have hs:(zw (yX m)).length<=1000000000:=by
   rw [qaX,length_map,List.length_mergeSort,length_map,hk]; simp at hlen; omega
  simp only [k1,cF];rw [kl];refine (qa7 m (zw (yX m)) hs _ 0 [] rfl (zero_le _) (le_refl _)).trans ?_;rw [drop_zero,ha.out]; rfl
 | n::r,i,m,t,hd,hi,ha,hlen=>by
  obtain ⟨e1,hlt,e2⟩:=qX 0 hd;obtain ⟨hn,hh⟩:=hm n (yN hd);have hll:(natI l).length=l.length:=length_map ..;have eI:(natI l).getD i 0=(n:Int):=by rw [q0n hlt,e1]
  have hb:=q3V d (show n<=99 by omega)
  have hz:=qhh (batD d n) (q0s d n);rw [length_cons] at hlen;rw [q8f];have k1:decide ((i:Int) < ((natI l).length:Int))=true:=dYT (by rw [hll]; omega)
  have k2:decide (0<=(i:Int))=true:=dYT (by omega)
  have k4:w64 ((i:Int)+1)=((i+1:Nat):Int):=qo (by omega)
  simp only [k1,k2,Bool.and_self,cT,toNat_natCast,eI,jP,q0D hn,q1r d (show d.length<=1000000000 by omega),q9z n (show n<=99 by omega),oB,qlE hn hh]
  obtain ⟨m1,p1,p2⟩:=qa6 d (natI l) ((natI l).length:Int) (i:Int) n (plB (q0s d n) (batD d n)) (by omega) (fun p hp=>q9S p.1 (by
   rw [<- qdi (batD d n) (q0s d n)]; exact mem_map.2 ⟨p,hp,rfl⟩)) (batD d n) (q0s d n) 0 m t rfl (zero_le _) ha
  refine Eq.trans p1 ?_;rw [k4];rw [<- qcu] at p2;have hf:=q6g (opsN d n) t;have ho:(opsN d n).length<=800000:=by
   rw [qcu];have:=qaQ n (batD d n) (q0s d n) q9S;omega
  rw [qa5 d hd30 l hl hm r (i+1) m1 _ e2 hlt p2 (by omega),List.flatMap_cons,List.foldl_append]
theorem qiz (d:List Fil) (hn:d.length<=1000000000):qaD d=some (dirO d,()):=by
 rw [qiy,q40 d hn];simp only [oB];unfold dirO;rcases q4h d with ⟨h1,h2⟩ | ⟨l,h1,h2,h3,h4,h5,_,_⟩
 ·rw [h1,h2]; rfl
 ·rw [h1,h2];refine (qa5 d (qP.1 h3).1 l h4 h5 l 0 [] [] rfl (zero_le _) MR.nil (by simp; omega)).trans ?_
  show _=some ((dirD d l,true),());rw [qgJ]; rfl
noncomputable def doO (d:List Fil) (a:Act):List Fil×Bool:=match actB d a with
 | some x=>(x,true)
 | none=>([],false)
theorem zR {d:List Fil} {a:Act} (h:actB d a=none):doO d a=([],false):=by unfold doO; rw [h]
theorem q0h {d:List Fil} {a:Act} (h:¬ (dOkB d=true/\(a.1=3\/a.2.2.2.size=0)/\(a.1=1\/a.2.2.1.size=0))):actB d a=none:=by
 unfold actB;rw [if_neg];intro hx;simp only [and_eq_true,Bool.or_eq_true,decide_eq_true_eq] at hx;exact h ⟨hx.1.1,hx.1.2,hx.2⟩
theorem q1G {d:List Fil} {a:Act} (h:doA d a=none):actB d a=none:=by
 unfold actB;split
 ·rw [h]; rfl
 ·rfl
theorem q2H {d:List Fil} {a:Act} {x:List Fil} (h1:dOkB d=true) (h2:a.1=3\/a.2.2.2.size=0) (h3:a.1=1\/a.2.2.1.size=0) (h4:doA d a=some x):doO d a=bif dOkB x then (x,true) else ([],false):=by
 unfold doO actB;rw [if_pos (by simp only [and_eq_true,Bool.or_eq_true,decide_eq_true_eq]; exact ⟨⟨h1,h2⟩,h3⟩),h4]
 show (match okD x with | some x=>(x,true) | none=>([],false))=_
 unfold okD;cases dOkB x<;>rfl
theorem qdQ (d:List Fil) (hn:d.length<=1000000000):jV d=some (d,()):=by
 rw [qeq];have kl:lim (0+d.length) 40=true:=qZ (by omega)
 rw [kl]; rfl
theorem qdJ {d:List Fil} (h:AscK d) (hn:d.length<=1000000000) {m:Nat} (hm:m < d.length):qj d (m:Int) (w64 ((m:Int)+1))=some (delK (d.getD m dF).1 d,()):=by
 rw [show w64 ((m:Int)+1)=((m+1:Nat):Int) from qo (by omega),wV]
 unfold delF;have k1:decide (0<=(m:Int))=true:=dYT (by omega)
 have k2:decide ((m:Int)<=((m+1:Nat):Int))=true:=dYT (by omega)
 have k3:decide (((m+1:Nat):Int)<=(d.length:Int))=true:=dYT (by omega)
 have k4:lim d.length 40=true:=qZ (by omega)
 simp only [k1,k2,k3,Bool.and_self,toNat_natCast,qq4 h hm];rw [k4]; rfl
theorem q1D (k:BA) (v:BA×Int) (d:List Fil):(putK k v d).length<=d.length+1:=by
 have:=qcO d (k,some v);exact this
theorem qlg (t:BA):eB++t=t:=zh (by rw [jK]; rfl)
theorem dst (g:Bool) (x:List Fil):(bif !g then some ((([]:List Fil),false),()) else some ((x,true),()))=some ((bif g then (x,true) else ([],false)),()):=by cases g<;>rfl
theorem qiB (d:List Fil) (hn:d.length<=2000000) (a:Act) (ha:a.2.2.1.size<=1000000000000):qaE d a=some (doO d a,()):=by
 obtain ⟨v,k,t,to⟩:=a;have ha:t.size<=1000000000000:=ha;rw [qiA,qca d (by omega),zq d (by omega)]
 simp only [oB];cases hok:dOkB d with
 | false=>
  rw [zR (q0h fun h=>by rw [hok] at h; cases h.1)]; rfl
 | true=>
  have hasc:=(qP.1 hok).2.2;have hl30:=(qP.1 hok).1;simp only [Bool.not_true,cF,qV,q9g,qdQ d (show d.length<=1000000000 by omega),oB]
  by_cases v1:v=1
  ·subst v1;simp only [show ((1:Int) != 3)=true from rfl,show ((1:Int) != 1)=false from rfl,show ((1:Int)==1)=true from rfl,cT,cF]
   by_cases hto:to.size=0
   ·simp only [dYT hto,Bool.not_true,cF];rcases q18 d k with ⟨h1,h2⟩ | ⟨m,hm,h2,h3,h4⟩
    ·have hdo:doA d (1,(k,(t,to)))=some (putK k (t,0) d):=by
      unfold doA;rw [if_pos rfl];show some (putK k (((getK k d).getD (bOf [],0)).1++t,((getK k d).getD (bOf [],0)).2) d)=_;rw [h2];show some (putK k (bOf []++t,0) d)=_;rw [qdL]
     rw [q2H hok (.inr hto) (.inl rfl) hdo,h1];have kl:limS ((eB).size+t.size)=true:=qY (by show 0+_<=_; omega)
     have hz:=q1D k (t,0) d;simp only [show decide ((-1:Int)>=0)=false from rfl,cF,kl,cT,qlg,qaT d hasc hn,oB,zq (putK k (t,0) d) (by omega),dst]
    ·have hdo:doA d (1,(k,(t,to)))=some (putK k ((d.getD m dF).2.1++t,(d.getD m dF).2.2) d):=by
      unfold doA;rw [if_pos rfl];show some (putK k (((getK k d).getD (bOf [],0)).1++t,((getK k d).getD (bOf [],0)).2) d)=_;rw [h3]; rfl
     rw [q2H hok (.inr hto) (.inl rfl) hdo,h2];have hsz:=(q0W hok (q3W (d:=dF) hm)).2;have kl:limS ((d.getD m dF).2.1.size+t.size)=true:=qY (by omega)
     have hz:=q1D k ((d.getD m dF).2.1++t,(d.getD m dF).2.2) d;simp only [dYT (show (m:Int)>=0 by omega),dYT (show (0:Int)<=(m:Int) by omega),dYT (show (m:Int) < (d.length:Int) by omega),Bool.and_self,toNat_natCast,kl,cT,h4,qaT d hasc hn,oB,zq (putK k ((d.getD m dF).2.1++t,(d.getD m dF).2.2) d) (by omega),dst]
   ·rw [zR (q0h fun h=>by
     rcases h.2.1 with h | h
     ·exact absurd (show (1:Int)=3 from h) (by decide)
     ·exact hto h)]
    simp only [dYF hto,Bool.not_false,cT]
  ·have b1:(v != 1)=true:=by rw [bne_iff_ne]; exact v1
   have b1':(v==1)=false:=by rw [<- not_eq_true,beq_iff_eq]; exact v1
   simp only [b1,b1',cT,cF];by_cases ht:t.size=0
   ·simp only [dYT ht,Bool.not_true,cF];rcases q18 d k with ⟨h1,h2⟩ | ⟨m,hm,h2,h3,h4⟩
    ·have hdo:doA d (v,(k,(t,to)))=none:=by
      unfold doA;rw [if_neg v1];show (match getK k d with | none=>none | some f=>_)=_
      rw [h2]
     rw [zR (q1G hdo),h1];simp only [show decide ((-1:Int) < 0)=true from rfl,cT]
     cases (v != 3)<;>cases decide (to.size=0)<;>rfl
    ·rw [h2];have hsz:=(q0W hok (q3W (d:=dF) hm)).2;have c1:decide ((m:Int) < 0)=false:=dYF (by omega)
     have c2:decide ((0:Int)<=(m:Int))=true:=dYT (by omega)
     have c3:decide ((m:Int) < (d.length:Int))=true:=dYT (by omega)
     simp only [c1,c2,c3,Bool.and_self,cT,cF,toNat_natCast];by_cases v2:v=2
     ·subst v2;simp only [show ((2:Int) != 3)=true from rfl,show ((2:Int)==2)=true from rfl,cT]
      by_cases hto:to.size=0
      ·have hdo:doA d (2,(k,(t,to)))=some (putK k ((d.getD m dF).2.1,((d.getD m dF).2.1.size:Int)) d):=by
        unfold doA;rw [if_neg v1];show (match getK k d with | none=>none | some f=>_)=_
        rw [h3]; rfl
       rw [q2H hok (.inr hto) (.inr ht) hdo];have hset:=qnW hasc hm ((d.getD m dF).2.1,((d.getD m dF).2.1.size:Int));rw [h4] at hset;have hz:=q1D k ((d.getD m dF).2.1,((d.getD m dF).2.1.size:Int)) d;simp only [dYT hto,Bool.not_true,cF,h4,hset,zq (putK k ((d.getD m dF).2.1,((d.getD m dF).2.1.size:Int)) d) (by omega),oB,dst]
      ·rw [zR (q0h fun h=>by
        rcases h.2.1 with h | h
        ·exact absurd (show (2:Int)=3 from h) (by decide)
        ·exact hto h)]
       simp only [dYF hto,Bool.not_false,cT]
     ·have b2:(v==2)=false:=by rw [<- not_eq_true,beq_iff_eq]; exact v2
      simp only [b2,cF];by_cases v3:v=3
      ·subst v3;simp only [show ((3:Int) != 3)=false from rfl,show ((3:Int)==3)=true from rfl,cT,cF]
       by_cases he:to=k
       ·have hdo:doA d (3,(k,(t,to)))=none:=by
         unfold doA;rw [if_neg v1];show (match getK k d with | none=>none | some f=>_)=_
         rw [h3];show (if (3:Int)=2 then _ else if (3:Int)=3 then (if (d.getD m dF).2.2=((d.getD m dF).2.1.size:Int)/\to≠k then some (putK to (d.getD m dF).2 (delK k d)) else none) else _)=none
         rw [if_neg (by decide),if_pos rfl,if_neg (fun h=>h.2 he)]
        rw [zR (q1G hdo)];simp only [dYT he,cT]
       ·simp only [dYF he,cF];by_cases hk:(d.getD m dF).2.2=((d.getD m dF).2.1.size:Int)
        ·have hdo:doA d (3,(k,(t,to)))=some (putK to (d.getD m dF).2 (delK k d)):=by
          unfold doA;rw [if_neg v1];show (match getK k d with | none=>none | some f=>_)=_
          rw [h3];show (if (3:Int)=2 then _ else if (3:Int)=3 then (if (d.getD m dF).2.2=((d.getD m dF).2.1.size:Int)/\to≠k then some (putK to (d.getD m dF).2 (delK k d)) else none) else _)=_
          rw [if_neg (by decide),if_pos rfl,if_pos ⟨hk,he⟩]
         rw [q2H hok (.inl rfl) (.inr ht) hdo];have bk:((d.getD m dF).2.2 != ((d.getD m dF).2.1.size:Int))=false:=by rw [hk]; simp
         have hdl:=qay k d;have hz:=q1D to (d.getD m dF).2 (delK k d);simp only [bk,cF,qdJ hasc (show d.length<=1000000000 by omega) hm,h4,oB,qaT (delK k d) (qas hasc k) (by omega),zq (putK to (d.getD m dF).2 (delK k d)) (by omega),dst]
        ·have hdo:doA d (3,(k,(t,to)))=none:=by
          unfold doA;rw [if_neg v1];show (match getK k d with | none=>none | some f=>_)=_
          rw [h3];show (if (3:Int)=2 then _ else if (3:Int)=3 then (if (d.getD m dF).2.2=((d.getD m dF).2.1.size:Int)/\to≠k then some (putK to (d.getD m dF).2 (delK k d)) else none) else _)=none
          rw [if_neg (by decide),if_pos rfl,if_neg (fun h=>hk h.1)]
         rw [zR (q1G hdo)];have bk:((d.getD m dF).2.2 != ((d.getD m dF).2.1.size:Int))=true:=by rw [bne_iff_ne]; exact hk
         simp only [bk,cT]
      ·have b3:(v==3)=false:=by rw [<- not_eq_true,beq_iff_eq]; exact v3
       have b3':(v != 3)=true:=by rw [bne_iff_ne]; exact v3
       simp only [b3,b3',cT,cF];by_cases hto:to.size=0
       ·simp only [dYT hto,Bool.not_true,cF];by_cases v4:v=4
        ·subst v4;have hdo:doA d (4,(k,(t,to)))=some (delK k d):=by
          unfold doA;rw [if_neg v1];show (match getK k d with | none=>none | some f=>_)=_
          rw [h3]; rfl
         rw [q2H hok (.inr hto) (.inr ht) hdo];have hdl:=qay k d;simp only [show ((4:Int)==4)=true from rfl,cT,qdJ hasc (show d.length<=1000000000 by omega) hm,h4,oB,zq (delK k d) (by omega),dst]
        ·have b4:(v==4)=false:=by rw [<- not_eq_true,beq_iff_eq]; exact v4
         have hdo:doA d (v,(k,(t,to)))=none:=by
          unfold doA;rw [if_neg v1];show (match getK k d with | none=>none | some f=>_)=_
          rw [h3];show (if v=2 then _ else if v=3 then _ else if v=4 then _ else none)=none
          rw [if_neg v2,if_neg v3,if_neg v4]
         rw [zR (q1G hdo)];simp only [b4,cF]
       ·rw [zR (q0h fun h=>by
         rcases h.2.1 with h | h
         ·exact v3 h
         ·exact hto h)]
        simp only [dYF hto,Bool.not_false,cT]
   ·rw [zR (q0h fun h=>by
     rcases h.2.2 with h | h
     ·exact v1 h
     ·exact ht h)]
    simp only [dYF ht,Bool.not_false,cT];cases (v != 3)<;>cases decide (to.size=0)<;>rfl
theorem qlG {k:BA} (h:inB (k.size:Int) 1 8=false) (v:BA×Int) (d:List Fil):dOkB (putK k v d)=false:=by
 rw [<- not_eq_true];intro hx;have:=(q0J.1 ((qP.1 hx).2.1 (k,v) (q5R.2 (.inl rfl))));rw [q0R,decide_eq_false_iff_not] at h;have h1:1<=k.size:=this.1;have h2:k.size<=8:=this.2.1;exact h (by omega)
theorem qps {d:List Fil} (hok:dOkB d=true) {k:BA} (h:inB (k.size:Int) 1 8=false):getK k d=none:=by
 refine q0L.2 fun f hf e=>?_
 have:=(q0J.1 ((qP.1 hok).2.1 f hf));rw [q0R,decide_eq_false_iff_not] at h;rw [e] at this;exact h (by omega)
theorem qpm {d:List Fil} {v:Int} {k t to:BA} (v1:v≠1) {f:BA×Int} (h:getK k d=some f):doA d (v,(k,(t,to)))=if v=2 then some (putK k (f.1,(f.1.size:Int)) d) else if v=3 then (if f.2=(f.1.size:Int)/\to≠k then some (putK to f (delK k d)) else none) else if v=4 then some (delK k d) else none:=by
 unfold doA;rw [if_neg v1];show (match getK k d with | none=>none | some f=>_)=_
 rw [h]
theorem qld {d:List Fil} {v:Int} {k t to:BA} (v1:v≠1) (h:getK k d=none):doA d (v,(k,(t,to)))=none:=by
 unfold doA;rw [if_neg v1];show (match getK k d with | none=>none | some f=>_)=_
 rw [h]
theorem qlc {d:List Fil} {k t to:BA} (h:getK k d=none):doA d (1,(k,(t,to)))=some (putK k (t,0) d):=by
 unfold doA;rw [if_pos rfl];show some (putK k (((getK k d).getD (bOf [],0)).1++t,((getK k d).getD (bOf [],0)).2) d)=_;rw [h];show some (putK k (bOf []++t,0) d)=_;rw [qdL]
theorem qpn {d:List Fil} {k t to:BA} {f:BA×Int} (h:getK k d=some f):doA d (1,(k,(t,to)))=some (putK k (f.1++t,f.2) d):=by
 unfold doA;rw [if_pos rfl];show some (putK k (((getK k d).getD (bOf [],0)).1++t,((getK k d).getD (bOf [],0)).2) d)=_;rw [h]; rfl
theorem qpo {d:List Fil} (hok:dOkB d=true) {v:Int} {k t to:BA} (h:inB (k.size:Int) 1 8=false):doO d (v,(k,(t,to)))=([],false):=by
 have hg:=qps hok h;by_cases v1:v=1
 ·subst v1;by_cases hto:to.size=0
  ·rw [q2H hok (.inr hto) (.inl rfl) (qlc hg),qlG h]; rfl
  ·exact zR (q0h fun h=>by
    rcases h.2.1 with h | h
    ·exact absurd (show (1:Int)=3 from h) (by decide)
    ·exact hto h)
 ·exact zR (q1G (qld v1 hg))
theorem qiT (d:List Fil) (hn:d.length<=2000000) (a:Act) (ha:a.2.2.1.size<=1000000000000):qaZ d a=some (doO d a,()):=by
 obtain ⟨v,k,t,to⟩:=a;have ha:t.size<=1000000000000:=ha;rw [qiS,zx d (by omega)]
 simp only [oB,qfI,q8o d (show d.length<=1000000000 by omega)]
 cases hok:dOkB d with
 | false=>
  rw [zR (q0h fun h=>by rw [hok] at h; cases h.1)]; rfl
 | true=>
  have hasc:=(qP.1 hok).2.2;have hl30:=(qP.1 hok).1;simp only [Bool.not_true,cF];cases hnk:inB (k.size:Int) 1 8 with
  | false=>rw [qpo hok hnk]; rfl
  | true=>
   simp only [Bool.not_true,cF,qV,q9g];by_cases v1:v=1
   ·subst v1;simp only [show ((1:Int) != 3)=true from rfl,show ((1:Int) != 1)=false from rfl,show ((1:Int)==1)=true from rfl,cT,cF]
    by_cases hto:to.size=0
    ·simp only [dYT hto,Bool.not_true,cF];rcases q18 d k with ⟨h1,h2⟩ | ⟨m,hm,h2,h3,h4⟩
     ·rw [q2H hok (.inr hto) (.inl rfl) (qlc h2),h1];have kl:limS ((eB).size+t.size)=true:=qY (by show 0+_<=_; omega)
      have hz:=q1D k (t,0) d;simp only [show decide ((-1:Int)>=0)=false from rfl,cF,kl,cT,qlg,q9b d hn,oB,zx (putK k (t,0) d) (by omega),dst]
     ·rw [q2H hok (.inr hto) (.inl rfl) (qpn h3),h2];have hsz:=(q0W hok (q3W (d:=dF) hm)).2;have kl:limS ((d.getD m dF).2.1.size+t.size)=true:=qY (by omega)
      have hz:=q1D k ((d.getD m dF).2.1++t,(d.getD m dF).2.2) d;simp only [dYT (show (m:Int)>=0 by omega),dYT (show (0:Int)<=(m:Int) by omega),dYT (show (m:Int) < (d.length:Int) by omega),Bool.and_self,toNat_natCast,kl,cT,h4,q9b d hn,oB,zx (putK k ((d.getD m dF).2.1++t,(d.getD m dF).2.2) d) (by omega),dst]
    ·rw [zR (q0h fun h=>by
      rcases h.2.1 with h | h
      ·exact absurd (show (1:Int)=3 from h) (by decide)
      ·exact hto h)]
     simp only [dYF hto,Bool.not_false,cT]
   ·have b1:(v != 1)=true:=by rw [bne_iff_ne]; exact v1
    have b1':(v==1)=false:=by rw [<- not_eq_true,beq_iff_eq]; exact v1
    simp only [b1,b1',cT,cF];by_cases ht:t.size=0
    ·simp only [dYT ht,Bool.not_true,cF];rcases q18 d k with ⟨h1,h2⟩ | ⟨m,hm,h2,h3,h4⟩
     ·rw [zR (q1G (qld v1 h2)),h1];simp only [show decide ((-1:Int)>=0)=false from rfl,show decide ((-1:Int) < 0)=true from rfl,cT,cF]
      cases (v != 3)<;>cases decide (to.size=0)<;>rfl
     ·rw [h2];have hf:=(q0J.1 ((qP.1 hok).2.1 _ (q3W (d:=dF) hm)));have c0:decide ((m:Int)>=0)=true:=dYT (by omega)
      have c1:decide ((m:Int) < 0)=false:=dYF (by omega)
      have c2:decide ((0:Int)<=(m:Int))=true:=dYT (by omega)
      have c3:decide ((m:Int) < (d.length:Int))=true:=dYT (by omega)
      simp only [c0,c1,c2,c3,Bool.and_self,cT,cF,toNat_natCast];have hdo:=qpm (t:=t) (to:=to) v1 h3;by_cases v2:v=2
      ·subst v2;rw [if_pos rfl] at hdo;simp only [show ((2:Int) != 3)=true from rfl,show ((2:Int)==2)=true from rfl,cT]
       by_cases hto:to.size=0
       ·rw [q2H hok (.inr hto) (.inr ht) hdo];have hz:=q1D k ((d.getD m dF).2.1,((d.getD m dF).2.1.size:Int)) d;simp only [dYT hto,Bool.not_true,cF,h4,q9b d hn,zx (putK k ((d.getD m dF).2.1,((d.getD m dF).2.1.size:Int)) d) (by omega),oB,dst]
       ·rw [zR (q0h fun h=>by
         rcases h.2.1 with h | h
         ·exact absurd (show (2:Int)=3 from h) (by decide)
         ·exact hto h)]
        simp only [dYF hto,Bool.not_false,cT]
      ·have b2:(v==2)=false:=by rw [<- not_eq_true,beq_iff_eq]; exact v2
       rw [if_neg v2] at hdo;simp only [b2,cF];by_cases v3:v=3
       ·subst v3;rw [if_pos rfl] at hdo;simp only [show ((3:Int) != 3)=false from rfl,show ((3:Int)==3)=true from rfl,cT,cF]
        by_cases hk:(d.getD m dF).2.2=((d.getD m dF).2.1.size:Int)
        ·have bk:decide ((d.getD m dF).2.2 < ((d.getD m dF).2.1.size:Int))=false:=dYF (by omega)
         simp only [bk,cF];by_cases he:to=k
         ·rw [if_neg (fun h=>h.2 he)] at hdo
          rw [zR (q1G hdo)];simp only [dYT he,cT]
         ·rw [if_pos ⟨hk,he⟩] at hdo;simp only [dYF he,cF];rw [q2H hok (.inl rfl) (.inr ht) hdo];have hdl:=qay k d;have hz:=q1D to (d.getD m dF).2 (delK k d);cases hnt:inB (to.size:Int) 1 8 with
          | false=>rw [qlG hnt]; rfl
          | true=>
           simp only [Bool.not_true,cF,qbk d hn,oB,q9b (delK k d) (show (delK k d).length<=2000000 by omega),zx (putK to (d.getD m dF).2 (delK k d)) (by omega),dst]
        ·have bk:decide ((d.getD m dF).2.2 < ((d.getD m dF).2.1.size:Int))=true:=dYT (by omega)
         rw [if_neg (fun h=>hk h.1)] at hdo
         rw [zR (q1G hdo)];simp only [bk,cT]
       ·have b3:(v==3)=false:=by rw [<- not_eq_true,beq_iff_eq]; exact v3
        have b3':(v != 3)=true:=by rw [bne_iff_ne]; exact v3
        rw [if_neg v3] at hdo;simp only [b3,b3',cT,cF];by_cases hto:to.size=0
        ·simp only [dYT hto,Bool.not_true,cF];by_cases v4:v=4
         ·subst v4;rw [if_pos rfl] at hdo;rw [q2H hok (.inr hto) (.inr ht) hdo];have hdl:=qay k d;simp only [show ((4:Int)==4)=true from rfl,cT,qbk d hn,oB,zx (delK k d) (by omega),dst]
         ·have b4:(v==4)=false:=by rw [<- not_eq_true,beq_iff_eq]; exact v4
          rw [if_neg v4] at hdo;rw [zR (q1G hdo)];simp only [b4,cF]
        ·rw [zR (q0h fun h=>by
          rcases h.2.1 with h | h
          ·exact v3 h
          ·exact hto h)]
         simp only [dYF hto,Bool.not_false,cT]
    ·rw [zR (q0h fun h=>by
      rcases h.2.2 with h | h
      ·exact v1 h
      ·exact ht h)]
     simp only [dYF ht,Bool.not_false,cT];cases (v != 3)<;>cases decide (to.size=0)<;>rfl
abbrev dA:Act:=(0,(eB,(eB,eB)))
def aSz (xs:List Act):Prop:=xs.length<=1000000000/\∀ a∈xs,a.2.2.1.size<=1000000000000
theorem qgz {d d':List Fil} {a:Act} (h:actB d a=some d'):d'.length<=2000000:=by
 have:=(qP.1 (qpa h).2.1).1; omega
theorem qhS (d:List Fil) (a:Act):(actB d a=none/\doO d a=([],false))\/∃ d',actB d a=some d'/\doO d a=(d',true):=by
 unfold doO;cases actB d a with
 | none=>exact .inl ⟨rfl,rfl⟩
 | some x=>exact .inr ⟨x,rfl,rfl⟩
theorem q7u (xs:List Act) (hs:aSz xs) (z:List Fil):∀ (r:List Act) (i:Nat) (d:List Fil),xs.drop i=r->i<=xs.length->d.length<=2000000->
  q3c xs xs (xs.length:Int) (i:Int) z d=some (((wo d r).1,((i+(wo d r).2:Nat):Int)),())
 | [],i,d,hd,hi,hl=>by
  have:=drop_eq_nil_iff.1 hd;rw [q7t];have k1:decide ((i:Int) < (xs.length:Int))=false:=dYF (by omega)
  simp only [k1,cF,wo];rw [show xs.length=i+0 by omega]
 | a::r,i,d,hd,hi,hl=>by
  obtain ⟨e1,hlt,e2⟩:=qX dA hd;have hn:=hs.1;rw [q7t];have k1:decide ((i:Int) < (xs.length:Int))=true:=dYT (by omega)
  have k2:decide (0<=(i:Int))=true:=dYT (by omega)
  have k4:w64 ((i:Int)+1)=((i+1:Nat):Int):=qo (by omega)
  simp only [k1,k2,k4,Bool.and_self,cT,toNat_natCast,e1,pmk,qiB d hl a (hs.2 a (yN hd)),oB];rcases qhS d a with ⟨h1,h2⟩ | ⟨d',h1,h2⟩
  ·rw [h2];simp only [Bool.not_false,cT,wo,h1];rfl
  ·rw [h2];simp only [Bool.not_true,cF,wo,h1];rw [q7u xs hs z r (i+1) d' e2 hlt (qgz h1)];rw [show i+((wo d' r).2+1)=i+1+(wo d' r).2 by omega]
theorem qgS (d:List Fil) (hd:d.length<=2000000) (xs:List Act) (hs:aSz xs):q9p d xs=some (((wo d xs).1,((wo d xs).2:Int)),()):=by
 rw [qgR,qdQ d (by omega)]
 simp only [oB];have:=q7u xs hs [] xs 0 d rfl (zero_le _) hd;rw [Nat.zero_add] at this;exact this
theorem q7A (xs:List Act) (hs:aSz xs) (z:List Fil):∀ (r:List Act) (i:Nat) (d:List Fil),xs.drop i=r->i<=xs.length->d.length<=2000000->
  q3p xs (i:Int) z d=some (((wo d r).1,((i+(wo d r).2:Nat):Int)),())
 | [],i,d,hd,hi,hl=>by
  have:=drop_eq_nil_iff.1 hd;rw [q7z];have k1:decide ((i:Int) < (xs.length:Int))=false:=dYF (by omega)
  simp only [k1,cF,wo];rw [show xs.length=i+0 by omega]
 | a::r,i,d,hd,hi,hl=>by
  obtain ⟨e1,hlt,e2⟩:=qX dA hd;have hn:=hs.1;rw [q7z];have k1:decide ((i:Int) < (xs.length:Int))=true:=dYT (by omega)
  have k2:decide (0<=(i:Int))=true:=dYT (by omega)
  have k4:w64 ((i:Int)+1)=((i+1:Nat):Int):=qo (by omega)
  simp only [k1,k2,k4,Bool.and_self,cT,toNat_natCast,e1,pmk,qiT d hl a (hs.2 a (yN hd)),oB];rcases qhS d a with ⟨h1,h2⟩ | ⟨d',h1,h2⟩
  ·rw [h2];simp only [Bool.not_false,cT,wo,h1];rfl
  ·rw [h2];simp only [Bool.not_true,cF,wo,h1];rw [q7A xs hs z r (i+1) d' e2 hlt (qgz h1)];rw [show i+((wo d' r).2+1)=i+1+(wo d' r).2 by omega]
theorem qao (d:List Fil) (hd:d.length<=2000000) (xs:List Act) (hs:aSz xs):q9A d xs=some (((wo d xs).1,((wo d xs).2:Int)),()):=by
 rw [qhq];have kl:lim (0+d.length) 40=true:=qZ (by omega)
 have:=q7A xs hs [] xs 0 d rfl (zero_le _) hd;rw [Nat.zero_add] at this;rw [kl];exact this
theorem qlZ (l:List Int) (x:Int) (hl:l.length<=2000000):jY l x=some (decide (x∈l),()):=by
 rw [q54,q7l];have hi:=q5H (fun i=>wZ l x (l.length:Int) i) (fun y:Int=>x==y) 0 l (fun n=>some (n,()))
  (fun i hi=>by
   conv=>lhs; rw [q1d]
   have e1:decide ((i:Int) < (l.length:Int))=true:=dYT (by omega)
   have e2:decide (0<=(i:Int))=true:=dYT (by omega)
   have e3:w64 ((i:Int)+1)=((i+1:Nat):Int):=qo (by omega)
   simp only [e1,e2,e3,Bool.and_self,cT,toNat_natCast])
  (by
   show wZ l x (l.length:Int) (l.length:Int)=_;rw [q1d];simp only [Int.lt_irrefl,decide_false,cF])
 rw [hi];simp only [oB];congr 2
 rcases q6j (fun y:Int=>x==y) l 0 with ⟨h1,h2⟩ | ⟨j,h1,h2,h3,_⟩
 ·rw [h1,dYF (by omega),eq_comm,dYF]
  intro hm;have:=h2 x hm;simp at this
 ·rw [h2,dYT (by omega),eq_comm,dYT]
  have e:=List.getElem?_eq_getElem h1;have:=h3 _ e;rw [beq_iff_eq] at this;rw [this];exact List.getElem_mem h1
theorem qpp:((4:Int),(yE,(eB,eB)))=drA wI:=rfl
theorem qnc (k:BA):((4:Int),(k,(eB,eB)))=drA k:=rfl
theorem qmF {d:List Fil} (h:AscK d):((d.filter (fun f=>decide (f.1=wI))).map fun _=>drA wI)=if (getK wI d).isSome then [drA wI] else []:=by
 rcases q18 d wI with ⟨_,h2⟩ | ⟨m,hm,_,h3,h4⟩
 ·rw [h2,List.filter_eq_nil_iff.2 (fun f hf=>by simpa using q0L.1 h2 f hf)]; rfl
 ·obtain ⟨e,h1,h2⟩:=qf5 h hm;rw [h4] at h1 h2;rw [h3];have:(d.filter (fun f=>decide (f.1=wI)))=[d.getD m dF]:=by
   conv=>lhs; rw [e]
   rw [List.filter_append,filter_cons,if_pos (dYT h4),List.filter_eq_nil_iff.2 (fun x hx=>by simpa using q1W (h1 x hx)),List.filter_eq_nil_iff.2 (fun x hx=>by simpa using (q1W (h2 x hx)).symm)]; rfl
  rw [this]; rfl
theorem qjX {l:List Nat} {n:Nat}:(n:Int)∈natI l↔n∈l:=by
 unfold natI;rw [mem_map];constructor
 ·rintro ⟨m,hm,e⟩
  have:m=n:=by omega
  rw [<- this]; exact hm
 ·exact fun h=>⟨n,h,rfl⟩
theorem q39 (d:List Fil) (hok:dOkB d=true) (l:List Nat) (hl:l.length<=100):∀ (r:List Fil) (i:Nat) (acc:List Act),d.drop i=r->i<=d.length->acc.length<=100+i->
  jy (natI l) acc d (d.length:Int) (i:Int)=some (acc++(r.filter (q05 l)).map (fun f=>drA f.1),())
 | [],i,acc,hd,hi,ha=>by
  have:=drop_eq_nil_iff.1 hd;rw [q5d];have k1:decide ((i:Int) < (d.length:Int))=false:=dYF (by omega)
  simp only [k1,cF,filter_nil,map_nil,append_nil]
 | f::r,i,acc,hd,hi,ha=>by
  obtain ⟨e1,hlt,e2⟩:=qX dF hd;have hl30:=(qP.1 hok).1;have hsz:=q0W hok (yN hd);have hll:(natI l).length=l.length:=length_map ..;rw [q5d];have k1:decide ((i:Int) < (d.length:Int))=true:=dYT (by omega)
  have k2:decide (0<=(i:Int))=true:=dYT (by omega)
  have k4:w64 ((i:Int)+1)=((i+1:Nat):Int):=qo (by omega)
  have kl:lim (acc.length+1) 56=true:=qZ (by omega)
  simp only [k1,k2,k4,Bool.and_self,cT,toNat_natCast,e1,qcE f.1 (by omega),oB,qnc]
  rw [kl,filter_cons];rcases q3j f.1 with ⟨q1,q2⟩ | ⟨n,hn,q1,q2,q3⟩
  ·have hs:q05 l f=false:=by unfold q05; rw [q2]
   rw [q1,hs];simp only [show decide ((-1:Int)>=0)=false from rfl,cF,false_eq_true,if_false]
   exact q39 d hok l hl r (i+1) acc e2 hlt (by omega)
  ·have hs:q05 l f=!l.contains n:=by unfold q05; rw [q2]
   rw [q1,hs];simp only [dYT (show (n:Int)>=0 by omega),cT,qlZ (natI l) (n:Int) (by omega),oB]
   by_cases hm:n∈l
   ·have h1:l.contains n=true:=List.contains_iff_mem.2 hm;simp only [dYT (qjX.2 hm),h1,Bool.not_true,cF,false_eq_true,if_false];exact q39 d hok l hl r (i+1) acc e2 hlt (by omega)
   ·have h1:l.contains n=false:=by rw [<- not_eq_true,List.contains_iff_mem]; exact hm
    simp only [dYF (fun h=>hm (qjX.1 h)),h1,Bool.not_false,cT,if_true]
    rw [q39 d hok l hl r (i+1) (acc++[drA f.1]) e2 hlt (by rw [length_append,length_singleton]; omega),map_cons,append_assoc,singleton_append]
theorem q5A (d:List Fil) (hok:dOkB d=true) (l:List Nat) (hl:l.length<=100):∀ (r:List Fil) (i:Nat) (acc:List Act),d.drop i=r->i<=d.length->acc.length<=i->
  q0l (natI l) acc d (d.length:Int) (i:Int) d=some ((acc++((r.filter (fun f=>decide (f.1=wI))).map fun _=>drA wI))++(d.filter (q05 l)).map (fun f=>drA f.1),())
 | [],i,acc,hd,hi,ha=>by
  have:=drop_eq_nil_iff.1 hd;have hl30:=(qP.1 hok).1;rw [q5c];have k1:decide ((i:Int) < (d.length:Int))=false:=dYF (by omega)
  simp only [k1,cF,filter_nil,map_nil,append_nil];exact q39 d hok l hl d 0 acc rfl (zero_le _) (by omega)
 | f::r,i,acc,hd,hi,ha=>by
  obtain ⟨e1,hlt,e2⟩:=qX dF hd;have hl30:=(qP.1 hok).1;rw [q5c];have k1:decide ((i:Int) < (d.length:Int))=true:=dYT (by omega)
  have k2:decide (0<=(i:Int))=true:=dYT (by omega)
  have k4:w64 ((i:Int)+1)=((i+1:Nat):Int):=qo (by omega)
  have kl:lim (acc.length+1) 56=true:=qZ (by omega)
  have en:(yE:BA)=wI:=rfl;simp only [k1,k2,k4,Bool.and_self,cT,toNat_natCast,e1,qV,qpp];rw [kl,filter_cons,en];by_cases hq:f.1=wI
  ·rw [dYT hq,if_pos rfl];simp only [cT];rw [q5A d hok l hl r (i+1) (acc++[drA wI]) e2 hlt (by rw [length_append,length_singleton]; omega),map_cons,append_assoc acc,singleton_append]
  ·rw [dYF hq,if_neg (by decide)]
   simp only [cF];exact q5A d hok l hl r (i+1) acc e2 hlt (by omega)
theorem qkE (d:List Fil) (hok:dOkB d=true) (l:List Nat) (hl:l.length<=100):q7g d (natI l)=some (wK d l,()):=by
 rw [qep];refine (q5A d hok l hl d 0 [] rfl (zero_le _) (le_refl _)).trans ?_;rw [nil_append,qmF (qP.1 hok).2.2]; rfl
theorem qnd {d:List Fil} {n:Nat} (hn:n < 100) (hh:hasN d n=true) (hs:(segD d n).isSome=true):(rsO n (faO d (nmL n)).1).2.2.1=(endD d n:Int)/\(faO d (nmL n)).1=txtD d n/\endD d n<=(txtD d n).size:=by
 have ht:(faO d (nmL n)).1=txtD d n:=by
  unfold faO txtD;unfold hasN at hh;cases hg:getK (nmL n) d with
  | none=>rw [hg] at hh; cases hh
  | some v=>rfl
 obtain ⟨x,hx⟩:=Option.isSome_iff_exists.1 hs;have hseg:=hx;rw [q8c hn hh] at hseg;have e1:hdD d n=x.1:=by unfold hdD; rw [hx]; rfl
 have e2:batD d n=x.2:=by unfold batD; rw [hx]; rfl
 refine ⟨?_,ht,?_⟩
 ·unfold rsO endD;rw [hseg,e1,e2]
 ·unfold endD qcD;rw [e1,e2,<- ht];obtain ⟨_,_,_,_,_,r,e⟩:=q6R (f:=x.1) (bs:=x.2) hseg;rw [yg,e];simp only [length_append]; omega
theorem q8Y {l:List Nat} (h:AscN l) {i n:Nat} {r:List Nat} (hd:l.drop i=n::r):n=l.getLastD 0↔r=[]:=by
 have hne:l≠[]:=by intro e; rw [e] at hd; simp at hd
 have hl:l.getLastD 0=(n::r).getLastD 0:=by
  rw [<- hd]
  conv=>lhs; rw [<- List.take_append_drop i l]
  rw [List.getLastD_eq_getLast?,List.getLastD_eq_getLast?,hd,List.getLast?_append];cases h:(n::r).getLast? with
  | none=>rw [List.getLast?_eq_none_iff] at h; cases h
  | some x=>rfl
 rw [hl];cases r with
 | nil=>simp
 | cons m r=>
  constructor
  ·intro e;have hp:(l.drop i).Pairwise (· < ·):=h.sublist (List.drop_sublist i l);rw [hd] at hp;have hm:(n::m::r).getLastD 0∈m::r:=by
    rw [List.getLastD_eq_getLast?];rw [List.getLast?_cons_cons];cases hx:(m::r).getLast? with
    | none=>rw [List.getLast?_eq_none_iff] at hx; cases hx
    | some x=>exact List.mem_of_getLast? hx
   have:=(List.pairwise_cons.1 hp).1 _ hm;omega
  ·intro e; cases e
noncomputable def qb6 (d:List Fil) (n:Nat):List Act:=[adA wI (bOf ((bl (txtD d n)).take (endD d n))),kpA wI,mvA wI (nmL n)]
theorem qgv {d:List Fil} {l:List Nat} (h:AscN l) {i n:Nat} {r:List Nat} (hd:l.drop i=n::r):zm d (l.getLastD 0) (n::r)=if endD d n=(txtD d n).size then zm d (l.getLastD 0) r else if r=[] then some (qb6 d n) else none:=by
 have e:zm d (l.getLastD 0) (n::r)=if endD d n=(txtD d n).size then zm d (l.getLastD 0) r else if n=l.getLastD 0 then (zm d (l.getLastD 0) r).map fun x=>adA wI (bOf ((bl (txtD d n)).take (endD d n)))::kpA wI::mvA wI (nmL n)::x else none:=rfl
 rw [e];split
 ·rfl
 ·by_cases hr:r=[]
  ·rw [if_pos ((q8Y h hd).2 hr),if_pos hr,hr]; rfl
  ·rw [if_neg (fun e=>hr ((q8Y h hd).1 e)),if_neg hr]
theorem qit (d:List Fil) (n:Nat):(qb6 d n).length=3:=rfl
theorem qks (d:List Fil) (n:Nat):[((1:Int),(yE,((txtD d n).extract 0 (endD d n),eB))),(2,(yE,(eB,eB))),(3,(yE,(eB,nmL n)))]=qb6 d n:=by
 rw [qpq]; rfl
theorem qcm (d:List Fil) (hd30:d.length<=30) (l:List Nat) (hl:l.length<=100) (hasc:AscN l) (hm:∀ n∈l,n < 100/\hasN d n=true) (hs:∀ n∈l,(segD d n).isSome=true):∀ (r:List Nat) (i:Nat) (acc:List Act),l.drop i=r->i<=l.length->acc.length<=1000+3 * i->
  jT (natI l) acc (i:Int) d=some ((match zm d (l.getLastD 0) r with | none=>([],false) | some t=>(acc++t,true)),())
 | [],i,acc,hd,hi,ha=>by
  have:=drop_eq_nil_iff.1 hd;have hll:(natI l).length=l.length:=length_map ..;rw [q79,hll];have k1:decide ((i:Int) < (l.length:Int))=false:=dYF (by omega)
  simp only [k1,cF,zm,append_nil]
 | n::r,i,acc,hd,hi,ha=>by
  obtain ⟨e1,hlt,e2⟩:=qX 0 hd;obtain ⟨hn,hh⟩:=hm n (yN hd);have hll:(natI l).length=l.length:=length_map ..;have eI:(natI l).getD i 0=(n:Int):=by rw [q0n hlt,e1]
  obtain ⟨q1,q2,q3⟩:=qnd hn hh (hs n (yN hd));rw [q2] at q1;rw [q79,qgv hasc hd];have k1:decide ((i:Int) < ((natI l).length:Int))=true:=dYT (by rw [hll]; omega)
  have k2:decide (0<=(i:Int))=true:=dYT (by omega)
  have k4:w64 ((i:Int)+1)=((i+1:Nat):Int):=qo (by omega)
  simp only [k1,k2,k4,Bool.and_self,cT,toNat_natCast,eI,jg,q0D hn,q3q d (show d.length<=1000000000 by omega),oB,q2,jq n (show n<=99 by omega),q1]
  by_cases he:endD d n=(txtD d n).size
  ·have b:(((endD d n:Nat):Int)==((txtD d n).size:Int))=true:=by rw [beq_iff_eq]; omega
   simp only [b,cT,if_pos he];exact qcm d hd30 l hl hasc hm hs r (i+1) acc e2 hlt (by omega)
  ·have b:(((endD d n:Nat):Int)==((txtD d n).size:Int))=false:=by rw [<- not_eq_true,beq_iff_eq]; omega
   simp only [b,cF,if_neg he];have hlen:l.length - i=r.length+1:=by
    have:=congrArg length hd;rw [length_drop,length_cons] at this; exact this
   by_cases hr:r=[]
   ·have hr0:r.length=0:=by rw [hr]; rfl
    have htr:zm d (l.getLastD 0) r=some []:=by rw [hr]; rfl
    have k5:decide (((i+1:Nat):Int) < ((natI l).length:Int))=false:=dYF (by rw [hll]; omega)
    have kl:lim (acc.length+3) 56=true:=qZ (by omega)
    have k6:decide ((0:Int)<=((endD d n:Nat):Int))=true:=dYT (by omega)
    have k7:decide (((endD d n:Nat):Int)<=((txtD d n).size:Int))=true:=dYT (by omega)
    simp only [k5,cF,show decide ((0:Int)<=0)=true from rfl,k6,k7,Bool.and_self,cT,show toNat 0=0 from rfl,qks]
    rw [kl,cT,qcm d hd30 l hl hasc hm hs r (i+1) (acc++qb6 d n) e2 hlt (by rw [length_append,qit]; omega),htr,if_pos hr]
    simp only [append_nil]
   ·have hpos:0 < r.length:=length_pos_iff.2 hr;have k5:decide (((i+1:Nat):Int) < ((natI l).length:Int))=true:=dYT (by rw [hll]; omega)
    simp only [k5,cT,if_neg hr]
theorem q9c (d:List Fil) (hok:dOkB d=true) (l:List Nat) (hl:l.length<=100) (hne:l≠[]) (hseg:∀ n,n < 100->hasN d n=true->(n∈l↔¬ n < l.getD 0 0)):∀ (r:List Fil) (i:Nat) (acc:List Act),d.drop i=r->i<=d.length->acc.length<=100+i->
  zG (natI l) acc (i:Int) d=jT (natI l) (acc++(r.filter (q05 l)).map (fun f=>drA f.1)) 0 d
 | [],i,acc,hd,hi,ha=>by
  have:=drop_eq_nil_iff.1 hd;rw [q78];have k1:decide ((i:Int) < (d.length:Int))=false:=dYF (by omega)
  simp only [k1,cF,filter_nil,map_nil,append_nil]
 | f::r,i,acc,hd,hi,ha=>by
  obtain ⟨e1,hlt,e2⟩:=qX dF hd;have hl30:=(qP.1 hok).1;have hasc:=(qP.1 hok).2.2;have hsz:=q0W hok (yN hd);have hpos:0 < l.length:=length_pos_iff.2 hne;have hll:(natI l).length=l.length:=length_map ..;have e0:(natI l).getD (toNat 0) 0=((l.getD 0 0:Nat):Int):=q0n hpos;rw [q78];have k1:decide ((i:Int) < (d.length:Int))=true:=dYT (by omega)
  have k2:decide (0<=(i:Int))=true:=dYT (by omega)
  have k3:decide ((0:Int) < ((natI l).length:Int))=true:=dYT (by rw [hll]; omega)
  have k4:w64 ((i:Int)+1)=((i+1:Nat):Int):=qo (by omega)
  have kl:lim (acc.length+1) 56=true:=qZ (by omega)
  rw [k1,k2];simp only [Bool.and_self,cT];rw [k3,k4,e0];simp only [Bool.and_self,cT,toNat_natCast,e1,qjL f.1 (show f.1.size<=1000000 by omega),oB,qnc,show decide ((0:Int)<=0)=true from rfl]
  rw [kl,filter_cons];rcases q3j f.1 with ⟨q1,q2⟩ | ⟨n,hn,q1,q2,q3⟩
  ·have hs:q05 l f=false:=by unfold q05; rw [q2]
   rw [q1,hs];simp only [show decide ((-1:Int)>=0)=false from rfl,cF,false_eq_true,if_false]
   exact q9c d hok l hl hne hseg r (i+1) acc e2 hlt (by omega)
  ·have hs:q05 l f=!l.contains n:=by unfold q05; rw [q2]
   have hh:hasN d n=true:=by
    unfold hasN;rw [q3,(wB hasc).2 (show (f.1,f.2)∈d from yN hd)]; rfl
   have hiff:=hseg n hn hh;rw [q1,hs];simp only [dYT (show (n:Int)>=0 by omega),cT]
   by_cases hm:n∈l
   ·have h1:l.contains n=true:=List.contains_iff_mem.2 hm;have h2:=hiff.1 hm;simp only [dYF (show ¬ (n:Int) < ((l.getD 0 0:Nat):Int) by omega),h1,Bool.not_true,cF,false_eq_true,if_false]
    exact q9c d hok l hl hne hseg r (i+1) acc e2 hlt (by omega)
   ·have h1:l.contains n=false:=by rw [<- not_eq_true,List.contains_iff_mem]; exact hm
    have h2:n < l.getD 0 0:=Decidable.byContradiction fun h=>hm (hiff.2 h)
    simp only [dYT (show (n:Int) < ((l.getD 0 0:Nat):Int) by omega),h1,Bool.not_false,cT,if_true]
    rw [q9c d hok l hl hne hseg r (i+1) (acc++[drA f.1]) e2 hlt (by rw [length_append,length_singleton]; omega),map_cons,append_assoc,singleton_append]
theorem qmA (d:List Fil) (hok:dOkB d=true) (l:List Nat) (hl:l.length<=100) (hasc:AscN l) (hne:l≠[]) (hm:∀ n∈l,n < 100/\hasN d n=true) (hs:∀ n∈l,(segD d n).isSome=true) (hseg:∀ n,n < 100->hasN d n=true->(n∈l↔¬ n < l.getD 0 0)):q8V d (natI l)=some ((match zm d (l.getLastD 0) l with | none=>([],false) | some t=>(wK d l++t,true)),()):=by
 have hl30:=(qP.1 hok).1;have hfin:∀ acc:List Act,acc.length<=1->zG (natI l) acc 0 d=some ((match zm d (l.getLastD 0) l with | none=>([],false) | some t=>((acc++(d.filter (q05 l)).map (fun f=>drA f.1))++t,true)),()):=fun acc ha=>by
  have hf:((d.filter (q05 l)).map (fun f=>drA f.1)).length<=30:=by
   rw [length_map]; exact le_trans (length_filter_le ..) hl30
  refine (q9c d hok l hl hne hseg d 0 acc rfl (zero_le _) (by omega)).trans ?_
  exact qcm d hl30 l hl hasc hm hs l 0 _ rfl (zero_le _) (by rw [length_append]; omega)
 rw [qgp,q8o d (by omega)]
 simp only [oB];have en:(yE:BA)=wI:=rfl;rw [en];unfold wK;have kl:lim (0+1) 56=true:=qZ (by omega)
 rcases q18 d wI with ⟨h1,h2⟩ | ⟨m,hm',h1,h3,_⟩
 ·rw [h1,h2];simp only [show decide ((-1:Int)>=0)=false from rfl,cF,Option.isSome_none,false_eq_true,if_false,nil_append]
  exact (hfin [] (zero_le _)).trans (by simp only [nil_append])
 ·rw [h1,h3];simp only [dYT (show (m:Int)>=0 by omega),cT,Option.isSome_some,if_true]
  rw [kl];exact hfin [drA wI] (le_refl _)
theorem qjr (q:Int) (a b:List Bat):endQ q (a++b)=endQ (endQ q a) b:=by
 unfold endQ;rw [List.getLast?_append];cases b.getLast?<;>rfl
theorem qbd (f:Int) (ps:List Pla) (hn:ps.length<=1000000):∀ (bs:List Bat) (a i:Nat) (acc:List Bat),ps.drop i=plB a bs->i<=ps.length->acc.length<=i->a+(bats bs).length<=1000000000->
  q0v f (a:Int) acc ps (ps.length:Int) (i:Int)=some ((f,(acc++bs,(((a+(bats bs).length:Nat):Int),true))),())
 | [],a,i,acc,hd,hi,ha,hz=>by
  have:=drop_eq_nil_iff.1 hd;rw [q3x];have k1:decide ((i:Int) < (ps.length:Int))=false:=dYF (by omega)
  simp only [k1,cF,append_nil];rfl
 | b::bs,a,i,acc,hd,hi,ha,hz=>by
  have hd':ps.drop i=(b,((a:Int),((batL b).length:Int)))::plB (a+(batL b).length) bs:=hd;obtain ⟨e1,hlt,e2⟩:=qX dP hd';rw [qbN,length_append] at hz;rw [q3x];have k1:decide ((i:Int) < (ps.length:Int))=true:=dYT (by omega)
  have k2:decide (0<=(i:Int))=true:=dYT (by omega)
  have k4:w64 ((i:Int)+1)=((i+1:Nat):Int):=qo (by omega)
  have k5:w64 ((a:Int)+((batL b).length:Int))=((a+(batL b).length:Nat):Int):=qh (by omega) (by omega)
  have kl:lim (acc.length+1) 32=true:=qZ (by omega)
  rw [k1,k2];simp only [Bool.and_self,cT];rw [kl];simp only [cT,k4,toNat_natCast,e1,k5,pmk];rw [qbd f ps hn bs (a+(batL b).length) (i+1) (acc++[b]) e2 hlt (by rw [length_append,length_singleton]; omega) (by omega),qbN,length_append,append_assoc,singleton_append,Nat.add_assoc]
theorem qbA (n:Nat) (hn:n<=99) (t:BA):q3Z (n:Int) t=some (rsO n t,()):=by
 rw [qbz,q9z n hn,q96 n hn];unfold plO rsO;cases h:segR n t with
 | none=>rfl
 | some x=>
  have hl:=qkk hn h;obtain ⟨h1,h2,h3,_,_,r,e⟩:=q6R (f:=x.1) (bs:=x.2) h;have hlen:=congrArg length e;rw [<- yg,length_append,length_append] at hlen;have hho:(hoO n t).2.1=((wz n x.1).length:Int):=by
   have h':=h;rw [qaj n hn] at h';unfold hoO
   revert h'
   cases (unO t).1 with
   | nil=>intro h'; cases h'
   | cons s ts=>
    intro h';obtain ⟨f,hf,hx⟩:=map_eq_some_iff.1 h';simp only [hf];rw [<- hx]
  simp only [oB,Bool.not_true,cF,hho];have hz:=qhh x.2 (wz n x.1).length;have:=qbd (x.1:Int) (plB (wz n x.1).length x.2) (by omega) x.2 (wz n x.1).length 0 [] rfl (zero_le _) (le_refl _) (by omega)
  exact this
theorem qi9 {bs:List Bat} (h:bs≠[]) (q:Int):(bs.getD (bs.length - 1) dB).1=endQ q bs:=by
 unfold endQ;rw [List.getLast?_eq_getElem?,List.getD_eq_getElem?_getD];have:0 < bs.length:=length_pos_iff.2 h;rw [List.getElem?_eq_getElem (show bs.length - 1 < bs.length by omega)]; rfl
theorem qcl (d:List Fil) (hd30:d.length<=30) (l:List Nat) (hl:l.length<=100) (hm:∀ n∈l,n < 100/\hasN d n=true):∀ (r:List Nat) (i:Nat) (q:Int),l.drop i=r->i<=l.length->
  q1v (natI l) q (i:Int) d=some (endQ q (allB d r),())
 | [],i,q,hd,hi=>by
  have:=drop_eq_nil_iff.1 hd;have hll:(natI l).length=l.length:=length_map ..;rw [q7G,hll];have k1:decide ((i:Int) < (l.length:Int))=false:=dYF (by omega)
  simp only [k1,cF]; rfl
 | n::r,i,q,hd,hi=>by
  obtain ⟨e1,hlt,e2⟩:=qX 0 hd;obtain ⟨hn,hh⟩:=hm n (yN hd);have hll:(natI l).length=l.length:=length_map ..;have eI:(natI l).getD i 0=(n:Int):=by rw [q0n hlt,e1]
  have hb:=q3V d (show n<=99 by omega)
  rw [q7G];have k1:decide ((i:Int) < ((natI l).length:Int))=true:=dYT (by rw [hll]; omega)
  have k2:decide (0<=(i:Int))=true:=dYT (by omega)
  have k4:w64 ((i:Int)+1)=((i+1:Nat):Int):=qo (by omega)
  have ih:=fun q'=>qcl d hd30 l hl hm r (i+1) q' e2 hlt
  have ea:allB d (n::r)=batD d n++allB d r:=rfl;rw [k1,k2];simp only [Bool.and_self,cT,k4,toNat_natCast,eI,qbl d hd30 hn hh,oB];rw [ea,qjr];by_cases h0:batD d n=[]
  ·have k5:decide (((batD d n).length:Int) > 0)=false:=dYF (by rw [h0]; decide)
   rw [k5,cF,ih,h0]; rfl
  ·have hpos:0 < (batD d n).length:=length_pos_iff.2 h0;have k5:decide (((batD d n).length:Int) > 0)=true:=dYT (by omega)
   have w1:w64 (((batD d n).length:Int) - 1)=(((batD d n).length - 1:Nat):Int):=(qh (by omega) (by omega)).trans (by omega)
   have q1:decide (0<=(((batD d n).length - 1:Nat):Int))=true:=dYT (by omega)
   have q2:decide ((((batD d n).length - 1:Nat):Int) < ((batD d n).length:Int))=true:=dYT (by omega)
   rw [k5,cT,w1,q1,q2];simp only [Bool.and_self,cT,toNat_natCast,qi9 h0 q];exact ih _
theorem qnw (d:List Fil) (hd30:d.length<=30) (l:List Nat) (hl:l.length<=100) (hm:∀ n∈l,n < 100/\hasN d n=true):q9P d (natI l)=some (qd9 (allB d l),()):=by
 rw [qhw];exact qcl d hd30 l hl hm l 0 0 rfl (zero_le _)
abbrev noE:Eng:=([],(0,(0,(0,[]))))
noncomputable def opO (d:List Fil) (room:Int):Eng×List Act×Bool:=match q4P d room with
 | some x=>(x.1,(x.2,true))
 | none=>(noE,([],false))
theorem qeW {d:List Fil} (hok:dOkB d=true) (m:Nat):∀ {l:List Nat} {t:List Act},zm d m l=some t->t.length<=3 * l.length/\∀ a∈t,a.2.2.1.size<=1000000000000
 | [],t,h=>by
  have h:some []=some t:=h;rw [<- Option.some.inj h];exact ⟨zero_le _,fun a ha=>by cases ha⟩
 | n::l,t,h=>by
  have e:zm d m (n::l)=if endD d n=(txtD d n).size then zm d m l else if n=m then (zm d m l).map fun x=>adA wI (bOf ((bl (txtD d n)).take (endD d n)))::kpA wI::mvA wI (nmL n)::x else none:=rfl
  rw [e] at h;split at h
  ·obtain ⟨h1,h2⟩:=qeW hok m h;exact ⟨by rw [length_cons]; omega,h2⟩
  ·split at h
   ·obtain ⟨x,hx,rfl⟩:=map_eq_some_iff.1 h;obtain ⟨h1,h2⟩:=qeW hok m hx;refine ⟨by simp only [length_cons]; omega,fun a ha=>?_⟩
    have ht:(txtD d n).size<=20000:=by
     unfold txtD;cases hg:getK (nmL n) d with
     | none=>exact zero_le _
     | some v=>exact (q0W hok ((wB (qP.1 hok).2.2).1 hg)).2
    rcases mem_cons.1 ha with rfl | ha
    ·show (bOf _).size<=_;rw [qF ((bl (txtD d n)).take (endD d n)),List.length_take,<- yg]; omega
    ·rcases mem_cons.1 ha with rfl | ha
     ·exact zero_le _
     ·rcases mem_cons.1 ha with rfl | ha
      ·exact zero_le _
      ·exact h2 a ha
   ·cases h
theorem qko {d:List Fil} (hok:dOkB d=true) (l:List Nat):(wK d l).length<=31/\∀ a∈wK d l,a.2.2.1.size<=1000000000000:=by
 have hl30:=(qP.1 hok).1;have hf:=length_filter_le (q05 l) d;unfold wK;refine ⟨?_,fun a ha=>?_⟩
 ·rw [length_append,length_map];split
  ·rw [length_singleton]; omega
  ·rw [List.length_nil]; omega
 ·rcases mem_append.1 ha with ha | ha
  ·split at ha
   ·rw [List.mem_singleton.1 ha]; exact zero_le _
   ·cases ha
  ·obtain ⟨f,_,rfl⟩:=mem_map.1 ha;exact zero_le _
theorem qkY {d:List Fil} (hok:dOkB d=true) {l:List Nat} (hl:l.length<=100) {m:Nat} {t:List Act} (h:zm d m l=some t):aSz (wK d l++t)/\(wK d l++t).length<=400:=by
 obtain ⟨h1,h2⟩:=qeW hok m h;obtain ⟨h3,h4⟩:=qko hok l;have hlen:(wK d l++t).length<=400:=by rw [length_append]; omega
 exact ⟨⟨by omega,fun a ha=>(mem_append.1 ha).elim (h4 a) (h2 a)⟩,hlen⟩
theorem qoA {d:List Fil} {l:List Nat} (h:segs d=some l):∀ n,n < 100->hasN d n=true->(n∈l↔¬ n < l.getD 0 0):=fun n hn hh=>by
 obtain ⟨_,h2,h3,_⟩:=jm.1 h;have hasc:AscN l:=by rw [h2]; exact q3U d
 cases hl:l with
 | nil=>exact absurd hl h3
 | cons m r=>
  rw [<- hl];have e:l.getD 0 0=m:=by rw [hl]; rfl
  have hm:m∈segN d:=by rw [<- h2,hl]; exact mem_cons_self ..
  have hle:=(jW.1 hm).2.2;rw [e];constructor
  ·intro hx;rw [hl] at hx hasc;rcases mem_cons.1 hx with rfl | hx
   ·exact Nat.lt_irrefl _
   ·have:=(List.pairwise_cons.1 hasc).1 n hx; omega
  ·intro hx;rw [h2];exact jW.2 ⟨hn,hh,by omega⟩
theorem qia {l:List Nat} (h:l≠[]) (hl:l.length<=100):(natI l).getD (toNat (w64 (((natI l).length:Int) - 1))) 0=((l.getLastD 0:Nat):Int)/\(decide (0<=w64 (((natI l).length:Int) - 1))&&decide (w64 (((natI l).length:Int) - 1) < ((natI l).length:Int)))=true:=by
 have hll:(natI l).length=l.length:=length_map ..;have hpos:0 < l.length:=length_pos_iff.2 h;have w1:w64 ((l.length:Int) - 1)=((l.length - 1:Nat):Int):=(qh (by omega) (by omega)).trans (by omega)
 rw [hll,w1];refine ⟨?_,by simp; omega⟩
 rw [toNat_natCast,q0n (by omega),List.getLastD_eq_getLast?,List.getLast?_eq_getElem?,List.getD_eq_getElem?_getD]
theorem qe6:∀ (xs:List Act) (d:List Fil),(wo d xs).2<=xs.length
 | [],_=>le_refl _
 | a::r,d=>by
  simp only [wo];split
  ·exact zero_le _
  ·rename_i x _;have:=qe6 r x;rw [length_cons]; omega
theorem q83 {d:List Fil} {room:Int} (h:¬ (100<=room/\room<=20000/\q1K d=true/\rise d=true)):opO d room=(noE,([],false)):=by
 unfold opO q4P;rw [if_neg h]
theorem qk7 {d:List Fil} {room:Int} (h:100<=room/\room<=20000/\q1K d=true/\rise d=true) {l:List Nat} (hl:segs d=some l):opO d room=match zm d (l.getLastD 0) l with
  | none=>(noE,([],false))
  | some t=>if (wo d (wK d l++t)).2=(wK d l++t).length then (mkE d (wo d (wK d l++t)).1 room l,(wK d l++t,true)) else (noE,([],false)):=by
 unfold opO q4P;rw [if_pos h,hl];cases ht:zm d (l.getLastD 0) l with
 | none=>simp only [ht]
 | some t=>
  simp only [ht];by_cases hc:(wo d (wK d l++t)).2=(wK d l++t).length
  ·rw [if_pos hc,if_pos hc]
  ·rw [if_neg hc,if_neg hc]
theorem qcH (d:List Fil) (hn:d.length<=2000000) (room:Int):q4X d room=some (opO d room,()):=by
 rw [qcG,zO,q0R];simp only [oB];by_cases h1:100<=room/\room<=20000
 ·simp only [dYT h1,Bool.not_true,cF,qeQ d (show d.length<=1000000000 by omega),qfZ d (show d.length<=1000000000 by omega),oB]
  cases h2:rise d with
  | false=>rw [q83 (fun h=>by rw [h2] at h; cases h.2.2.2)]; rfl
  | true=>
   cases h3:q1K d with
   | false=>rw [q83 (fun h=>by rw [h3] at h; cases h.2.2.1)]; rfl
   | true=>
    rcases q4h d with ⟨g1,g2⟩ | ⟨l,g1,g2,hok,g4,g5,g6,g7⟩
    ·unfold rise at h2;rw [g2] at h2; cases h2
    ·have hasc:AscN l:=by rw [(jm.1 g2).2.1]; exact q3U d
     have hl30:=(qP.1 hok).1;rw [qk7 ⟨h1.1,h1.2,h3,h2⟩ g2];have hdir:dirO d=(dirD d l,true):=by unfold dirO; rw [g2]
     obtain ⟨ll1,ll2⟩:=qia g7 g4;simp only [Bool.not_true,cF,q45 d (show d.length<=1000000000 by omega),g1,oB,qmA d hok l g4 hasc g7 g5 g6 (qoA g2)]
     cases ht:zm d (l.getLastD 0) l with
     | none=>
      simp only [qao d hn [] ⟨zero_le _,fun a ha=>by cases ha⟩,oB,Bool.not_false,cT]
     | some t=>
      obtain ⟨s1,s2⟩:=qkY hok g4 ht;have hle:=qe6 (wK d l++t) d;simp only [qao d hn _ s1,oB,Bool.not_true,cF];by_cases hc:(wo d (wK d l++t)).2=(wK d l++t).length
      ·have k1:decide ((((wo d (wK d l++t)).2:Nat):Int) < ((wK d l++t).length:Int))=false:=dYF (by omega)
       rw [k1,if_pos hc,ll1,ll2];simp only [cF,cT,qiR d (show d.length<=1000000000 by omega),hdir,oB,qnw d hl30 l g4 g5]
       rfl
      ·have k1:decide ((((wo d (wK d l++t)).2:Nat):Int) < ((wK d l++t).length:Int))=true:=dYT (by omega)
       rw [k1,if_neg hc]; rfl
 ·simp only [dYF h1,Bool.not_false,cT];rw [q83 (fun h=>h1 ⟨h.1,h.2.1⟩)]
noncomputable def finO (d:List Fil) (room act:Int) (dir:List Spt) (xs:List Act) (q:Int):Eng×List Act×Bool:=if (wo d xs).2=xs.length then (((wo d xs).1,(room,(act,(q,dir)))),(xs,true)) else (noE,([],false))
theorem q4A (d:List Fil) (hok:dOkB d=true) (l:List Nat) (hl:l.length<=100) (hasc:AscN l) (hm:∀ n∈l,n < 100/\hasN d n=true) (hs:∀ n∈l,(segD d n).isSome=true) (z:List Fil) (room:Int) (dir:List Spt):∀ (r:List Nat) (i:Nat) (xs:List Act) (q:Int),l.drop i=r->i<=l.length->xs.length<=1000+3 * i->(∀ a∈xs,a.2.2.1.size<=1000000000000)->
  wF xs (natI l) ((natI l).length:Int) (i:Int) d [] 0 0 0 [] z room ((l.getLastD 0:Nat):Int) q dir=some ((match zm d (l.getLastD 0) r with | none=>(noE,([],false)) | some t=>finO d room ((l.getLastD 0:Nat):Int) dir (xs++t) (endQ q (allB d r))),())
 | [],i,xs,q,hd,hi,ha,hx=>by
  have:=drop_eq_nil_iff.1 hd;have hll:(natI l).length=l.length:=length_map ..;have hl30:=(qP.1 hok).1;have hle:=qe6 xs d;rw [q4c,hll];have k1:decide ((i:Int) < (l.length:Int))=false:=dYF (by omega)
  rw [k1,cF,qgS d (by omega) xs ⟨by omega,hx⟩]
  have et:zm d (l.getLastD 0) []=some []:=rfl;have eq:endQ q (allB d [])=q:=rfl;rw [et,eq];simp only [oB,append_nil];unfold finO;by_cases hc:(wo d xs).2=xs.length
  ·have k2:decide ((((wo d xs).2:Nat):Int) < (xs.length:Int))=false:=dYF (by omega)
   rw [k2,if_pos hc]; rfl
  ·have k2:decide ((((wo d xs).2:Nat):Int) < (xs.length:Int))=true:=dYT (by omega)
   rw [k2,if_neg hc]; rfl
 | n::r,i,xs,q,hd,hi,ha,hx=>by
  obtain ⟨e1,hlt,e2⟩:=qX 0 hd;obtain ⟨hn,hh⟩:=hm n (yN hd);have hl30:=(qP.1 hok).1;have hll:(natI l).length=l.length:=length_map ..;have eI:(natI l).getD i 0=(n:Int):=by rw [q0n hlt,e1]
  obtain ⟨q1,q2,q3⟩:=qnd hn hh (hs n (yN hd));have qb:=qhl hn hh;rw [q2] at q1 qb;have hb:=q3V d (show n<=99 by omega)
  have ea:allB d (n::r)=batD d n++allB d r:=rfl;rw [q4c,qgv hasc hd,ea,qjr];have k1:decide ((i:Int) < ((natI l).length:Int))=true:=dYT (by rw [hll]; omega)
  have k2:decide (0<=(i:Int))=true:=dYT (by omega)
  have k4:w64 ((i:Int)+1)=((i+1:Nat):Int):=qo (by omega)
  rw [k1,k2];simp only [Bool.and_self,cT];rw [k4];simp only [toNat_natCast,eI,jP,q0D hn,q1r d (show d.length<=1000000000 by omega),oB,q2,qbA n (show n<=99 by omega),q1,qb]
  have kl:lim (xs.length+3) 56=true:=qZ (by omega)
  have k6:decide ((0:Int)<=((endD d n:Nat):Int))=true:=dYT (by omega)
  have k7:decide (((endD d n:Nat):Int)<=((txtD d n).size:Int))=true:=dYT (by omega)
  have go:∀ s:Int,(bif ((endD d n:Nat):Int)==((txtD d n).size:Int) then wF xs (natI l) ((natI l).length:Int) ((i+1:Nat):Int) d [] 0 0 0 [] z room ((l.getLastD 0:Nat):Int) s dir
    else bif (n:Int) != ((l.getLastD 0:Nat):Int) then some ((noE,([],false)),())
    else bif decide ((0:Int)<=0)&&(decide ((0:Int)<=((endD d n:Nat):Int))&&decide (((endD d n:Nat):Int)<=((txtD d n).size:Int))) then
     bif lim (xs.length+3) 56 then wF (xs++[((1:Int),(yE,((txtD d n).extract (toNat 0) (endD d n),eB))),(2,(yE,(eB,eB))),(3,(yE,(eB,nmL n)))]) (natI l) ((natI l).length:Int) ((i+1:Nat):Int) d [] 0 0 0 [] z room ((l.getLastD 0:Nat):Int) s dir
     else none
    else none)=some ((match (if endD d n=(txtD d n).size then zm d (l.getLastD 0) r else if r=[] then some (qb6 d n) else none) with | none=>(noE,([],false)) | some t=>finO d room ((l.getLastD 0:Nat):Int) dir (xs++t) (endQ s (allB d r))),()):=fun s=>by
   by_cases he:endD d n=(txtD d n).size
   ·have b:(((endD d n:Nat):Int)==((txtD d n).size:Int))=true:=by rw [beq_iff_eq]; omega
    rw [b,cT,if_pos he];exact q4A d hok l hl hasc hm hs z room dir r (i+1) xs s e2 hlt (by omega) hx
   ·have b:(((endD d n:Nat):Int)==((txtD d n).size:Int))=false:=by rw [<- not_eq_true,beq_iff_eq]; omega
    rw [b,cF,if_neg he];by_cases hr:r=[]
    ·have hna:=(q8Y hasc hd).2 hr;have b2:((n:Int) != ((l.getLastD 0:Nat):Int))=false:=by rw [<- hna]; simp
     have e0:(txtD d n).extract (toNat 0) (endD d n)=(txtD d n).extract 0 (endD d n):=rfl;have htr:zm d (l.getLastD 0) r=some []:=by rw [hr]; rfl
     have hsz:(txtD d n).size<=20000:=by
      unfold txtD;cases hg:getK (nmL n) d with
      | none=>exact zero_le _
      | some v=>exact (q0W hok ((wB (qP.1 hok).2.2).1 hg)).2
     rw [b2,cF,show decide ((0:Int)<=0)=true from rfl,k6,k7,kl,e0,qks,if_pos hr]
     simp only [Bool.and_self,cT];rw [q4A d hok l hl hasc hm hs z room dir r (i+1) (xs++qb6 d n) s e2 hlt (by rw [length_append,qit]; omega) (fun a ha=>by
      rcases mem_append.1 ha with ha | ha
      ·exact hx a ha
      ·unfold qb6 at ha;rcases mem_cons.1 ha with rfl | ha
       ·show (bOf _).size<=_;rw [qF ((bl (txtD d n)).take (endD d n)),List.length_take,<- yg]; omega
       ·rcases mem_cons.1 ha with rfl | ha
        ·exact zero_le _
        ·rw [List.mem_singleton.1 ha]; exact zero_le _),htr]
     simp only [append_nil]
    ·have hna:n≠l.getLastD 0:=fun e=>hr ((q8Y hasc hd).1 e)
     have b2:((n:Int) != ((l.getLastD 0:Nat):Int))=true:=by rw [bne_iff_ne]; omega
     rw [b2,cT,if_neg hr]
  by_cases h0:batD d n=[]
  ·have k5:decide (((batD d n).length:Int) > 0)=false:=dYF (by rw [h0]; decide)
   rw [k5,cF];have:endQ q (batD d n)=q:=by rw [h0]; rfl
   rw [this];exact go q
  ·have hpos:0 < (batD d n).length:=length_pos_iff.2 h0;have k5:decide (((batD d n).length:Int) > 0)=true:=dYT (by omega)
   have w1:w64 (((batD d n).length:Int) - 1)=(((batD d n).length - 1:Nat):Int):=(qh (by omega) (by omega)).trans (by omega)
   have p1:decide (0<=(((batD d n).length - 1:Nat):Int))=true:=dYT (by omega)
   have p2:decide ((((batD d n).length - 1:Nat):Int) < ((batD d n).length:Int))=true:=dYT (by omega)
   rw [k5,cT,w1,p1,p2];simp only [Bool.and_self,cT,toNat_natCast,qi9 h0 q];exact go _
theorem qce (d:List Fil) (hn:d.length<=2000000) (room:Int):q4y d room=some (opO d room,()):=by
 rw [qcd,zW,q0R];simp only [oB];by_cases h1:100<=room/\room<=20000
 ·simp only [dYT h1,Bool.not_true,cF,qeo d (show d.length<=1000000000 by omega),qfm d (show d.length<=1000000000 by omega),oB]
  cases h3:q1K d with
  | false=>rw [q83 (fun h=>by rw [h3] at h; cases h.2.2.1)]; rfl
  | true=>
   cases h2:rise d with
   | false=>rw [q83 (fun h=>by rw [h2] at h; cases h.2.2.2)]; rfl
   | true=>
    rcases q4h d with ⟨g1,g2⟩ | ⟨l,g1,g2,hok,g4,g5,g6,g7⟩
    ·unfold rise at h2;rw [g2] at h2; cases h2
    ·have hasc:AscN l:=by rw [(jm.1 g2).2.1]; exact q3U d
     rw [qk7 ⟨h1.1,h1.2,h3,h2⟩ g2];have hdir:dirO d=(dirD d l,true):=by unfold dirO; rw [g2]
     obtain ⟨ll1,ll2⟩:=qia g7 g4;obtain ⟨s1,s2⟩:=qko hok l;simp only [Bool.not_true,cF,q40 d (show d.length<=1000000000 by omega),g1,oB,qiz d (show d.length<=1000000000 by omega),hdir,qkE d hok l g4]
     rw [ll1,ll2,cT];refine (q4A d hok l g4 hasc g5 g6 [] room (dirD d l) l 0 (wK d l) 0 rfl (zero_le _) (by omega) s2).trans ?_
     cases ht:zm d (l.getLastD 0) l with
     | none=>simp only [ht]
     | some t=>simp only [ht]; rfl
 ·simp only [dYF h1,Bool.not_false,cT];rw [q83 (fun h=>h1 ⟨h.1,h.2.1⟩)]
end Go.Den.S
namespace Go.Den.S
open Go Go.Den
open Classical
set_option maxRecDepth 4000
theorem qq6 (a b:Fil):(decide (a.1=b.1)&&(decide (a.2.1=b.2.1)&&((a.2.2==b.2.2)&&true)))=decide (a=b):=by
 rw [Bool.eq_iff_iff];simp only [and_eq_true,decide_eq_true_eq,beq_iff_eq,and_true];constructor
 ·rintro ⟨h1,h2,h3⟩; exact Prod.ext h1 (Prod.ext h2 h3)
 ·rintro rfl; exact ⟨rfl,rfl,rfl⟩
theorem qo2 (a b:Spt):(decide (a.1=b.1)&&((a.2.1==b.2.1)&&((a.2.2.1==b.2.2.1)&&((a.2.2.2==b.2.2.2)&&true))))=decide (a=b):=by
 rw [Bool.eq_iff_iff];simp only [and_eq_true,decide_eq_true_eq,beq_iff_eq,and_true];constructor
 ·rintro ⟨h1,h2,h3,h4⟩; exact Prod.ext h1 (Prod.ext h2 (Prod.ext h3 h4))
 ·rintro rfl; exact ⟨rfl,rfl,rfl,rfl⟩
theorem qhG (a b:List Fil) (hn:a.length<=1000000000) (hl:a.length=b.length):∀ (k i:Nat),i+k=a.length->qM a b (a.length:Int) (i:Int)=some (decide (a.drop i=b.drop i),())
 | 0,i,hi=>by
  rw [yJ];have k1:decide ((i:Int) < (a.length:Int))=false:=dYF (by omega)
  rw [k1,cF,List.drop_eq_nil_of_le (show a.length<=i by omega),List.drop_eq_nil_of_le (show b.length<=i by omega),dYT rfl]
 | k+1,i,hi=>by
  have hla:i < a.length:=by omega
  have hlb:i < b.length:=by omega
  rw [yJ];have k1:decide ((i:Int) < (a.length:Int))=true:=dYT (by omega)
  have k2:decide (0<=(i:Int))=true:=dYT (by omega)
  have k3:decide ((i:Int) < (b.length:Int))=true:=dYT (by omega)
  have k4:w64 ((i:Int)+1)=((i+1:Nat):Int):=qo (by omega)
  rw [k1,k2];simp only [Bool.and_self,cT];rw [k3,k4];simp only [Bool.and_self,cT,toNat_natCast,qV,qq6,qhG a b hn hl k (i+1) (by omega)]
  rw [drop_eq_getElem_cons hla,drop_eq_getElem_cons hlb,<- zC (d:=dF) hla,<- zC (d:=dF) hlb];by_cases h:a.getD i dF=b.getD i dF
  ·rw [dYT h,Bool.not_true,cF,h];simp only [List.cons.injEq,true_and]
  ·simp only [dYF h,Bool.not_false,cT,List.cons.injEq,h,false_and,decide_false]
theorem qhH (a b:List Spt) (hn:a.length<=1000000000) (hl:a.length=b.length):∀ (k i:Nat),i+k=a.length->qN a b (a.length:Int) (i:Int)=some (decide (a.drop i=b.drop i),())
 | 0,i,hi=>by
  rw [yK];have k1:decide ((i:Int) < (a.length:Int))=false:=dYF (by omega)
  rw [k1,cF,List.drop_eq_nil_of_le (show a.length<=i by omega),List.drop_eq_nil_of_le (show b.length<=i by omega),dYT rfl]
 | k+1,i,hi=>by
  have hla:i < a.length:=by omega
  have hlb:i < b.length:=by omega
  rw [yK];have k1:decide ((i:Int) < (a.length:Int))=true:=dYT (by omega)
  have k2:decide (0<=(i:Int))=true:=dYT (by omega)
  have k3:decide ((i:Int) < (b.length:Int))=true:=dYT (by omega)
  have k4:w64 ((i:Int)+1)=((i+1:Nat):Int):=qo (by omega)
  rw [k1,k2];simp only [Bool.and_self,cT];rw [k3,k4];simp only [Bool.and_self,cT,toNat_natCast,qV,qo2,qhH a b hn hl k (i+1) (by omega)]
  rw [drop_eq_getElem_cons hla,drop_eq_getElem_cons hlb,<- zC (d:=dS) hla,<- zC (d:=dS) hlb];by_cases h:a.getD i dS=b.getD i dS
  ·rw [dYT h,Bool.not_true,cF,h];simp only [List.cons.injEq,true_and]
  ·simp only [dYF h,Bool.not_false,cT,List.cons.injEq,h,false_and,decide_false]
theorem qpZ (a b:List Fil) (hn:a.length<=1000000000):yh a b=some (decide (a=b),()):=by
 rw [wX];by_cases hl:a.length=b.length
 ·have k:(((a.length:Nat):Int) != (b.length:Int))=false:=by rw [hl]; simp
  rw [k,cF];exact qhG a b hn hl a.length 0 (by omega)
 ·have k:(((a.length:Nat):Int) != (b.length:Int))=true:=by rw [bne_iff_ne]; omega
  rw [k,cT,dYF (fun e=>hl (by rw [e]))]
theorem qq0 (a b:List Spt) (hn:a.length<=1000000000):yj a b=some (decide (a=b),()):=by
 rw [wY];by_cases hl:a.length=b.length
 ·have k:(((a.length:Nat):Int) != (b.length:Int))=false:=by rw [hl]; simp
  rw [k,cF];exact qhH a b hn hl a.length 0 (by omega)
 ·have k:(((a.length:Nat):Int) != (b.length:Int))=true:=by rw [bne_iff_ne]; omega
  rw [k,cT,dYF (fun e=>hl (by rw [e]))]
theorem qpM (x e:Eng) (h1:x.1.length<=1000000000) (h2:x.2.2.2.2.length<=1000000000):q4H x e=some (decide (x=e),()):=by
 rw [qck,qpZ _ _ h1,qq0 _ _ h2];simp only [oB];have key:decide (x=e)=(decide (x.1=e.1)&&((x.2.1==e.2.1)&&((x.2.2.1==e.2.2.1)&&((x.2.2.2.1==e.2.2.2.1)&&decide (x.2.2.2.2=e.2.2.2.2))))):=by
  rw [Bool.eq_iff_iff];simp only [and_eq_true,decide_eq_true_eq,beq_iff_eq];constructor
  ·rintro rfl; exact ⟨rfl,rfl,rfl,rfl,rfl⟩
  ·rintro ⟨a,b,c,d,f⟩; exact Prod.ext a (Prod.ext b (Prod.ext c (Prod.ext d f)))
 rw [key];cases decide (x.1=e.1)<;>cases (x.2.1==e.2.1)<;>cases (x.2.2.1==e.2.2.1)<;>cases (x.2.2.2.1==e.2.2.2.1)<;>rfl
theorem qjx (d:List Fil):∀ l:List Nat,(∀ n∈l,n < 100)->(l.flatMap (opsN d)).length<=800000 * l.length
 | [],_=>le_refl _
 | n::l,h=>by
  have h1:=qjx d l fun x hx=>h x (List.mem_cons_of_mem _ hx)
  have hn:=h n (mem_cons_self ..);have h2:(opsN d n).length<=800000:=by
   rw [qcu];have a:=qaQ n (batD d n) (q0s d n) q9S;have b:=q3V d (show n<=99 by omega)
   omega
  rw [List.flatMap_cons,length_append,length_cons]; omega
theorem qjq {d:List Fil} {l:List Nat} (hl:l.length<=100) (hm:∀ n∈l,n < 100):(dirD d l).length<=80000000:=by
 rw [qgJ];have h1:=q6g (l.flatMap (opsN d)) [];have h2:=qjx d l hm;unfold runK;rw [List.length_nil] at h1;omega
theorem qj5:∀ (xs:List Act) (d:List Fil),d.length<=2000000->(wo d xs).1.length<=2000000
 | [],d,h=>h
 | a::r,d,h=>by
  simp only [wo];split
  ·exact h
  ·rename_i x hx;exact qj5 r x (qgz hx)
theorem qk6 {d:List Fil} (hd:d.length<=2000000) {room:Int} {x:Eng×List Act} (h:q4P d room=some x):x.1.1.length<=2000000/\x.1.2.2.2.2.length<=80000000/\x.2.length<=1000000000:=by
 unfold q4P at h;split at h
 ·split at h
  ·cases h
  ·rename_i l hl;obtain ⟨h1,h2,h3,h4⟩:=jm.1 hl;have hlen:l.length<=100:=by
    rw [h2]; unfold segN;exact le_trans (length_filter_le ..) (by simp)
   split at h
   ·cases h
   ·rename_i t ht;split at h
    ·rw [<- Option.some.inj h];refine ⟨qj5 _ _ hd,qjq hlen (fun n hn=>?_),(qkY h1 hlen ht).1.1⟩
     rw [h2] at hn;exact (jW.1 hn).1
    ·cases h
 ·cases h
theorem qej (e:Eng) (hd:e.1.length<=2000000):q7c e=some (decide (eOkP e),()):=by
 rw [qei,qce e.1 hd];simp only [oB];unfold opO eOkP;cases hx:q4P e.1 e.2.1 with
 | none=>simp
 | some x=>
  obtain ⟨x,xs⟩:=x;obtain ⟨l1,l2,_⟩:=qk6 hd hx;have l1:x.1.length<=2000000:=l1;have l2:x.2.2.2.2.length<=80000000:=l2;simp only [cT];cases xs with
  | nil=>
   have k:((([]:List Act).length:Int)==0)=true:=rfl;rw [k,cT,qpM x e (by omega) (by omega)]
   simp
  | cons a r=>
   have k:(((a::r).length:Int)==0)=false:=by rw [<- not_eq_true,beq_iff_eq,length_cons]; omega
   rw [k,cF];simp
theorem qbp (e x:Eng) (hn:x.2.2.2.2.length<=1000000000) (hl:x.2.2.2.2.length=e.2.2.2.2.length):∀ (k i:Nat),i+k=x.2.2.2.2.length->q1R (i:Int) e.1 e.2.1 e.2.2.1 e.2.2.2.1 e.2.2.2.2 x.1 x.2.1 x.2.2.1 x.2.2.2.1 x.2.2.2.2=some (decide (x.2.2.2.2.drop i=e.2.2.2.2.drop i),())
 | 0,i,hi=>by
  rw [q5j];have k1:decide ((i:Int) < (x.2.2.2.2.length:Int))=false:=dYF (by omega)
  rw [k1,cF,List.drop_eq_nil_of_le (show x.2.2.2.2.length<=i by omega),List.drop_eq_nil_of_le (show e.2.2.2.2.length<=i by omega),dYT rfl]
 | k+1,i,hi=>by
  have hla:i < x.2.2.2.2.length:=by omega
  have hlb:i < e.2.2.2.2.length:=by omega
  rw [q5j];have k1:decide ((i:Int) < (x.2.2.2.2.length:Int))=true:=dYT (by omega)
  have k2:decide (0<=(i:Int))=true:=dYT (by omega)
  have k3:decide ((i:Int) < (e.2.2.2.2.length:Int))=true:=dYT (by omega)
  have k4:w64 ((i:Int)+1)=((i+1:Nat):Int):=qo (by omega)
  rw [k1,k2];simp only [Bool.and_self,cT];rw [k3,k4];simp only [Bool.and_self,cT,toNat_natCast,qV,qo2,qbp e x hn hl k (i+1) (by omega)]
  rw [drop_eq_getElem_cons hla,drop_eq_getElem_cons hlb,<- zC (d:=dS) hla,<- zC (d:=dS) hlb];by_cases h:x.2.2.2.2.getD i dS=e.2.2.2.2.getD i dS
  ·rw [dYT h,Bool.not_true,cF,h];simp only [List.cons.injEq,true_and]
  ·simp only [dYF h,Bool.not_false,cT,List.cons.injEq,h,false_and,decide_false]
theorem qnE {d:List Fil} {room:Int} {x:Eng} (h:q4P d room=some (x,[])):x.1=d/\x.2.1=room:=by
 obtain ⟨_,_,l,_,e⟩:=qe0.1 h;rw [e]; exact ⟨rfl,rfl⟩
theorem qeL (e:Eng) (hd:e.1.length<=2000000):q7n e=some (decide (eOkP e),()):=by
 rw [qeK,qcH e.1 hd];simp only [oB];unfold opO eOkP;cases hx:q4P e.1 e.2.1 with
 | none=>simp
 | some x=>
  obtain ⟨x,xs⟩:=x;obtain ⟨l1,l2,_⟩:=qk6 hd hx;have l2:x.2.2.2.2.length<=80000000:=l2;simp only [Bool.not_true,cF];cases xs with
  | nil=>
   obtain ⟨d1,d2⟩:=qnE hx;have k:decide ((([]:List Act).length:Int) > 0)=false:=rfl;rw [k,cF];have key:(some (x,([]:List Act))=some (e,[]))↔x.2.2.1=e.2.2.1/\x.2.2.2.1=e.2.2.2.1/\x.2.2.2.2=e.2.2.2.2:=by
    constructor
    ·intro h;have:=(Prod.mk.inj (Option.some.inj h)).1;rw [this]; exact ⟨rfl,rfl,rfl⟩
    ·rintro ⟨a,b,c⟩
     have:x=e:=Prod.ext d1 (Prod.ext d2 (Prod.ext a (Prod.ext b c)));rw [this]
   by_cases h1:x.2.2.1=e.2.2.1
   ·have b1:(x.2.2.1 != e.2.2.1)=false:=by rw [h1]; simp
    rw [b1,cF];by_cases h2:x.2.2.2.1=e.2.2.2.1
    ·have b2:(x.2.2.2.1 != e.2.2.2.1)=false:=by rw [h2]; simp
     rw [b2,cF];by_cases hl:x.2.2.2.2.length=e.2.2.2.2.length
     ·have b3:((x.2.2.2.2.length:Int) != (e.2.2.2.2.length:Int))=false:=by rw [hl]; simp
      rw [b3,cF];refine (qbp e x (by omega) hl x.2.2.2.2.length 0 (by omega)).trans ?_
      rw [drop_zero,drop_zero];refine congrArg (fun b=>some (b,())) ?_
      rw [Bool.eq_iff_iff];simp only [decide_eq_true_eq];exact ⟨fun h=>key.2 ⟨h1,h2,h⟩,fun h=>(key.1 h).2.2⟩
     ·have b3:((x.2.2.2.2.length:Int) != (e.2.2.2.2.length:Int))=true:=by rw [bne_iff_ne]; omega
      rw [b3,cT];refine congrArg (fun b=>some (b,())) ?_
      rw [Bool.eq_iff_iff];simp only [false_eq_true,false_iff,decide_eq_true_eq];exact (fun h=>hl (by rw [(key.1 h).2.2]))
    ·have b2:(x.2.2.2.1 != e.2.2.2.1)=true:=by rw [bne_iff_ne]; exact h2
     rw [b2,cT];refine congrArg (fun b=>some (b,())) ?_
     rw [Bool.eq_iff_iff];simp only [false_eq_true,false_iff,decide_eq_true_eq];exact (fun h=>h2 (key.1 h).2.1)
   ·have b1:(x.2.2.1 != e.2.2.1)=true:=by rw [bne_iff_ne]; exact h1
    rw [b1,cT];refine congrArg (fun b=>some (b,())) ?_
    rw [Bool.eq_iff_iff];simp only [false_eq_true,false_iff,decide_eq_true_eq];exact (fun h=>h1 (key.1 h).1)
  | cons a r=>
   have k:decide (((a::r).length:Int) > 0)=true:=dYT (by rw [length_cons]; omega)
   rw [k,cT];simp
end Go.Den.S
namespace Go.Den.S
open Go Go.Den
set_option maxRecDepth 4000
def q9f (k:BA) (l:List Chg):BA×Bool:=match l.find? (fun c=>decide (c.1=k)&&!c.2.2) with
 | some c=>(c.2.1,true)
 | none=>(eB,false)
theorem qfU (k:BA) (c:Chg) (r:List Chg):q9f k (c::r)=bif decide (c.1=k) then (bif !c.2.2 then (c.2.1,true) else q9f k r) else q9f k r:=by
 unfold q9f;rw [find?_cons];cases decide (c.1=k)<;>cases c.2.2<;>rfl
theorem qbg (s:Spt) (cs:List Chg) (hn:cs.length<=1000000000):∀ (r:List Chg) (i:Nat),cs.drop i=r->i<=cs.length->
  q0P cs (cs.length:Int) (i:Int) s.1 s.2.1 s.2.2.1 s.2.2.2=some (q9f s.1 r,())
 | [],i,hd,hi=>by
  have:=drop_eq_nil_iff.1 hd;rw [q6u];have k1:decide ((i:Int) < (cs.length:Int))=false:=dYF (by omega)
  simp only [k1,cF]; rfl
 | c::r,i,hd,hi=>by
  obtain ⟨e1,hlt,e2⟩:=qX dC hd;rw [q6u];have k1:decide ((i:Int) < (cs.length:Int))=true:=dYT (by omega)
  have k2:decide (0<=(i:Int))=true:=dYT (by omega)
  have k4:w64 ((i:Int)+1)=((i+1:Nat):Int):=qo (by omega)
  rw [k1,k2];simp only [Bool.and_self,cT,k4,toNat_natCast,e1,qV,qbg s cs hn r (i+1) e2 hlt,qfU];cases decide (c.1=s.1)<;>cases c.2.2<;>rfl
theorem qbt (s:Spt) (q:Int) (cs:List Chg) (hn:cs.length<=1000000000):∀ (r:List Chg) (i:Nat),cs.drop i=r->i<=cs.length->
  q14 (i:Int) s.1 s.2.1 s.2.2.1 s.2.2.2 q cs=some (q9f s.1 r,())
 | [],i,hd,hi=>by
  have:=drop_eq_nil_iff.1 hd;rw [q77];have k1:decide ((i:Int) < (cs.length:Int))=false:=dYF (by omega)
  simp only [k1,cF]; rfl
 | c::r,i,hd,hi=>by
  obtain ⟨e1,hlt,e2⟩:=qX dC hd;rw [q77];have k1:decide ((i:Int) < (cs.length:Int))=true:=dYT (by omega)
  have k2:decide (0<=(i:Int))=true:=dYT (by omega)
  have k4:w64 ((i:Int)+1)=((i+1:Nat):Int):=qo (by omega)
  rw [k1,k2];simp only [Bool.and_self,cT,k4,toNat_natCast,e1,qV,qbt s q cs hn r (i+1) e2 hlt,qfU];cases decide (c.1=s.1)<;>cases c.2.2<;>rfl
noncomputable def q3M (d:List Fil) (n:Nat) (a:Int):Option Bat:=(getK (nmL n) d).bind fun x=>
 if a < 0\/(x.1.size:Int) < a then none else match (unfr ((bl x.1).drop a.toNat)).1 with
  | []=>none
  | h::_=>zX h
theorem q86 (d:List Fil) (s:Spt) {n:Nat} (h:s.2.1=(n:Int)):valD d s=(q3M d n s.2.2.1).bind fun b=>if b.1=s.2.2.2 then (b.2.find? fun c=>decide (c.1=s.1)&&!c.2.2).map (·.2.1) else none:=by
 unfold valD q3M;rw [h,if_neg (by omega),toNat_natCast]
 cases getK (nmL n) d with
 | none=>rfl
 | some x=>
  simp only [oB];split
  ·rfl
  ·cases (unfr ((bl x.1).drop s.2.2.1.toNat)).1 with
   | nil=>rfl
   | cons h r=>rfl
noncomputable def voO (d:List Fil) (s:Spt):BA×Bool:=match valD d s with
 | some v=>(v,true)
 | none=>(eB,false)
theorem q8X {d:List Fil} {s:Spt} (h:valD d s=none):voO d s=(eB,false):=by unfold voO; rw [h]
theorem qkA {d:List Fil} {s:Spt} {n:Nat} (h:s.2.1=(n:Int)) {b:Bat} (hb:q3M d n s.2.2.1=some b):voO d s=bif (b.1 != s.2.2.2) then (eB,false) else q9f s.1 b.2:=by
 unfold voO;rw [q86 d s h,hb];simp only [oB];by_cases e:b.1=s.2.2.2
 ·have:(b.1 != s.2.2.2)=false:=by rw [e]; simp
  rw [this,if_pos e,cF];unfold q9f;cases b.2.find? fun c=>decide (c.1=s.1)&&!c.2.2<;>rfl
 ·have:(b.1 != s.2.2.2)=true:=bne_iff_ne.2 e;rw [this,if_neg e,cT]
theorem qd5 (t:BA) (a:Nat):bl (t.extract a t.size)=(bl t).drop a:=by
 rw [q1V,List.take_of_length_le];rw [length_drop,<- yg]; omega
theorem qii {h:BA} {b:Bat} (e:zX h=some b):b.2.length<=40:=qf6 (q0a.1 e).1
noncomputable def baO (d:List Fil) (n:Nat) (a:Int):Bat×Bool:=match q3M d n a with
 | some b=>(b,true)
 | none=>((0,[]),false)
theorem qeT (d:List Fil) (hd:dOkB d=true) {n:Nat} (hn:n < 100) (a:Int):q7q d (n:Int) a=some (baO d n a,()):=by
 have hl:=(qP.1 hd).1;rw [qeS,jg,q0D hn];simp only [oB];rw [q3q d (by omega)]
 unfold faO baO q3M;cases hg:getK (nmL n) d with
 | none=>rfl
 | some x=>
  have hf:=(wB (qP.1 hd).2.2).1 hg;have hx:x.1.size<=20000:=(q0J.1 ((qP.1 hd).2.1 _ hf)).2.2.1;simp only [oB,Bool.not_true,cF,zO,q0R];by_cases ha:0<=a/\a<=(x.1.size:Int)
  ·rw [dYT ha,if_neg (by omega),dYT ha.1,dYT ha.2,dYT (Int.le_refl _),q9j]
   simp only [Bool.not_true,cF,Bool.and_self,cT,oB,toNat_natCast];have hu:(unO (x.1.extract a.toNat x.1.size)).1=(unfr ((bl x.1).drop a.toNat)).1:=by
    unfold unO;rw [if_pos (by rw [yg,qd5,length_drop,<- yg]; omega),qd5]
   have hf:=fun h=>qcQ (t:=x.1.extract a.toNat x.1.size) (h:=h)
   rw [hu] at hf ⊢;cases hc:(unfr ((bl x.1).drop a.toNat)).1 with
   | nil=>rfl
   | cons h r=>
    have hh:frOk h:=hf h (by rw [hc]; exact mem_cons_self ..)
    have k1:(((h::r).length:Int)==0)=false:=by rw [beq_eq_false_iff_ne,length_cons]; omega
    have k2:decide ((0:Int) < ((h::r).length:Int))=true:=dYT (by rw [length_cons]; omega)
    have k3:decide ((0:Int)<=0)=true:=rfl;have k4:(h::r).getD (toNat 0) eB=h:=rfl;rw [k1,k2,k3,k4,q7B h (by have:=hh.2; omega)]
    rfl
  ·rw [dYF ha,if_pos (by omega)]; rfl
theorem qgi (d:List Fil) (hd:dOkB d=true) (s:Spt) {n:Nat} (hn:n < 100) (h:s.2.1=(n:Int)):q8P d s=some (voO d s,()):=by
 have hl:=(qP.1 hd).1;rw [qgh,zx d (by omega),hd,h,qeT d hd hn]
 simp only [oB,Bool.not_true,cF];unfold baO;cases hb:q3M d n s.2.2.1 with
 | none=>rw [q8X (by rw [q86 d s h,hb]; rfl)]; rfl
 | some b=>
  have hb40:b.2.length<=40:=by
   unfold q3M at hb;obtain ⟨x,_,hx⟩:=Option.bind_eq_some_iff.1 hb;split at hx
   ·cases hx
   ·split at hx
    ·cases hx
    ·exact qii hx
  rw [qkA h hb];simp only [Bool.not_true,cF];have:=qbt s b.1 b.2 (by omega) b.2 0 rfl (zero_le _)
  rw [h] at this;rw [show ((0:Int))=((0:Nat):Int) from rfl,this]
  cases (b.1 != s.2.2.2)<;>rfl
theorem qfD (d:List Fil) (hd:dOkB d=true) (s:Spt) {n:Nat} (hn:n < 100) (h:s.2.1=(n:Int)):q8m d s=some (voO d s,()):=by
 have hl:=(qP.1 hd).1;rw [qfC,jP,h,q0D hn];simp only [oB];rw [q1r d (by omega)]
 simp only [oB];rw [zq d (by omega),hd]
 unfold faO;cases hg:getK (nmL n) d with
 | none=>rw [q8X (by rw [q86 d s h]; unfold q3M; rw [hg]; rfl)]; rfl
 | some x=>
  have hf:=(wB (qP.1 hd).2.2).1 hg;have hx:x.1.size<=20000:=(q0J.1 ((qP.1 hd).2.1 _ hf)).2.2.1;simp only [oB,Bool.not_true,cF,zW,q0R];by_cases ha:0<=s.2.2.1/\s.2.2.1<=(x.1.size:Int)
  ·rw [dYT ha,dYT ha.1,dYT ha.2,dYT (Int.le_refl _),q4E];simp only [Bool.not_true,cF,Bool.and_self,cT,oB,toNat_natCast];have hu:(unO (x.1.extract s.2.2.1.toNat x.1.size)).1=(unfr ((bl x.1).drop s.2.2.1.toNat)).1:=by
    unfold unO;rw [if_pos (by rw [yg,qd5,length_drop,<- yg]; omega),qd5]
   have hf:=fun h=>qcQ (t:=x.1.extract s.2.2.1.toNat x.1.size) (h:=h)
   have hba:q3M d n s.2.2.1=match (unfr ((bl x.1).drop s.2.2.1.toNat)).1 with | []=>none | h::_=>zX h:=by
    unfold q3M;rw [hg,oB,if_neg (by omega)]
   rw [hu] at hf ⊢;cases hc:(unfr ((bl x.1).drop s.2.2.1.toNat)).1 with
   | nil=>rw [hc] at hba; rw [q8X (by rw [q86 d s h,hba]; rfl)]; rfl
   | cons t r=>
    have hh:frOk t:=hf t (by rw [hc]; exact mem_cons_self ..)
    have k1:(((t::r).length:Int)==0)=false:=by rw [beq_eq_false_iff_ne,length_cons]; omega
    have k2:decide ((0:Int) < ((t::r).length:Int))=true:=dYT (by rw [length_cons]; omega)
    have k3:decide ((0:Int)<=0)=true:=rfl;have k4:(t::r).getD (toNat 0) eB=t:=rfl;rw [k1,k2,k3,k4,q7v t (by have:=hh.2; omega)]
    rw [hc] at hba;have hba:q3M d n s.2.2.1=zX t:=hba;simp only [cF,Bool.and_self,cT,oB];cases hb:zX t with
    | none=>rw [qeD hb,q8X (by rw [q86 d s h,hba,hb]; rfl)]; rfl
    | some b=>
     have hb40:=qii hb;rw [qeE hb,qkA h (hba.trans hb)];simp only [Bool.not_true,cF];have:=qbg s b.2 (by omega) b.2 0 rfl (zero_le _)
     rw [h] at this;rw [show ((0:Int))=((0:Nat):Int) from rfl,this]
     cases (b.1 != s.2.2.2)<;>rfl
  ·rw [dYF ha,q8X (by
    rw [q86 d s h]; unfold q3M; rw [hg,oB,if_pos (by omega)]; rfl)]; rfl
end Go.Den.S
namespace Go.Den.S
open Go Go.Den
open Classical
set_option maxRecDepth 4000
theorem qpl {d:List Fil} {l:List Nat} {s:Spt} (h:s∈dirD d l):∃ n∈l,s.2.1=(n:Int):=by
 unfold dirD at h;obtain ⟨x,hx,rfl⟩:=mem_map.1 h;have h:=qoG hx;unfold qmS at h;obtain ⟨n,hn,h⟩:=List.mem_flatMap.1 h;obtain ⟨p,hp,h⟩:=List.mem_flatMap.1 h;unfold qgu at h;obtain ⟨c,hc,h⟩:=mem_map.1 h;simp only [Prod.mk.injEq] at h;obtain ⟨e1,e2⟩:=h;refine ⟨n,hn,?_⟩;cases hg:c.2.2 with
 | true=>rw [hg] at e2; cases e2
 | false=>
  rw [hg] at e2;simp only [cF,Option.some.injEq] at e2;show x.2.1.1=_;rw [<- e2]
noncomputable def conS (d:List Fil) (l:List Spt):List Chg:=l.map fun s=>(s.1,((voO d s).1,false))
theorem qa4 (e:Eng) (hd:dOkB e.1=true) (l:List Spt) (hl:l.length<=1000000000) (hs:∀ s∈l,∃ n:Nat,n < 100/\s.2.1=(n:Int)):∀ (r:List Spt) (i:Nat) (acc:List Chg),l.drop i=r->i<=l.length->acc.length<=i->
  q1I acc l (l.length:Int) (i:Int) e.1 e.2.1 e.2.2.1 e.2.2.2.1 e.2.2.2.2=some ((acc++conS e.1 r,true),())
 | [],i,acc,hd',hi,ha=>by
  have:=drop_eq_nil_iff.1 hd';rw [q56];have k1:decide ((i:Int) < (l.length:Int))=false:=dYF (by omega)
  simp only [k1,cF];show _=some ((acc++[],true),());rw [append_nil]
 | s::r,i,acc,hd',hi,ha=>by
  obtain ⟨e1,hlt,e2⟩:=qX dS hd';obtain ⟨n,hn,h⟩:=hs s (yN hd');rw [q56];have k1:decide ((i:Int) < (l.length:Int))=true:=dYT (by omega)
  have k2:decide (0<=(i:Int))=true:=dYT (by omega)
  have k4:w64 ((i:Int)+1)=((i+1:Nat):Int):=qo (by omega)
  have kl:lim (acc.length+1) 40=true:=qZ (by omega)
  rw [k1,k2];simp only [Bool.and_self,cT,k4,toNat_natCast,e1,pmk];rw [qfD e.1 hd s hn h];simp only [oB];rw [kl,cT,qa4 e hd l hl hs r (i+1) _ e2 hlt (by rw [length_append,length_singleton]; omega),append_assoc]
  rfl
theorem qak (e:Eng) (hd:dOkB e.1=true) (hl:e.2.2.2.2.length<=1000000000) (hs:∀ s∈e.2.2.2.2,∃ n:Nat,n < 100/\s.2.1=(n:Int)):∀ (r:List Spt) (i:Nat) (acc:List Chg),e.2.2.2.2.drop i=r->i<=e.2.2.2.2.length->acc.length<=i->
  q1Q acc (i:Int) e.1 e.2.1 e.2.2.1 e.2.2.2.1 e.2.2.2.2=some ((acc++conS e.1 r,true),())
 | [],i,acc,hd',hi,ha=>by
  have:=drop_eq_nil_iff.1 hd';rw [q5i];have k1:decide ((i:Int) < (e.2.2.2.2.length:Int))=false:=dYF (by omega)
  simp only [k1,cF];show _=some ((acc++[],true),());rw [append_nil]
 | s::r,i,acc,hd',hi,ha=>by
  obtain ⟨e1,hlt,e2⟩:=qX dS hd';obtain ⟨n,hn,h⟩:=hs s (yN hd');rw [q5i];have k1:decide ((i:Int) < (e.2.2.2.2.length:Int))=true:=dYT (by omega)
  have k2:decide (0<=(i:Int))=true:=dYT (by omega)
  have k4:w64 ((i:Int)+1)=((i+1:Nat):Int):=qo (by omega)
  have kl:lim (acc.length+1) 40=true:=qZ (by omega)
  rw [k1,k2];simp only [Bool.and_self,cT,k4,toNat_natCast,e1,pmk];rw [qgi e.1 hd s hn h];simp only [oB];rw [kl,cT,qak e hd hl hs r (i+1) _ e2 hlt (by rw [length_append,length_singleton]; omega),append_assoc]
  rfl
noncomputable def coO (e:Eng):List Chg×Bool:=if eOkP e then (conS e.1 e.2.2.2.2,true) else ([],false)
theorem qoN {d:List Fil} {l:List Nat} (h:segs d=some l):l.length<=100:=by
 rw [(jm.1 h).2.1]; unfold segN;exact le_trans (length_filter_le ..) (by simp)
theorem qhW {e:Eng} (h:eOkP e):dOkB e.1=true/\e.2.2.2.2.length<=80000000/\∀ s∈e.2.2.2.2,∃ n:Nat,n < 100/\s.2.1=(n:Int):=by
 obtain ⟨_,_,l,C,he⟩:=qot.1 h;have h5:e.2.2.2.2=dirD e.1 l:=by rw [he]; rfl
 have hm:∀ n∈l,n < 100:=fun n hn=>(C.mem.1 hn).1
 refine ⟨C.ok,?_,fun s hs=>?_⟩
 ·rw [h5]; exact qjq (qoN C.segs) hm
 ·rw [h5] at hs;obtain ⟨n,hn,e1⟩:=qpl hs;exact ⟨n,hm n hn,e1⟩
theorem qeh (e:Eng) (hd:e.1.length<=2000000):q7b e=some (coO e,()):=by
 rw [qeg,qej e hd];unfold coO;by_cases h:eOkP e
 ·obtain ⟨f1,f2,f3⟩:=qhW h;rw [dYT h,if_pos h];exact qa4 e f1 e.2.2.2.2 (by omega) f3 e.2.2.2.2 0 [] rfl (zero_le _) (le_refl _)
 ·rw [dYF h,if_neg h]; rfl
theorem qeJ (e:Eng) (hd:e.1.length<=2000000):q7m e=some (coO e,()):=by
 rw [qeI,qeL e hd];unfold coO;by_cases h:eOkP e
 ·obtain ⟨f1,f2,f3⟩:=qhW h;rw [dYT h,if_pos h];exact qak e f1 (by omega) f3 e.2.2.2.2 0 [] rfl (zero_le _) (le_refl _)
 ·rw [dYF h,if_neg h]; rfl
theorem mx (k m:Int):(bif decide (m > k) then m else k)=max k m:=by
 by_cases h:m > k
 ·rw [dYT h,cT]; omega
 ·rw [dYF h,cF]; omega
theorem qde {α:Type} (acc r:List α) (f d:α) {i:Nat} (h:acc.length=i):(acc++f::r).getD i d=f:=by
 subst h; simp
theorem Clean.txt {d:List Fil} {l:List Nat} (C:Clean d l) {n:Nat} (hn:n∈l):getK (nmL n) d=some (txtD d n,((txtD d n).size:Int))/\(txtD d n).size<=20000:=by
 obtain ⟨t,h1,_,_,h2,_⟩:=C.file hn;have:txtD d n=t:=by unfold txtD; rw [h1]; rfl
 rw [this]; exact ⟨h1,h2⟩
end Go.Den.S
namespace Go.Den.S
open Go Go.Den
set_option maxRecDepth 4000
theorem qbn:∀ (n:Nat) (x:Int) (s:BA),0<=x->x < 10 ^ n->x<=9223372036854775807->s.size+n<=1000000->∃ r,q1M x s=some (r,())
 | 0,x,s,h0,h1,hx,hs=>by
  rw [q5h];have:¬ x > 0:=by simp at h1; omega
  have e1:(c_m:BA).size=1:=rfl;simp only [dYF this,cF,qY (show c_m.size+s.size<=9223372036854775807 by omega),cT]
  exact ⟨_,rfl⟩
 | n+1,x,s,h0,h1,hx,hs=>by
  rw [q5h];by_cases h:x > 0
  ·have hd:w64 (Int.tdiv x 10)=x / 10:=by
    show IntKind.i64.wrap _=_;rw [Int.tdiv_eq_ediv_of_nonneg h0,qh (by omega) (by omega)]
   have e1:∀ (b:UInt8),(⟨List.toArray [b]⟩:BA).size=1:=fun _=>rfl
   simp only [dYT h,cT,map_cons,map_nil,e1,qY (show 1+s.size<=9223372036854775807 by omega),hd]
   refine qbn n (x / 10) _ (by omega) ?_ (by omega) ?_
   ·rw [Int.pow_succ] at h1; omega
   ·rw [ByteArray.size_append,e1]; omega
  ·have e1:(c_m:BA).size=1:=rfl;simp only [dYF h,cF,qY (show c_m.size+s.size<=9223372036854775807 by omega),cT]
   exact ⟨_,rfl⟩
theorem qiN (k:Int) (h:k<=9223372036854775807):∃ r,wE k=some (r,()):=by
 rw [qex];by_cases h0:k<=0
 ·exact ⟨_,by simp only [dYT h0,cT]; rfl⟩
 ·simp only [dYF h0,cF];exact qbn 19 k _ (by omega) (by omega) h (by decide)
noncomputable def mkT (k:Int):BA:=((wE k).getD (eB,())).1
theorem jF (k:Int) (h:k<=9223372036854775807):wE k=some (mkT k,()):=by
 obtain ⟨r,hr⟩:=qiN k h;unfold mkT;rw [hr]; rfl
theorem qcY (a b:Int):(a != b)=!decide (a=b):=by
 by_cases e:a=b
 ·simp [e]
 ·simp [e]

def q1T (x:Fil):Nat:=x.1.size+x.2.1.size
theorem qo6 (x:Fil) (left:Int) (h0:0<=left) (h1:left<=2097152) (hs:x.1.size<=9223372036854775807/\x.2.1.size<=9223372036854775807):q9v x left=some (szv (q1T x) left,()):=by
 have ew:q1T x=x.1.size+x.2.1.size:=rfl;obtain ⟨s0,s1⟩:=hs;rw [qh1];rw [show w64 (left - (x.1.size:Int))=left - (x.1.size:Int) from qh (by omega) (by omega)]
 by_cases h2:left - (x.1.size:Int) < 0
 ·rw [q3J (by omega)]
  simp only [dYT h2,cT]
 simp only [dYF h2,cF];rw [show w64 (left - (x.1.size:Int) - (x.2.1.size:Int))=left - (x.1.size:Int) - (x.2.1.size:Int) from qh (by omega) (by omega)]
 by_cases h3:left - (x.1.size:Int) - (x.2.1.size:Int) < 0
 ·rw [q3J (by omega)]
  simp only [dYT h3,cT]
 simp only [dYF h3,cF];rw [qcP (by omega)]
 congr 2; omega
theorem qmQ (a:List Fil) (left:Int) (h0:0<=left) (h1:left<=2097152) (hl:a.length<=9223372036854775807) (hs:∀ x∈a,x.1.size<=9223372036854775807/\x.2.1.size<=9223372036854775807) :
  q8s a left=some (szv (wl q1T a) left,()):=by
 rw [qfN];have e:w64 (left - (a.length:Int))=left - (a.length:Int):=qh (by omega) (by omega)
 rw [e];rw [show wl q1T a=a.length+(a.map q1T).sum from rfl]
 by_cases h:left - (a.length:Int) < 0
 ·simp only [dYT h,cT];unfold szv;rw [if_neg (by omega)]
 ·simp only [dYF h,cF];have key:=q8w a ((eB,(eB,0)):Fil) (fun i r=>∀ left:Int,0<=left->left<=2097152->q2t a left (i:Int)=some (szv ((r.map q1T).sum) left,())) (fun left h0 h1=>by
   rw [q6K];simp [szv,h0]) (fun i x r hi hx hm ih left h0 h1=>by
   rw [q6K];have k1:decide ((i:Int) < (a.length:Int))=true:=dYT (by omega)
   have k2:decide (0<=(i:Int))=true:=dYT (by omega)
   have k4:w64 ((i:Int)+1)=((i+1:Nat):Int):=qo (by omega)
   simp only [k1,k2,Bool.and_self,cT,toNat_natCast,hx,k4,map_cons,List.sum_cons,pmk];rw [qo6 x left h0 h1 (hs x hm),oB];by_cases hn:(q1T x:Int)<=left
   ·rw [qcP hn];simp only [dYF (show ¬ left - (q1T x:Int) < 0 by omega),cF]
    rw [ih _ (by omega) (by omega)]
    unfold szv;split<;>split<;>first | rfl | omega | (congr 2; omega)
   ·rw [q3J (by omega),q3J (by omega)]
    rfl)
  refine (key _ (by omega) (by omega)).trans ?_
  unfold szv;split<;>split<;>first | rfl | omega | (congr 2; omega)
theorem qmT (a:List Fil) (ha:a.length<=2097152):q8u a=some (a,()):=by
 rw [qfP];have e:lim a.length 40=true:=qZ (by omega)
 simp only [Int.le_refl,decide_true,Int.natCast_nonneg,toNat_natCast,e,Bool.and_self,cT];refine (qcb (fun out i=>jQ a out i) a ((eB,(eB,0)):Fil) (List.replicate a.length (eB,(eB,0))) (by simp) fun out i hi' hl=>?_).trans ?_
 ·show jQ a out i=_;rw [q6M];have e:w64 ((i:Int)+1)=(i:Int)+1:=qh (by omega) (by omega)
  have h1:decide ((i:Int) < (a.length:Int))=true:=dYT (by omega)
  have h2:decide ((i:Int) < (out.length:Int))=true:=dYT (by omega)
  have h3:decide (0<=(i:Int))=true:=dYT (by omega)
  simp only [h1,h2,h3,e,Bool.and_self,cT,toNat_natCast,qh4,oB,pmk]
 ·show jQ a a (a.length:Int)=_;rw [q6M];simp
theorem qnf (a b:Fil):q9s a b=some (decide (a=b),()):=by
 rw [qgY];obtain ⟨a0,a1,a2⟩:=a;obtain ⟨b0,b1,b2⟩:=b;simp only [qV,Prod.mk.injEq,qcY];by_cases h0:a0=b0<;>by_cases h1:a1=b1<;>by_cases h2:a2=b2<;>simp [h0,h1,h2]
theorem qmc (a b:List Fil) (ha:a.length<=200000000):q8q a b=some (decide (a=b),()):=by
 rw [qfL];by_cases hl:a.length=b.length
 ·have e:((a.length:Int) != (b.length:Int))=false:=by simp [hl]
  simp only [e,cF];refine qd4 (fun i=>q2q a b i) a b ((eB,(eB,0)):Fil) hl (fun i hi'=>?_) ?_
  ·rw [q6w];have e:w64 ((i:Int)+1)=(i:Int)+1:=qh (by omega) (by omega)
   have h1:decide ((i:Int) < (a.length:Int))=true:=dYT (by omega)
   have h2:decide ((i:Int) < (b.length:Int))=true:=dYT (by omega)
   have h3:decide (0<=(i:Int))=true:=dYT (by omega)
   simp only [h1,h2,h3,e,Bool.and_self,cT,toNat_natCast,pmk];rw [qnf,oB];by_cases h:a.getD i (eB,(eB,0))=b.getD i (eB,(eB,0))
   ·rw [dYT h,if_pos h,Bool.not_true,cF]
   ·rw [dYF h,if_neg h,Bool.not_false,cT]
  ·rw [q6w];simp
 ·have e:((a.length:Int) != (b.length:Int))=true:=by simp; omega
  simp only [e,cT];rw [dYF fun h=>hl (by rw [h])]
noncomputable def mFile (k:Int):Fil:=(mkT k,(mkT (k+1),k+2))
noncomputable def q7Z (k:Int):Nat->List Fil
 | 0=>[]
 | n+1=>mFile k::q7Z (k+3) n
theorem qjV (a:List Fil) (k:Int) (h0:0<=k) (hl:a.length<=200000000) (hk:k<=1000000000):q5O a k=some (k+3 * (a.length:Int),q7Z k a.length,()):=by
 rw [qdB];have key:∀ (r pre:List Fil) (k:Int),0<=k->k+3 * (r.length:Int)<=2000000000->pre.length+r.length<=200000000->q1h k (pre.length:Int) (pre++r)=some (k+3 * (r.length:Int),pre++q7Z k r.length,()):=by
  intro r;induction r with
  | nil=>
   intro pre k h0 hk hp;rw [q4M];have k1:decide ((pre.length:Int) < ((pre++([]:List Fil)).length:Int))=false:=dYF (by simp)
   simp only [k1,cF];simp [q7Z]
  | cons x r ih=>
   intro pre k h0 hk hp;simp only [length_cons] at hp hk;have hset:∀ x y:Fil,(pre++x::r).set pre.length y=pre++y::r:=fun x y=>by simp
   have hget:∀ x:Fil,(pre++x::r).getD pre.length (eB,(eB,0))=x:=fun x=>by simp [List.getD_eq_getElem?_getD]
   have hlt:∀ x:Fil,decide ((pre.length:Int) < ((pre++x::r).length:Int))=true:=fun x=>dYT (by simp; omega)
   have k2:decide (0<=(pre.length:Int))=true:=dYT (by omega)
   have k3:w64 ((pre.length:Int)+1)=((pre.length+1:Nat):Int):=qo (by omega)
   have w1:w64 (k+1)=k+1:=(qh (by omega) (by omega)).trans (by omega)
   have w2:w64 (k+1+1)=k+2:=(qh (by omega) (by omega)).trans (by omega)
   have w3:w64 (k+2+1)=k+3:=(qh (by omega) (by omega)).trans (by omega)
   rw [q4M];simp only [hlt,k2,k3,w1,w2,w3,Bool.and_self,cT,toNat_natCast,jF k (by omega),jF (k+1) (by omega),oB,hset,hget]
   have:=ih (pre++[mFile k]) (k+3) (by omega) (by omega) (by simp only [length_append,length_singleton]; omega)
   rw [show (pre++[mFile k]).length=pre.length+1 by simp,append_assoc,singleton_append] at this
   refine this.trans ?_;rw [length_cons,q7Z,append_assoc,singleton_append];rw [show k+3+3 * (r.length:Int)=k+3 * ((r.length+1:Nat):Int) by omega]
 have:=key a [] k h0 (by omega) (by simpa using hl)
 simpa using this
def q3T (x:Spt):Nat:=x.1.size
theorem qo7 (x:Spt) (left:Int) (h0:0<=left) (h1:left<=2097152) (hs:x.1.size<=9223372036854775807):q9w x left=some (szv (q3T x) left,()):=by
 have ew:q3T x=x.1.size:=rfl;have s0:=hs;rw [qh2];rw [show w64 (left - (x.1.size:Int))=left - (x.1.size:Int) from qh (by omega) (by omega)]
 by_cases h2:left - (x.1.size:Int) < 0
 ·rw [q3J (by omega)]
  simp only [dYT h2,cT]
 simp only [dYF h2,cF];rw [qcP (by omega)]
 rw [ew]
theorem qmR (a:List Spt) (left:Int) (h0:0<=left) (h1:left<=2097152) (hl:a.length<=9223372036854775807) (hs:∀ x∈a,x.1.size<=9223372036854775807) :
  q8t a left=some (szv (wl q3T a) left,()):=by
 rw [qfO];have e:w64 (left - (a.length:Int))=left - (a.length:Int):=qh (by omega) (by omega)
 rw [e];rw [show wl q3T a=a.length+(a.map q3T).sum from rfl]
 by_cases h:left - (a.length:Int) < 0
 ·simp only [dYT h,cT];unfold szv;rw [if_neg (by omega)]
 ·simp only [dYF h,cF];have key:=q8w a ((eB,(0,(0,0))):Spt) (fun i r=>∀ left:Int,0<=left->left<=2097152->q2u a left (i:Int)=some (szv ((r.map q3T).sum) left,())) (fun left h0 h1=>by
   rw [q6L];simp [szv,h0]) (fun i x r hi hx hm ih left h0 h1=>by
   rw [q6L];have k1:decide ((i:Int) < (a.length:Int))=true:=dYT (by omega)
   have k2:decide (0<=(i:Int))=true:=dYT (by omega)
   have k4:w64 ((i:Int)+1)=((i+1:Nat):Int):=qo (by omega)
   simp only [k1,k2,Bool.and_self,cT,toNat_natCast,hx,k4,map_cons,List.sum_cons,pmk];rw [qo7 x left h0 h1 (hs x hm),oB];by_cases hn:(q3T x:Int)<=left
   ·rw [qcP hn];simp only [dYF (show ¬ left - (q3T x:Int) < 0 by omega),cF]
    rw [ih _ (by omega) (by omega)]
    unfold szv;split<;>split<;>first | rfl | omega | (congr 2; omega)
   ·rw [q3J (by omega),q3J (by omega)]
    rfl)
  refine (key _ (by omega) (by omega)).trans ?_
  unfold szv;split<;>split<;>first | rfl | omega | (congr 2; omega)
theorem qmU (a:List Spt) (ha:a.length<=2097152):q8v a=some (a,()):=by
 rw [qfQ];have e:lim a.length 40=true:=qZ (by omega)
 simp only [Int.le_refl,decide_true,Int.natCast_nonneg,toNat_natCast,e,Bool.and_self,cT];refine (qcb (fun out i=>jR a out i) a ((eB,(0,(0,0))):Spt) (List.replicate a.length (eB,(0,(0,0)))) (by simp) fun out i hi' hl=>?_).trans ?_
 ·show jR a out i=_;rw [q6N];have e:w64 ((i:Int)+1)=(i:Int)+1:=qh (by omega) (by omega)
  have h1:decide ((i:Int) < (a.length:Int))=true:=dYT (by omega)
  have h2:decide ((i:Int) < (out.length:Int))=true:=dYT (by omega)
  have h3:decide (0<=(i:Int))=true:=dYT (by omega)
  simp only [h1,h2,h3,e,Bool.and_self,cT,toNat_natCast,qh5,oB,pmk]
 ·show jR a a (a.length:Int)=_;rw [q6N];simp
theorem qng (a b:Spt):q9t a b=some (decide (a=b),()):=by
 rw [qgZ];obtain ⟨a0,a1,a2,a3⟩:=a;obtain ⟨b0,b1,b2,b3⟩:=b;simp only [qV,Prod.mk.injEq,qcY];by_cases h0:a0=b0<;>by_cases h1:a1=b1<;>by_cases h2:a2=b2<;>by_cases h3:a3=b3<;>simp [h0,h1,h2,h3]
theorem qmd (a b:List Spt) (ha:a.length<=200000000):q8r a b=some (decide (a=b),()):=by
 rw [qfM];by_cases hl:a.length=b.length
 ·have e:((a.length:Int) != (b.length:Int))=false:=by simp [hl]
  simp only [e,cF];refine qd4 (fun i=>q2r a b i) a b ((eB,(0,(0,0))):Spt) hl (fun i hi'=>?_) ?_
  ·rw [q6x];have e:w64 ((i:Int)+1)=(i:Int)+1:=qh (by omega) (by omega)
   have h1:decide ((i:Int) < (a.length:Int))=true:=dYT (by omega)
   have h2:decide ((i:Int) < (b.length:Int))=true:=dYT (by omega)
   have h3:decide (0<=(i:Int))=true:=dYT (by omega)
   simp only [h1,h2,h3,e,Bool.and_self,cT,toNat_natCast,pmk];rw [qng,oB];by_cases h:a.getD i (eB,(0,(0,0)))=b.getD i (eB,(0,(0,0)))
   ·rw [dYT h,if_pos h,Bool.not_true,cF]
   ·rw [dYF h,if_neg h,Bool.not_false,cT]
  ·rw [q6x];simp
 ·have e:((a.length:Int) != (b.length:Int))=true:=by simp; omega
  simp only [e,cT];rw [dYF fun h=>hl (by rw [h])]
noncomputable def qmC (k:Int):Spt:=(mkT k,(k+1,(k+2,k+3)))
noncomputable def q80 (k:Int):Nat->List Spt
 | 0=>[]
 | n+1=>qmC k::q80 (k+4) n
theorem qjW (a:List Spt) (k:Int) (h0:0<=k) (hl:a.length<=200000000) (hk:k<=1000000000):q5P a k=some (k+4 * (a.length:Int),q80 k a.length,()):=by
 rw [qdC];have key:∀ (r pre:List Spt) (k:Int),0<=k->k+4 * (r.length:Int)<=2000000000->pre.length+r.length<=200000000->q1i k (pre.length:Int) (pre++r)=some (k+4 * (r.length:Int),pre++q80 k r.length,()):=by
  intro r;induction r with
  | nil=>
   intro pre k h0 hk hp;rw [q4N];have k1:decide ((pre.length:Int) < ((pre++([]:List Spt)).length:Int))=false:=dYF (by simp)
   simp only [k1,cF];simp [q80]
  | cons x r ih=>
   intro pre k h0 hk hp;simp only [length_cons] at hp hk;have hset:∀ x y:Spt,(pre++x::r).set pre.length y=pre++y::r:=fun x y=>by simp
   have hget:∀ x:Spt,(pre++x::r).getD pre.length (eB,(0,(0,0)))=x:=fun x=>by simp [List.getD_eq_getElem?_getD]
   have hlt:∀ x:Spt,decide ((pre.length:Int) < ((pre++x::r).length:Int))=true:=fun x=>dYT (by simp; omega)
   have k2:decide (0<=(pre.length:Int))=true:=dYT (by omega)
   have k3:w64 ((pre.length:Int)+1)=((pre.length+1:Nat):Int):=qo (by omega)
   have w1:w64 (k+1)=k+1:=(qh (by omega) (by omega)).trans (by omega)
   have w2:w64 (k+1+1)=k+2:=(qh (by omega) (by omega)).trans (by omega)
   have w3:w64 (k+2+1)=k+3:=(qh (by omega) (by omega)).trans (by omega)
   have w4:w64 (k+3+1)=k+4:=(qh (by omega) (by omega)).trans (by omega)
   rw [q4N];simp only [hlt,k2,k3,w1,w2,w3,w4,Bool.and_self,cT,toNat_natCast,jF k (by omega),oB,hset,hget]
   have:=ih (pre++[qmC k]) (k+4) (by omega) (by omega) (by simp only [length_append,length_singleton]; omega)
   rw [show (pre++[qmC k]).length=pre.length+1 by simp,append_assoc,singleton_append] at this
   refine this.trans ?_;rw [length_cons,q80,append_assoc,singleton_append];rw [show k+4+4 * (r.length:Int)=k+4 * ((r.length+1:Nat):Int) by omega]
 have:=key a [] k h0 (by omega) (by simpa using hl)
 simpa using this
end Go.Den.S
namespace Go.Den.S
open Go Go.Den
open Classical
set_option maxRecDepth 4000
theorem qo5 (d:List Fil) (left:Int) (h0:0<=left) (h1:left<=2097152) (hl:d.length<=9223372036854775807) (hs:∀ x∈d,x.1.size<=9223372036854775807/\x.2.1.size<=9223372036854775807):q9u d left=some (szv (wl q1T d) left,()):=by
 rw [qh0,qmQ d left h0 h1 hl hs,oB];by_cases h:szv (wl q1T d) left < 0
 ·rw [dYT h,cT,q3J (qhy h h0)]
 ·rw [dYF h,cF]
def wEng (e:Eng):Nat:=wl q1T e.1+wl q3T e.2.2.2.2
structure qp0 (e:Eng):Prop where
 fl:e.1.length<=9223372036854775807
 fs:∀ x∈e.1,x.1.size<=9223372036854775807/\x.2.1.size<=9223372036854775807
 sl:e.2.2.2.2.length<=9223372036854775807
 ss:∀ x∈e.2.2.2.2,x.1.size<=9223372036854775807
theorem qqk {e:Eng} (h:Wf qJ e):qp0 e:=⟨h.1.1,fun x hx=>⟨(h.1.2 x hx).1,(h.1.2 x hx).2.1⟩,h.2.2.2.2.1,fun x hx=>(h.2.2.2.2.2 x hx).1⟩
theorem qkU (e:Eng) (left:Int) (h0:0<=left) (h1:left<=2097152) (h:qp0 e):q7i e left=some (szv (wEng e) left,()):=by
 have ew:wEng e=wl q1T e.1+wl q3T e.2.2.2.2:=rfl;rw [qey,qo5 e.1 left h0 h1 h.fl h.fs,oB];by_cases hn:szv (wl q1T e.1) left < 0
 ·have:=qhy hn h0;rw [dYT hn,cT,q3J (by omega)]
 ·obtain ⟨k1,k2⟩:=qhz hn;rw [dYF hn,cF,k2,qmR _ _ (by omega) (by omega) h.sl h.ss,oB]
  by_cases hm:szv (wl q3T e.2.2.2.2) (left - (wl q1T e.1:Int)) < 0
  ·have:=qhy hm (by omega)
   rw [dYT hm,cT,q3J (by omega)]
  ·obtain ⟨k3,k4⟩:=qhz hm;rw [dYF hm,cF,k4,qcP (by omega)]
   congr 2; omega
theorem qkV (e:Eng) (h1:e.1.length<=2097152) (h2:e.2.2.2.2.length<=2097152):q0C e=some (e,()):=by
 rw [qez,qh3,qmT _ h1,qmU _ h2]; rfl
theorem qne (a b:List Fil) (ha:a.length<=200000000):q9r a b=some (decide (a=b),()):=by
 rw [qgX,qmc a b ha,oB];cases decide (a=b)<;>rfl
theorem qkF (a b:Eng) (h1:a.1.length<=200000000) (h2:a.2.2.2.2.length<=200000000):q7h a b=some (decide (a=b),()):=by
 rw [qeu,qne _ _ h1,qmd _ _ h2];obtain ⟨a0,a1,a2,a3,a4⟩:=a;obtain ⟨b0,b1,b2,b3,b4⟩:=b;simp only [oB,Prod.mk.injEq,qcY];by_cases h0:a0=b0<;>by_cases h1:a1=b1<;>by_cases h2:a2=b2<;>by_cases h3:a3=b3<;>by_cases h4:a4=b4<;>simp [h0,h1,h2,h3,h4]
noncomputable def qqt (k:Int) (n m:Nat) (r a q:Int):Eng:=(q7Z k n,(r,(a,(q,q80 (k+3 * (n:Int)) m))))
theorem qiL (e:Eng) (k:Int) (h0:0<=k) (h1:e.1.length<=100000000) (h2:e.2.2.2.2.length<=100000000) (hk:k<=100000000):q4K e k=some (k+3 * (e.1.length:Int)+4 * (e.2.2.2.2.length:Int),qqt k e.1.length e.2.2.2.2.length 0 0 0,()):=by
 rw [qco,qew,qjV e.1 k h0 (by omega) (by omega)]
 simp only [oB];rw [qjW e.2.2.2.2 (k+3 * (e.1.length:Int)) (by omega) (by omega) (by omega)]
 rfl
structure SmE (e:Eng):Prop where
 f:e.1.length<=2000000
 s:e.2.2.2.2.length<=80000000
theorem qqn {e:Eng} {n:Nat} (h:wEng e<=n):e.1.length<=n/\e.2.2.2.2.length<=n:=by
 unfold wEng at h;exact ⟨qob (f:=q1T) (by omega),qob (f:=q3T) (by omega)⟩
theorem qok (d:List Fil) (l:List Spt):(conS d l).length=l.length:=by unfold conS; rw [length_map]
end Go.Den.S
