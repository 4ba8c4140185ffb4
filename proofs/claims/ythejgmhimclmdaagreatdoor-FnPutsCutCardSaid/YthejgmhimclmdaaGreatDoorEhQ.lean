/- EhQ: equations of the functions of this seat as the executor tells them, or plain facts about them. Conditions: none here. -/
import Derived.Test.YthejgmhimclmdaaGreatDoorEhK
set_option linter.all false
open Bool (and_eq_true false_eq_true not_eq_true)
open Int (toNat toNat_natCast)
open List (append_assoc append_nil drop_eq_getElem_cons drop_eq_nil_iff drop_zero filter_cons filter_nil find?_cons length length_append length_cons length_filter_le length_map length_pos_iff length_singleton map_cons map_nil mem_append mem_cons mem_map mem_singleton nil_append nodup_cons singleton_append)
open Nat (le_refl le_trans zero_le)
open Option (map_eq_some_iff)
namespace Go.Den.S
open Go Go.Den
set_option maxRecDepth 4000
section
variable {α:Type}
theorem qri (s:BA) (d:α):∀ m:List (BA×α),getM s d m=(getK s m).getD d
 | []=>rfl
 | e::r=>by
  unfold getM getK;rw [y8,find?_cons];by_cases h:s=e.1
  ·rw [dYT h,cT,dYT h.symm]; rfl
  ·rw [dYF h,cF,dYF (fun x=>h x.symm),qri s d r]; rfl
theorem qnZ (s k:BA) (x:α):∀ m:List (BA×α),getK k (setM s x m)=if k=s then some x else getK k m
 | []=>by
  unfold setM getK;rw [find?_cons];by_cases h:k=s
  ·rw [if_pos h,dYT h.symm]; rfl
  ·rw [if_neg h,dYF (fun e=>h e.symm)]
   first | done | rfl
 | e::r=>by
  unfold setM;rw [y8];by_cases h:s=e.1
  ·rw [dYT h,cT];unfold getK;rw [find?_cons,find?_cons];by_cases hk:k=s
   ·rw [if_pos hk,dYT hk.symm]; rfl
   ·rw [if_neg hk,dYF (fun e=>hk e.symm),dYF (fun e'=>hk (by rw [h]; exact e'.symm))]
  ·rw [dYF h,cF];have ih:=qnZ s k x r;unfold getK at ih ⊢;rw [find?_cons,find?_cons];by_cases hk:e.1=k
   ·rw [dYT hk,if_neg (fun e'=>h (by rw [<- e',<- hk]))]
   ·rw [dYF hk]; exact ih
theorem qmG (s:BA) (x:α):∀ m:List (BA×α),(wE m).Nodup->(wE (setM s x m)).Nodup/\∀ k,k∈wE (setM s x m)->k=s\/k∈wE m
 | [],_=>by
  unfold setM wE;exact ⟨by simp,fun k hk=>.inl (by simpa using hk)⟩
 | e::r,h=>by
  unfold wE at h;rw [map_cons,nodup_cons] at h;unfold setM;rw [y8];by_cases hs:s=e.1
  ·rw [dYT hs,cT];unfold wE;rw [map_cons,map_cons];refine ⟨nodup_cons.2 ⟨by rw [hs]; exact h.1,h.2⟩,fun k hk=>?_⟩
   rcases mem_cons.1 hk with hk | hk
   ·exact .inl hk
   ·exact .inr (List.mem_cons_of_mem _ hk)
  ·rw [dYF hs,cF];obtain ⟨h1,h2⟩:=qmG s x r h.2;unfold wE at h1 h2 ⊢;rw [map_cons,map_cons];refine ⟨nodup_cons.2 ⟨fun hm=>?_,h1⟩,fun k hk=>?_⟩
   ·rcases h2 _ hm with e' | e'
    ·exact hs e'.symm
    ·exact h.1 e'
   ·rcases mem_cons.1 hk with hk | hk
    ·exact .inr (by rw [hk]; exact List.mem_cons_self ..)
    ·exact (h2 k hk).imp id (List.mem_cons_of_mem _)
theorem qlG (s:BA):∀ m:List (BA×α),(wE m).Nodup->delM s m=delK s m
 | [],_=>rfl
 | e::r,h=>by
  unfold wE at h;rw [map_cons,nodup_cons] at h;unfold delM delK;rw [y8,filter_cons];by_cases hs:s=e.1
  ·rw [dYT hs,cT,if_neg (fun x=>(of_decide_eq_true x:e.1≠s) hs.symm)]
   refine (List.filter_eq_self.2 fun x hx=>?_).symm
   refine dYT fun ex=>h.1 ?_
   rw [<- hs,<- ex];exact mem_map.2 ⟨x,hx,rfl⟩
  ·rw [dYF hs,cF,if_pos (show decide (e.1≠s)=true from dYT (fun e':e.1=s=>hs e'.symm)),qlG s r h.2]; rfl
theorem quW (s k:BA) (m:List (BA×α)):getK k (delK s m)=if k=s then none else getK k m:=by
 unfold delK;induction m with
 | nil=>unfold getK; split<;>rfl
 | cons e r ih=>
  rw [filter_cons];by_cases hs:e.1=s
  ·rw [if_neg (fun x=>(of_decide_eq_true x:e.1≠s) hs),ih]
   by_cases hk:k=s
   ·rw [if_pos hk,if_pos hk]
   ·rw [if_neg hk,if_neg hk];unfold getK;rw [find?_cons,dYF (fun x=>hk (by rw [<- x,hs]))]
  ·rw [if_pos (dYT hs)];unfold getK at ih ⊢;rw [find?_cons,find?_cons];by_cases hk:e.1=k
   ·rw [dYT hk,if_neg (fun x=>hs (by rw [hk,x]))]
   ·rw [dYF hk]; exact ih
theorem qmt {m:List (BA×α)} {k:BA}:k∈wE m↔∃ v,getK k m=some v:=by
 unfold wE;constructor
 ·intro h;cases hg:getK k m with
  | some v=>exact ⟨v,rfl⟩
  | none=>
   obtain ⟨x,hx,e⟩:=mem_map.1 h;exact absurd e (jC.1 hg x hx)
 ·rintro ⟨v,hv⟩
  unfold getK at hv;obtain ⟨x,hx,rfl⟩:=map_eq_some_iff.1 hv;exact mem_map.2 ⟨x,List.mem_of_find?_eq_some hx,of_decide_eq_true (List.find?_some (p:=fun x:BA×α=>decide (x.1=k)) hx)⟩
end
theorem qrs:∀ x y:List UInt8,x < y↔q0m x y=true
 | _,[]=>by simp [q0m]
 | [],b::y=>by simp [q0m]
 | a::x,b::y=>by
  rw [List.cons_lt_cons_iff,qrs x y];simp only [q0m,Bool.or_eq_true,and_eq_true,decide_eq_true_eq,beq_iff_eq]
theorem qvE (x y:List UInt8):x<=y↔q0m y x=false:=by
 rw [<- List.not_lt,qrs,not_eq_true]
theorem quH (l:List BA) (h:l.Nodup):(jh l).Pairwise (fun a b=>blt a b=true)/\∀ k,k∈jh l↔k∈l:=by
 rw [qeh];have hp:=List.mergeSort_perm (l.map fun s=>s.data.toList) (fun x y=>decide (x<=y))
 have hs:=List.pairwise_mergeSort (le:=fun x y:List UInt8=>decide (x<=y)) (fun a b c h1 h2=>by
  simp only [decide_eq_true_eq] at h1 h2 ⊢; exact List.le_trans h1 h2) (fun a b=>by
  simp only [Bool.or_eq_true,decide_eq_true_eq]; exact List.le_total a b) (l.map fun s=>s.data.toList)
 have hnd:(l.map fun s=>s.data.toList).Nodup:=by
  unfold List.Nodup;rw [List.pairwise_map];exact h.imp fun hab e=>hab (q4Z e)
 have hnd2:=hp.nodup_iff.2 hnd;refine ⟨?_,fun k=>?_⟩
 ·rw [List.pairwise_map];refine (hs.and hnd2).imp fun {a b} ⟨h1,h2⟩=>?_
  simp only [decide_eq_true_eq] at h1;show q0m a b=true;exact qd8 b a (fun e=>h2 e.symm) ((qvE a b).1 h1)
 ·rw [mem_map];constructor
  ·rintro ⟨x,hx,rfl⟩
   obtain ⟨s,hs,rfl⟩:=mem_map.1 (hp.mem_iff.1 hx);exact hs
  ·intro hk;exact ⟨k.data.toList,hp.mem_iff.2 (mem_map.2 ⟨k,hk,rfl⟩),rfl⟩
structure MR (m:List (BA×Spt)) (t:List Spt):Prop where
 asc:AscK t
 nd:(wE m).Nodup
 get:∀ k,getK k m=(getK k t).map fun p=>(k,p)
theorem MR.nil:MR [] []:=⟨qdm,List.nodup_nil,fun _=>rfl⟩
theorem MR.set {m:List (BA×Spt)} {t:List Spt} (h:MR m t) (k:BA) (p:Pos):MR (setM k (k,p) m) (wY t (k,some p)) where
 asc:=q6M h.asc _
 nd:=(qmG k (k,p) m h.nd).1
 get:=fun j=>by
  rw [qnZ,qgi h.asc];by_cases e:j=k
  ·rw [if_pos e,if_pos e,e]; rfl
  ·rw [if_neg e,if_neg e]; exact h.get j
theorem MR.del {m:List (BA×Spt)} {t:List Spt} (h:MR m t) (k:BA):MR (delM k m) (wY t (k,none)) where
 asc:=q6M h.asc _
 nd:=by
  rw [qlG k m h.nd];unfold delK wE;exact h.nd.sublist ((List.filter_sublist).map _)
 get:=fun j=>by
  rw [qlG k m h.nd,quW,qgi h.asc];by_cases e:j=k
  ·rw [if_pos e,if_pos e]; rfl
  ·rw [if_neg e,if_neg e]; exact h.get j
theorem MR.out {m:List (BA×Spt)} {t:List Spt} (h:MR m t):(jh (wE m)).map (fun k=>getM k dS m)=t:=by
 obtain ⟨h1,h2⟩:=quH (wE m) h.nd;have hg:∀ k∈jh (wE m),∃ p,getK k t=some p/\getM k dS m=(k,p):=fun k hk=>by
  obtain ⟨v,hv⟩:=qmt.1 ((h2 k).1 hk);have:=h.get k;rw [hv] at this;cases hx:getK k t with
  | none=>rw [hx] at this; cases this
  | some p=>
   rw [hx] at this;refine ⟨p,rfl,?_⟩;rw [qri,hv];exact Option.some.inj this
 refine q3N ?_ h.asc fun x=>?_
 ·unfold AscK;rw [List.pairwise_map];refine List.Pairwise.imp_of_mem (fun {a b} ha hb hab=>?_) h1
  obtain ⟨_,_,e1⟩:=hg a ha;obtain ⟨_,_,e2⟩:=hg b hb;show blt (getM a dS m).1 (getM b dS m).1=true;rw [e1,e2]; exact hab
 ·rw [mem_map];constructor
  ·rintro ⟨k,hk,rfl⟩
   obtain ⟨p,q1,q2⟩:=hg k hk;rw [q2];exact (yj h.asc).1 q1
  ·intro hx;have q:=(yj h.asc).2 (show (x.1,x.2)∈t from hx)
   have:=h.get x.1;rw [q] at this;have hk:=(h2 x.1).2 (qmt.2 ⟨_,this⟩);obtain ⟨p,q1,q2⟩:=hg x.1 hk;rw [q] at q1;refine ⟨x.1,hk,?_⟩;rw [q2,<- Option.some.inj q1]
theorem MR.len {m:List (BA×Spt)} {t:List Spt} (h:MR m t):(wE m).length=t.length:=by
 have:=congrArg length h.out;rw [length_map] at this;rw [<- this,qeh,length_map,List.length_mergeSort,length_map]
theorem qdL (m:List (BA×Spt)) (ks:List BA) (hn:ks.length<=1000000000):∀ (r:List BA) (i:Nat) (acc:List Spt),ks.drop i=r->i<=ks.length->acc.length<=i->
  q63 acc ks (ks.length:Int) (i:Int) m=some ((acc++r.map (fun k=>getM k dS m),true),())
 | [],i,acc,hd,hi,ha=>by
  have:=drop_eq_nil_iff.1 hd;rw [qbr];have k1:decide ((i:Int) < (ks.length:Int))=false:=dYF (by omega)
  simp only [k1,cF,map_nil,append_nil]
 | k::r,i,acc,hd,hi,ha=>by
  obtain ⟨e1,hlt,e2⟩:=qK eB hd;rw [qbr];have k1:decide ((i:Int) < (ks.length:Int))=true:=dYT (by omega)
  have k2:decide (0<=(i:Int))=true:=dYT (by omega)
  have k4:w64 ((i:Int)+1)=((i+1:Nat):Int):=qw (by omega)
  have kl:lim (acc.length+1) 40=true:=qJ (by omega)
  simp only [k1,k2,k4,Bool.and_self,cT,toNat_natCast,e1,pmk];rw [kl];have:=qdL m ks hn r (i+1) (acc++[getM k dS m]) e2 hlt (by rw [length_append,length_singleton]; omega)
  refine Eq.trans this ?_;rw [map_cons,append_assoc,singleton_append]
theorem q8r (d:List Fil) (l:List Int) (ln i:Int) (n:Nat) (ps:List Pla) (pl k:Int) (b:Bat) (hb:batT b=true) (a z:Int):∀ (r:List Chg) (j:Nat) (m:List (BA×Spt)) (t:List Spt),b.2.drop j=r->j<=b.2.length->MR m t->
  ∃ m',q3Z (n:Int) l ln i ps pl k b.2 (b.2.length:Int) (j:Int) d m b.1 b.2 a z=q3U (n:Int) l ln i ps pl (w64 (k+1)) d m'/\MR m' ((r.map (opP n a b.1)).foldl wY t)
 | [],j,m,t,hd,hj,hm=>by
  have:=drop_eq_nil_iff.1 hd;rw [qbp];have k1:decide ((j:Int) < (b.2.length:Int))=false:=dYF (by omega)
  simp only [k1,cF];exact ⟨m,rfl,hm⟩
 | c::r,j,m,t,hd,hj,hm=>by
  obtain ⟨e1,hlt,e2⟩:=qK dC hd;have h40:=qcD hb;have hsz:=qeO (qdp hb) (yL hd);rw [qbp];have k1:decide ((j:Int) < (b.2.length:Int))=true:=dYT (by omega)
  have k2:decide (0<=(j:Int))=true:=dYT (by omega)
  have k4:w64 ((j:Int)+1)=((j+1:Nat):Int):=qw (by omega)
  have kl:limS c.1.size=true:=yA (by omega)
  simp only [k1,k2,k4,Bool.and_self,cT,toNat_natCast,e1];rw [kl,map_cons,List.foldl_cons];unfold opP;cases hg:c.2.2 with
  | true=>
   simp only [cT];exact q8r d l ln i n ps pl k b hb a z r (j+1) _ _ e2 hlt (hm.del c.1)
  | false=>
   simp only [cF,cT];exact q8r d l ln i n ps pl k b hb a z r (j+1) _ _ e2 hlt (hm.set c.1 ((n:Int),(a,b.1)))
theorem qdF (d:List Fil) (l:List Int) (ln i:Int) (n:Nat) (ps:List Pla) (hps:ps.length<=1000000) (hb:∀ p∈ps,batT p.1=true):∀ (bs:List Bat) (a k:Nat) (m:List (BA×Spt)) (t:List Spt),ps.drop k=plB a bs->k<=ps.length->MR m t->
  ∃ m',q3U (n:Int) l ln i ps (ps.length:Int) (k:Int) d m=q3X l ln (w64 (i+1)) d m'/\MR m' ((opsR n a bs).foldl wY t)
 | [],a,k,m,t,hd,hk,hm=>by
  have:=drop_eq_nil_iff.1 hd;rw [qbz];have k1:decide ((k:Int) < (ps.length:Int))=false:=dYF (by omega)
  simp only [k1,cF];exact ⟨m,rfl,hm⟩
 | b::bs,a,k,m,t,hd,hk,hm=>by
  have hd':ps.drop k=(b,((a:Int),((batL b).length:Int)))::plB (a+(batL b).length) bs:=hd;obtain ⟨e1,hlt,e2⟩:=qK dP hd';have hbt:batT b=true:=hb _ (yL hd');rw [qbz];have k1:decide ((k:Int) < (ps.length:Int))=true:=dYT (by omega)
  have k2:decide (0<=(k:Int))=true:=dYT (by omega)
  have k4:w64 ((k:Int)+1)=((k+1:Nat):Int):=qw (by omega)
  simp only [k1,k2,Bool.and_self,cT,toNat_natCast,e1];obtain ⟨m1,p1,p2⟩:=q8r d l ln i n ps (ps.length:Int) (k:Int) b hbt (a:Int) ((batL b).length:Int) b.2 0 m t rfl (zero_le _) hm;obtain ⟨m2,q1,q2⟩:=qdF d l ln i n ps hps hb bs (a+(batL b).length) (k+1) m1 _ e2 hlt p2;refine ⟨m2,?_,?_⟩
  ·rw [k4] at p1;exact p1.trans q1
  ·rw [qfH,List.foldl_append]; exact q2
theorem qds (d:List Fil) (hd30:d.length<=30) (l:List Nat) (hl:l.length<=100) (hm:∀ n∈l,n < 100/\hasN d n=true):∀ (r:List Nat) (i:Nat) (m:List (BA×Spt)) (t:List Spt),l.drop i=r->i<=l.length->MR m t->t.length+800000 * r.length<=1000000000->
  q3X (natI l) ((natI l).length:Int) (i:Int) d m=some (((r.flatMap (opsN d)).foldl wY t,true),())
 | [],i,m,t,hd,hi,ha,hlen=>by
  have:=drop_eq_nil_iff.1 hd;have hll:(natI l).length=l.length:=length_map ..;rw [qbc,hll];have k1:decide ((i:Int) < (l.length:Int))=false:=dYF (by omega)
  have hk:=ha.len;have kl:lim (wE m).length 16=true:=qJ (by rw [hk]; simp at hlen; omega)
  have hs:(jh (wE m)).length<=1000000000:=by
   rw [qeh,length_map,List.length_mergeSort,length_map,hk]; simp at hlen; omega
  simp only [k1,cF];rw [kl];refine (qdL m (jh (wE m)) hs _ 0 [] rfl (zero_le _) (le_refl _)).trans ?_;rw [drop_zero,ha.out]; rfl
 | n::r,i,m,t,hd,hi,ha,hlen=>by
  obtain ⟨e1,hlt,e2⟩:=qK 0 hd;obtain ⟨hn,hh⟩:=hm n (yL hd);have hll:(natI l).length=l.length:=length_map ..;have eI:(natI l).getD i 0=(n:Int):=by rw [zh hlt,e1]
  have hb:=q1X d (show n<=99 by omega)
  have hz:=qdO (batD d n) (wo d n);rw [length_cons] at hlen;rw [qbc];have k1:decide ((i:Int) < ((natI l).length:Int))=true:=dYT (by rw [hll]; omega)
  have k2:decide (0<=(i:Int))=true:=dYT (by omega)
  have k4:w64 ((i:Int)+1)=((i+1:Nat):Int):=qw (by omega)
  simp only [k1,k2,Bool.and_self,cT,toNat_natCast,eI,wP,zl hn,q05 d (show d.length<=1000000000 by omega),q5J n (show n<=99 by omega),oB,qgQ hn hh]
  obtain ⟨m1,p1,p2⟩:=qdF d (natI l) ((natI l).length:Int) (i:Int) n (plB (wo d n) (batD d n)) (by omega) (fun p hp=>q4f p.1 (by
   rw [<- qgP (batD d n) (wo d n)]; exact mem_map.2 ⟨p,hp,rfl⟩)) (batD d n) (wo d n) 0 m t rfl (zero_le _) ha
  refine Eq.trans p1 ?_;rw [k4];rw [<- q7M] at p2;have hf:=q9x (opsN d n) t;have ho:(opsN d n).length<=800000:=by
   rw [q7M];have:=qeK n (batD d n) (wo d n) q4f;omega
  rw [qds d hd30 l hl hm r (i+1) m1 _ e2 hlt p2 (by omega),List.flatMap_cons,List.foldl_append]
theorem qnE (d:List Fil) (hn:d.length<=1000000000):qeE d=some (dirO d,()):=by
 rw [qnl,q0L d hn];simp only [oB];unfold dirO;rcases q6L d with ⟨h1,h2⟩ | ⟨l,h1,h2,h3,h4,h5,_,_⟩
 ·rw [h1,h2]; rfl
 ·rw [h1,h2];refine (qds d (qG.1 h3).1 l h4 h5 l 0 [] [] rfl (zero_le _) MR.nil (by simp; omega)).trans ?_
  show _=some ((dirD d l,true),());rw [qb3]; rfl
noncomputable def doO (d:List Fil) (a:Act):List Fil×Bool:=match actB d a with
 | some x=>(x,true)
 | none=>([],false)
theorem jZ {d:List Fil} {a:Act} (h:actB d a=none):doO d a=([],false):=by unfold doO; rw [h]
theorem q1P {d:List Fil} {a:Act} (h:¬ (dOkB d=true/\(a.1=3\/a.2.2.2.size=0)/\(a.1=1\/a.2.2.1.size=0))):actB d a=none:=by
 unfold actB;rw [if_neg];intro hx;simp only [and_eq_true,Bool.or_eq_true,decide_eq_true_eq] at hx;exact h ⟨hx.1.1,hx.1.2,hx.2⟩
theorem q3D {d:List Fil} {a:Act} (h:doA d a=none):actB d a=none:=by
 unfold actB;split
 ·rw [h]; rfl
 ·rfl
theorem q4F {d:List Fil} {a:Act} {x:List Fil} (h1:dOkB d=true) (h2:a.1=3\/a.2.2.2.size=0) (h3:a.1=1\/a.2.2.1.size=0) (h4:doA d a=some x):doO d a=bif dOkB x then (x,true) else ([],false):=by
 unfold doO actB;rw [if_pos (by simp only [and_eq_true,Bool.or_eq_true,decide_eq_true_eq]; exact ⟨⟨h1,h2⟩,h3⟩),h4]
 show (match okD x with | some x=>(x,true) | none=>([],false))=_
 unfold okD;cases dOkB x<;>rfl
theorem qd6 (d:List Fil) (hn:d.length<=1000000000):q0B d=some (d,()):=by
 rw [qid];have kl:lim (0+d.length) 40=true:=qJ (by omega)
 rw [kl]; rfl
theorem qhV {d:List Fil} (h:AscK d) (hn:d.length<=1000000000) {m:Nat} (hm:m < d.length):qy d (m:Int) (w64 ((m:Int)+1))=some (delK (d.getD m dF).1 d,()):=by
 rw [show w64 ((m:Int)+1)=((m+1:Nat):Int) from qw (by omega),zG]
 unfold delF;have k1:decide (0<=(m:Int))=true:=dYT (by omega)
 have k2:decide ((m:Int)<=((m+1:Nat):Int))=true:=dYT (by omega)
 have k3:decide (((m+1:Nat):Int)<=(d.length:Int))=true:=dYT (by omega)
 have k4:lim d.length 40=true:=qJ (by omega)
 simp only [k1,k2,k3,Bool.and_self,toNat_natCast,qwq h hm];rw [k4]; rfl
theorem q1x (k:BA) (v:BA×Int) (d:List Fil):(putK k v d).length<=d.length+1:=by
 have:=qfC d (k,some v);exact this
theorem qqG (t:BA):eB++t=t:=zU (by rw [q0D]; rfl)
theorem dst (g:Bool) (x:List Fil):(bif !g then some ((([]:List Fil),false),()) else some ((x,true),()))=some ((bif g then (x,true) else ([],false)),()):=by cases g<;>rfl
theorem qf7 (d:List Fil) (hn:d.length<=2000000) (a:Act) (ha:a.2.2.1.size<=1000000000000):qaC d a=some (doO d a,()):=by
 obtain ⟨v,k,t,to⟩:=a;have ha:t.size<=1000000000000:=ha;rw [qnr,qg6 d (by omega),zP d (by omega)]
 simp only [oB];cases hok:dOkB d with
 | false=>
  rw [jZ (q1P fun h=>by rw [hok] at h; cases h.1)]; rfl
 | true=>
  have hasc:=(qG.1 hok).2.2;have hl30:=(qG.1 hok).1;simp only [Bool.not_true,cF,y8,qcK,qd6 d (show d.length<=1000000000 by omega),oB]
  by_cases v1:v=1
  ·subst v1;simp only [show ((1:Int) != 3)=true from rfl,show ((1:Int) != 1)=false from rfl,show ((1:Int)==1)=true from rfl,cT,cF]
   by_cases hto:to.size=0
   ·simp only [dYT hto,Bool.not_true,cF];rcases q1c d k with ⟨h1,h2⟩ | ⟨m,hm,h2,h3,h4⟩
    ·have hdo:doA d (1,(k,(t,to)))=some (putK k (t,0) d):=by
      unfold doA;rw [if_pos rfl];show some (putK k (((getK k d).getD (bOf [],0)).1++t,((getK k d).getD (bOf [],0)).2) d)=_;rw [h2];show some (putK k (bOf []++t,0) d)=_;rw [qdc]
     rw [q4F hok (.inr hto) (.inl rfl) hdo,h1];have kl:limS ((eB).size+t.size)=true:=yA (by show 0+_<=_; omega)
     have hz:=q1x k (t,0) d;simp only [show decide ((-1:Int)>=0)=false from rfl,cF,kl,cT,qqG,qeQ d hasc hn,oB,zP (putK k (t,0) d) (by omega),dst]
    ·have hdo:doA d (1,(k,(t,to)))=some (putK k ((d.getD m dF).2.1++t,(d.getD m dF).2.2) d):=by
      unfold doA;rw [if_pos rfl];show some (putK k (((getK k d).getD (bOf [],0)).1++t,((getK k d).getD (bOf [],0)).2) d)=_;rw [h3]; rfl
     rw [q4F hok (.inr hto) (.inl rfl) hdo,h2];have hsz:=(q2v hok (q8g (d:=dF) hm)).2;have kl:limS ((d.getD m dF).2.1.size+t.size)=true:=yA (by omega)
     have hz:=q1x k ((d.getD m dF).2.1++t,(d.getD m dF).2.2) d;simp only [dYT (show (m:Int)>=0 by omega),dYT (show (0:Int)<=(m:Int) by omega),dYT (show (m:Int) < (d.length:Int) by omega),Bool.and_self,toNat_natCast,kl,cT,h4,qeQ d hasc hn,oB,zP (putK k ((d.getD m dF).2.1++t,(d.getD m dF).2.2) d) (by omega),dst]
   ·rw [jZ (q1P fun h=>by
     rcases h.2.1 with h | h
     ·exact absurd (show (1:Int)=3 from h) (by decide)
     ·exact hto h)]
    simp only [dYF hto,Bool.not_false,cT]
  ·have b1:(v != 1)=true:=by rw [bne_iff_ne]; exact v1
   have b1':(v==1)=false:=by rw [<- not_eq_true,beq_iff_eq]; exact v1
   simp only [b1,b1',cT,cF];by_cases ht:t.size=0
   ·simp only [dYT ht,Bool.not_true,cF];rcases q1c d k with ⟨h1,h2⟩ | ⟨m,hm,h2,h3,h4⟩
    ·have hdo:doA d (v,(k,(t,to)))=none:=by
      unfold doA;rw [if_neg v1];show (match getK k d with | none=>none | some f=>_)=_
      rw [h2]
     rw [jZ (q3D hdo),h1];simp only [show decide ((-1:Int) < 0)=true from rfl,cT]
     cases (v != 3)<;>cases decide (to.size=0)<;>rfl
    ·rw [h2];have hsz:=(q2v hok (q8g (d:=dF) hm)).2;have c1:decide ((m:Int) < 0)=false:=dYF (by omega)
     have c2:decide ((0:Int)<=(m:Int))=true:=dYT (by omega)
     have c3:decide ((m:Int) < (d.length:Int))=true:=dYT (by omega)
     simp only [c1,c2,c3,Bool.and_self,cT,cF,toNat_natCast];by_cases v2:v=2
     ·subst v2;simp only [show ((2:Int) != 3)=true from rfl,show ((2:Int)==2)=true from rfl,cT]
      by_cases hto:to.size=0
      ·have hdo:doA d (2,(k,(t,to)))=some (putK k ((d.getD m dF).2.1,((d.getD m dF).2.1.size:Int)) d):=by
        unfold doA;rw [if_neg v1];show (match getK k d with | none=>none | some f=>_)=_
        rw [h3]; rfl
       rw [q4F hok (.inr hto) (.inr ht) hdo];have hset:=qtd hasc hm ((d.getD m dF).2.1,((d.getD m dF).2.1.size:Int));rw [h4] at hset;have hz:=q1x k ((d.getD m dF).2.1,((d.getD m dF).2.1.size:Int)) d;simp only [dYT hto,Bool.not_true,cF,h4,hset,zP (putK k ((d.getD m dF).2.1,((d.getD m dF).2.1.size:Int)) d) (by omega),oB,dst]
      ·rw [jZ (q1P fun h=>by
        rcases h.2.1 with h | h
        ·exact absurd (show (2:Int)=3 from h) (by decide)
        ·exact hto h)]
       simp only [dYF hto,Bool.not_false,cT]
     ·have b2:(v==2)=false:=by rw [<- not_eq_true,beq_iff_eq]; exact v2
      simp only [b2,cF];by_cases v3:v=3
      ·subst v3;simp only [show ((3:Int) != 3)=false from rfl,show ((3:Int)==3)=true from rfl,cT,cF]
       by_cases he:to=k
       ·have hdo:doA d (3,(k,(t,to)))=none:=by
         unfold doA;rw [if_neg v1];show (match getK k d with | none=>none | some f=>_)=_
         rw [h3];show (if (3:Int)=2 then _ else if (3:Int)=3 then (if (d.getD m dF).2.2=((d.getD m dF).2.1.size:Int)/\to≠k then some (putK to (d.getD m dF).2 (delK k d)) else none) else _)=none
         rw [if_neg (by decide),if_pos rfl,if_neg (fun h=>h.2 he)]
        rw [jZ (q3D hdo)];simp only [dYT he,cT]
       ·simp only [dYF he,cF];by_cases hk:(d.getD m dF).2.2=((d.getD m dF).2.1.size:Int)
        ·have hdo:doA d (3,(k,(t,to)))=some (putK to (d.getD m dF).2 (delK k d)):=by
          unfold doA;rw [if_neg v1];show (match getK k d with | none=>none | some f=>_)=_
          rw [h3];show (if (3:Int)=2 then _ else if (3:Int)=3 then (if (d.getD m dF).2.2=((d.getD m dF).2.1.size:Int)/\to≠k then some (putK to (d.getD m dF).2 (delK k d)) else none) else _)=_
          rw [if_neg (by decide),if_pos rfl,if_pos ⟨hk,he⟩]
         rw [q4F hok (.inl rfl) (.inr ht) hdo];have bk:((d.getD m dF).2.2 != ((d.getD m dF).2.1.size:Int))=false:=by rw [hk]; simp
         have hdl:=q2N k d;have hz:=q1x to (d.getD m dF).2 (delK k d);simp only [bk,cF,qhV hasc (show d.length<=1000000000 by omega) hm,h4,oB,qeQ (delK k d) (q4O hasc k) (by omega),zP (putK to (d.getD m dF).2 (delK k d)) (by omega),dst]
        ·have hdo:doA d (3,(k,(t,to)))=none:=by
          unfold doA;rw [if_neg v1];show (match getK k d with | none=>none | some f=>_)=_
          rw [h3];show (if (3:Int)=2 then _ else if (3:Int)=3 then (if (d.getD m dF).2.2=((d.getD m dF).2.1.size:Int)/\to≠k then some (putK to (d.getD m dF).2 (delK k d)) else none) else _)=none
          rw [if_neg (by decide),if_pos rfl,if_neg (fun h=>hk h.1)]
         rw [jZ (q3D hdo)];have bk:((d.getD m dF).2.2 != ((d.getD m dF).2.1.size:Int))=true:=by rw [bne_iff_ne]; exact hk
         simp only [bk,cT]
      ·have b3:(v==3)=false:=by rw [<- not_eq_true,beq_iff_eq]; exact v3
       have b3':(v != 3)=true:=by rw [bne_iff_ne]; exact v3
       simp only [b3,b3',cT,cF];by_cases hto:to.size=0
       ·simp only [dYT hto,Bool.not_true,cF];by_cases v4:v=4
        ·subst v4;have hdo:doA d (4,(k,(t,to)))=some (delK k d):=by
          unfold doA;rw [if_neg v1];show (match getK k d with | none=>none | some f=>_)=_
          rw [h3]; rfl
         rw [q4F hok (.inr hto) (.inr ht) hdo];have hdl:=q2N k d;simp only [show ((4:Int)==4)=true from rfl,cT,qhV hasc (show d.length<=1000000000 by omega) hm,h4,oB,zP (delK k d) (by omega),dst]
        ·have b4:(v==4)=false:=by rw [<- not_eq_true,beq_iff_eq]; exact v4
         have hdo:doA d (v,(k,(t,to)))=none:=by
          unfold doA;rw [if_neg v1];show (match getK k d with | none=>none | some f=>_)=_
          rw [h3];show (if v=2 then _ else if v=3 then _ else if v=4 then _ else none)=none
          rw [if_neg v2,if_neg v3,if_neg v4]
         rw [jZ (q3D hdo)];simp only [b4,cF]
       ·rw [jZ (q1P fun h=>by
         rcases h.2.1 with h | h
         ·exact v3 h
         ·exact hto h)]
        simp only [dYF hto,Bool.not_false,cT]
   ·rw [jZ (q1P fun h=>by
     rcases h.2.2 with h | h
     ·exact v1 h
     ·exact ht h)]
    simp only [dYF ht,Bool.not_false,cT];cases (v != 3)<;>cases decide (to.size=0)<;>rfl
theorem qr2 {k:BA} (h:inB (k.size:Int) 1 8=false) (v:BA×Int) (d:List Fil):dOkB (putK k v d)=false:=by
 rw [<- not_eq_true];intro hx;have:=(jg.1 ((qG.1 hx).2.1 (k,v) (jV.2 (.inl rfl))));rw [q0V,decide_eq_false_iff_not] at h;have h1:1<=k.size:=this.1;have h2:k.size<=8:=this.2.1;exact h (by omega)
theorem qvA {d:List Fil} (hok:dOkB d=true) {k:BA} (h:inB (k.size:Int) 1 8=false):getK k d=none:=by
 refine jC.2 fun f hf e=>?_
 have:=(jg.1 ((qG.1 hok).2.1 f hf));rw [q0V,decide_eq_false_iff_not] at h;rw [e] at this;exact h (by omega)
theorem qvi {d:List Fil} {v:Int} {k t to:BA} (v1:v≠1) {f:BA×Int} (h:getK k d=some f):doA d (v,(k,(t,to)))=if v=2 then some (putK k (f.1,(f.1.size:Int)) d) else if v=3 then (if f.2=(f.1.size:Int)/\to≠k then some (putK to f (delK k d)) else none) else if v=4 then some (delK k d) else none:=by
 unfold doA;rw [if_neg v1];show (match getK k d with | none=>none | some f=>_)=_
 rw [h]
theorem qr3 {d:List Fil} {v:Int} {k t to:BA} (v1:v≠1) (h:getK k d=none):doA d (v,(k,(t,to)))=none:=by
 unfold doA;rw [if_neg v1];show (match getK k d with | none=>none | some f=>_)=_
 rw [h]
theorem qqW {d:List Fil} {k t to:BA} (h:getK k d=none):doA d (1,(k,(t,to)))=some (putK k (t,0) d):=by
 unfold doA;rw [if_pos rfl];show some (putK k (((getK k d).getD (bOf [],0)).1++t,((getK k d).getD (bOf [],0)).2) d)=_;rw [h];show some (putK k (bOf []++t,0) d)=_;rw [qdc]
theorem qvr {d:List Fil} {k t to:BA} {f:BA×Int} (h:getK k d=some f):doA d (1,(k,(t,to)))=some (putK k (f.1++t,f.2) d):=by
 unfold doA;rw [if_pos rfl];show some (putK k (((getK k d).getD (bOf [],0)).1++t,((getK k d).getD (bOf [],0)).2) d)=_;rw [h]; rfl
theorem qvL {d:List Fil} (hok:dOkB d=true) {v:Int} {k t to:BA} (h:inB (k.size:Int) 1 8=false):doO d (v,(k,(t,to)))=([],false):=by
 have hg:=qvA hok h;by_cases v1:v=1
 ·subst v1;by_cases hto:to.size=0
  ·rw [q4F hok (.inr hto) (.inl rfl) (qqW hg),qr2 h]; rfl
  ·exact jZ (q1P fun h=>by
    rcases h.2.1 with h | h
    ·exact absurd (show (1:Int)=3 from h) (by decide)
    ·exact hto h)
 ·exact jZ (q3D (qr3 v1 hg))
theorem qf4 (d:List Fil) (hn:d.length<=2000000) (a:Act) (ha:a.2.2.1.size<=1000000000000):qaU d a=some (doO d a,()):=by
 obtain ⟨v,k,t,to⟩:=a;have ha:t.size<=1000000000000:=ha;rw [qnx,zO d (by omega)]
 simp only [oB,qjY,q6l d (show d.length<=1000000000 by omega)]
 cases hok:dOkB d with
 | false=>
  rw [jZ (q1P fun h=>by rw [hok] at h; cases h.1)]; rfl
 | true=>
  have hasc:=(qG.1 hok).2.2;have hl30:=(qG.1 hok).1;simp only [Bool.not_true,cF];cases hnk:inB (k.size:Int) 1 8 with
  | false=>rw [qvL hok hnk]; rfl
  | true=>
   simp only [Bool.not_true,cF,y8,qcK];by_cases v1:v=1
   ·subst v1;simp only [show ((1:Int) != 3)=true from rfl,show ((1:Int) != 1)=false from rfl,show ((1:Int)==1)=true from rfl,cT,cF]
    by_cases hto:to.size=0
    ·simp only [dYT hto,Bool.not_true,cF];rcases q1c d k with ⟨h1,h2⟩ | ⟨m,hm,h2,h3,h4⟩
     ·rw [q4F hok (.inr hto) (.inl rfl) (qqW h2),h1];have kl:limS ((eB).size+t.size)=true:=yA (by show 0+_<=_; omega)
      have hz:=q1x k (t,0) d;simp only [show decide ((-1:Int)>=0)=false from rfl,cF,kl,cT,qqG,qcJ d hn,oB,zO (putK k (t,0) d) (by omega),dst]
     ·rw [q4F hok (.inr hto) (.inl rfl) (qvr h3),h2];have hsz:=(q2v hok (q8g (d:=dF) hm)).2;have kl:limS ((d.getD m dF).2.1.size+t.size)=true:=yA (by omega)
      have hz:=q1x k ((d.getD m dF).2.1++t,(d.getD m dF).2.2) d;simp only [dYT (show (m:Int)>=0 by omega),dYT (show (0:Int)<=(m:Int) by omega),dYT (show (m:Int) < (d.length:Int) by omega),Bool.and_self,toNat_natCast,kl,cT,h4,qcJ d hn,oB,zO (putK k ((d.getD m dF).2.1++t,(d.getD m dF).2.2) d) (by omega),dst]
    ·rw [jZ (q1P fun h=>by
      rcases h.2.1 with h | h
      ·exact absurd (show (1:Int)=3 from h) (by decide)
      ·exact hto h)]
     simp only [dYF hto,Bool.not_false,cT]
   ·have b1:(v != 1)=true:=by rw [bne_iff_ne]; exact v1
    have b1':(v==1)=false:=by rw [<- not_eq_true,beq_iff_eq]; exact v1
    simp only [b1,b1',cT,cF];by_cases ht:t.size=0
    ·simp only [dYT ht,Bool.not_true,cF];rcases q1c d k with ⟨h1,h2⟩ | ⟨m,hm,h2,h3,h4⟩
     ·rw [jZ (q3D (qr3 v1 h2)),h1];simp only [show decide ((-1:Int)>=0)=false from rfl,show decide ((-1:Int) < 0)=true from rfl,cT,cF]
      cases (v != 3)<;>cases decide (to.size=0)<;>rfl
     ·rw [h2];have hf:=(jg.1 ((qG.1 hok).2.1 _ (q8g (d:=dF) hm)));have c0:decide ((m:Int)>=0)=true:=dYT (by omega)
      have c1:decide ((m:Int) < 0)=false:=dYF (by omega)
      have c2:decide ((0:Int)<=(m:Int))=true:=dYT (by omega)
      have c3:decide ((m:Int) < (d.length:Int))=true:=dYT (by omega)
      simp only [c0,c1,c2,c3,Bool.and_self,cT,cF,toNat_natCast];have hdo:=qvi (t:=t) (to:=to) v1 h3;by_cases v2:v=2
      ·subst v2;rw [if_pos rfl] at hdo;simp only [show ((2:Int) != 3)=true from rfl,show ((2:Int)==2)=true from rfl,cT]
       by_cases hto:to.size=0
       ·rw [q4F hok (.inr hto) (.inr ht) hdo];have hz:=q1x k ((d.getD m dF).2.1,((d.getD m dF).2.1.size:Int)) d;simp only [dYT hto,Bool.not_true,cF,h4,qcJ d hn,zO (putK k ((d.getD m dF).2.1,((d.getD m dF).2.1.size:Int)) d) (by omega),oB,dst]
       ·rw [jZ (q1P fun h=>by
         rcases h.2.1 with h | h
         ·exact absurd (show (2:Int)=3 from h) (by decide)
         ·exact hto h)]
        simp only [dYF hto,Bool.not_false,cT]
      ·have b2:(v==2)=false:=by rw [<- not_eq_true,beq_iff_eq]; exact v2
       rw [if_neg v2] at hdo;simp only [b2,cF];by_cases v3:v=3
       ·subst v3;rw [if_pos rfl] at hdo;simp only [show ((3:Int) != 3)=false from rfl,show ((3:Int)==3)=true from rfl,cT,cF]
        by_cases hk:(d.getD m dF).2.2=((d.getD m dF).2.1.size:Int)
        ·have bk:decide ((d.getD m dF).2.2 < ((d.getD m dF).2.1.size:Int))=false:=dYF (by omega)
         simp only [bk,cF];by_cases he:to=k
         ·rw [if_neg (fun h=>h.2 he)] at hdo
          rw [jZ (q3D hdo)];simp only [dYT he,cT]
         ·rw [if_pos ⟨hk,he⟩] at hdo;simp only [dYF he,cF];rw [q4F hok (.inl rfl) (.inr ht) hdo];have hdl:=q2N k d;have hz:=q1x to (d.getD m dF).2 (delK k d);cases hnt:inB (to.size:Int) 1 8 with
          | false=>rw [qr2 hnt]; rfl
          | true=>
           simp only [Bool.not_true,cF,qfl d hn,oB,qcJ (delK k d) (show (delK k d).length<=2000000 by omega),zO (putK to (d.getD m dF).2 (delK k d)) (by omega),dst]
        ·have bk:decide ((d.getD m dF).2.2 < ((d.getD m dF).2.1.size:Int))=true:=dYT (by omega)
         rw [if_neg (fun h=>hk h.1)] at hdo
         rw [jZ (q3D hdo)];simp only [bk,cT]
       ·have b3:(v==3)=false:=by rw [<- not_eq_true,beq_iff_eq]; exact v3
        have b3':(v != 3)=true:=by rw [bne_iff_ne]; exact v3
        rw [if_neg v3] at hdo;simp only [b3,b3',cT,cF];by_cases hto:to.size=0
        ·simp only [dYT hto,Bool.not_true,cF];by_cases v4:v=4
         ·subst v4;rw [if_pos rfl] at hdo;rw [q4F hok (.inr hto) (.inr ht) hdo];have hdl:=q2N k d;simp only [show ((4:Int)==4)=true from rfl,cT,qfl d hn,oB,zO (delK k d) (by omega),dst]
         ·have b4:(v==4)=false:=by rw [<- not_eq_true,beq_iff_eq]; exact v4
          rw [if_neg v4] at hdo;rw [jZ (q3D hdo)];simp only [b4,cF]
        ·rw [jZ (q1P fun h=>by
          rcases h.2.1 with h | h
          ·exact v3 h
          ·exact hto h)]
         simp only [dYF hto,Bool.not_false,cT]
    ·rw [jZ (q1P fun h=>by
      rcases h.2.2 with h | h
      ·exact v1 h
      ·exact ht h)]
     simp only [dYF ht,Bool.not_false,cT];cases (v != 3)<;>cases decide (to.size=0)<;>rfl
abbrev dA:Act:=(0,(eB,(eB,eB)))
def aSz (xs:List Act):Prop:=xs.length<=1000000000/\∀ a∈xs,a.2.2.1.size<=1000000000000
theorem qaW {d d':List Fil} {a:Act} (h:actB d a=some d'):d'.length<=2000000:=by
 have:=(qG.1 (qh6 h).2.1).1; omega
theorem qcy (d:List Fil) (a:Act):(actB d a=none/\doO d a=([],false))\/∃ d',actB d a=some d'/\doO d a=(d',true):=by
 unfold doO;cases actB d a with
 | none=>exact .inl ⟨rfl,rfl⟩
 | some x=>exact .inr ⟨x,rfl,rfl⟩
theorem qap (xs:List Act) (hs:aSz xs) (z:List Fil):∀ (r:List Act) (i:Nat) (d:List Fil),xs.drop i=r->i<=xs.length->d.length<=2000000->
  q5q xs xs (xs.length:Int) (i:Int) z d=some (((qR d r).1,((i+(qR d r).2:Nat):Int)),())
 | [],i,d,hd,hi,hl=>by
  have:=drop_eq_nil_iff.1 hd;rw [qao];have k1:decide ((i:Int) < (xs.length:Int))=false:=dYF (by omega)
  simp only [k1,cF,qR];rw [show xs.length=i+0 by omega]
 | a::r,i,d,hd,hi,hl=>by
  obtain ⟨e1,hlt,e2⟩:=qK dA hd;have hn:=hs.1;rw [qao];have k1:decide ((i:Int) < (xs.length:Int))=true:=dYT (by omega)
  have k2:decide (0<=(i:Int))=true:=dYT (by omega)
  have k4:w64 ((i:Int)+1)=((i+1:Nat):Int):=qw (by omega)
  simp only [k1,k2,k4,Bool.and_self,cT,toNat_natCast,e1,pmk,qf7 d hl a (hs.2 a (yL hd)),oB];rcases qcy d a with ⟨h1,h2⟩ | ⟨d',h1,h2⟩
  ·rw [h2];simp only [Bool.not_false,cT,qR,h1];rfl
  ·rw [h2];simp only [Bool.not_true,cF,qR,h1];rw [qap xs hs z r (i+1) d' e2 hlt (qaW h1)];rw [show i+((qR d' r).2+1)=i+1+(qR d' r).2 by omega]
theorem q8A (d:List Fil) (hd:d.length<=2000000) (xs:List Act) (hs:aSz xs):q5C d xs=some (((qR d xs).1,((qR d xs).2:Int)),()):=by
 rw [qlD,qd6 d (by omega)]
 simp only [oB];have:=qap xs hs [] xs 0 d rfl (zero_le _) hd;rw [Nat.zero_add] at this;exact this
theorem qau (xs:List Act) (hs:aSz xs) (z:List Fil):∀ (r:List Act) (i:Nat) (d:List Fil),xs.drop i=r->i<=xs.length->d.length<=2000000->
  q57 xs (i:Int) z d=some (((qR d r).1,((i+(qR d r).2:Nat):Int)),())
 | [],i,d,hd,hi,hl=>by
  have:=drop_eq_nil_iff.1 hd;rw [qah];have k1:decide ((i:Int) < (xs.length:Int))=false:=dYF (by omega)
  simp only [k1,cF,qR];rw [show xs.length=i+0 by omega]
 | a::r,i,d,hd,hi,hl=>by
  obtain ⟨e1,hlt,e2⟩:=qK dA hd;have hn:=hs.1;rw [qah];have k1:decide ((i:Int) < (xs.length:Int))=true:=dYT (by omega)
  have k2:decide (0<=(i:Int))=true:=dYT (by omega)
  have k4:w64 ((i:Int)+1)=((i+1:Nat):Int):=qw (by omega)
  simp only [k1,k2,k4,Bool.and_self,cT,toNat_natCast,e1,pmk,qf4 d hl a (hs.2 a (yL hd)),oB];rcases qcy d a with ⟨h1,h2⟩ | ⟨d',h1,h2⟩
  ·rw [h2];simp only [Bool.not_false,cT,qR,h1];rfl
  ·rw [h2];simp only [Bool.not_true,cF,qR,h1];rw [qau xs hs z r (i+1) d' e2 hlt (qaW h1)];rw [show i+((qR d' r).2+1)=i+1+(qR d' r).2 by omega]
theorem q3e (d:List Fil) (hd:d.length<=2000000) (xs:List Act) (hs:aSz xs):q0c d xs=some (((qR d xs).1,((qR d xs).2:Int)),()):=by
 rw [qm7];have kl:lim (0+d.length) 40=true:=qJ (by omega)
 have:=qau xs hs [] xs 0 d rfl (zero_le _) hd;rw [Nat.zero_add] at this;rw [kl];exact this
theorem qsj (l:List Int) (x:Int) (hl:l.length<=2000000):q1b l x=some (decide (x∈l),()):=by
 rw [q7N,qab];have hi:=q69 (fun i=>zJ l x (l.length:Int) i) (fun y:Int=>x==y) 0 l (fun n=>some (n,()))
  (fun i hi=>by
   conv=>lhs; rw [q2T]
   have e1:decide ((i:Int) < (l.length:Int))=true:=dYT (by omega)
   have e2:decide (0<=(i:Int))=true:=dYT (by omega)
   have e3:w64 ((i:Int)+1)=((i+1:Nat):Int):=qw (by omega)
   simp only [e1,e2,e3,Bool.and_self,cT,toNat_natCast])
  (by
   show zJ l x (l.length:Int) (l.length:Int)=_;rw [q2T];simp only [Int.lt_irrefl,decide_false,cF])
 rw [hi];simp only [oB];congr 2
 rcases q6B (fun y:Int=>x==y) l 0 with ⟨h1,h2⟩ | ⟨j,h1,h2,h3,_⟩
 ·rw [h1,dYF (by omega),eq_comm,dYF]
  intro hm;have:=h2 x hm;simp at this
 ·rw [h2,dYT (by omega),eq_comm,dYT]
  have e:=List.getElem?_eq_getElem h1;have:=h3 _ e;rw [beq_iff_eq] at this;rw [this];exact List.getElem_mem h1
theorem qvp:((4:Int),(qF,(eB,eB)))=drA qB:=rfl
theorem qtt (k:BA):((4:Int),(k,(eB,eB)))=drA k:=rfl
theorem qrH {d:List Fil} (h:AscK d):((d.filter (fun f=>decide (f.1=qB))).map fun _=>drA qB)=if (getK qB d).isSome then [drA qB] else []:=by
 rcases q1c d qB with ⟨_,h2⟩ | ⟨m,hm,_,h3,h4⟩
 ·rw [h2,List.filter_eq_nil_iff.2 (fun f hf=>by simpa using jC.1 h2 f hf)]; rfl
 ·obtain ⟨e,h1,h2⟩:=qkx h hm;rw [h4] at h1 h2;rw [h3];have:(d.filter (fun f=>decide (f.1=qB)))=[d.getD m dF]:=by
   conv=>lhs; rw [e]
   rw [List.filter_append,filter_cons,if_pos (dYT h4),List.filter_eq_nil_iff.2 (fun x hx=>by simpa using q1T (h1 x hx)),List.filter_eq_nil_iff.2 (fun x hx=>by simpa using (q1T (h2 x hx)).symm)]; rfl
  rw [this]; rfl
theorem qob {l:List Nat} {n:Nat}:(n:Int)∈natI l↔n∈l:=by
 unfold natI;rw [mem_map];constructor
 ·rintro ⟨m,hm,e⟩
  have:m=n:=by omega
  rw [<- this]; exact hm
 ·exact fun h=>⟨n,h,rfl⟩
theorem q5c (d:List Fil) (hok:dOkB d=true) (l:List Nat) (hl:l.length<=100):∀ (r:List Fil) (i:Nat) (acc:List Act),d.drop i=r->i<=d.length->acc.length<=100+i->
  q0J (natI l) acc d (d.length:Int) (i:Int)=some (acc++(r.filter (zY l)).map (fun f=>drA f.1),())
 | [],i,acc,hd,hi,ha=>by
  have:=drop_eq_nil_iff.1 hd;rw [q87];have k1:decide ((i:Int) < (d.length:Int))=false:=dYF (by omega)
  simp only [k1,cF,filter_nil,map_nil,append_nil]
 | f::r,i,acc,hd,hi,ha=>by
  obtain ⟨e1,hlt,e2⟩:=qK dF hd;have hl30:=(qG.1 hok).1;have hsz:=q2v hok (yL hd);have hll:(natI l).length=l.length:=length_map ..;rw [q87];have k1:decide ((i:Int) < (d.length:Int))=true:=dYT (by omega)
  have k2:decide (0<=(i:Int))=true:=dYT (by omega)
  have k4:w64 ((i:Int)+1)=((i+1:Nat):Int):=qw (by omega)
  have kl:lim (acc.length+1) 56=true:=qJ (by omega)
  simp only [k1,k2,k4,Bool.and_self,cT,toNat_natCast,e1,qfG f.1 (by omega),oB,qtt]
  rw [kl,filter_cons];rcases q59 f.1 with ⟨q1,q2⟩ | ⟨n,hn,q1,q2,q3⟩
  ·have hs:zY l f=false:=by unfold zY; rw [q2]
   rw [q1,hs];simp only [show decide ((-1:Int)>=0)=false from rfl,cF,false_eq_true,if_false]
   exact q5c d hok l hl r (i+1) acc e2 hlt (by omega)
  ·have hs:zY l f=!l.contains n:=by unfold zY; rw [q2]
   rw [q1,hs];simp only [dYT (show (n:Int)>=0 by omega),cT,qsj (natI l) (n:Int) (by omega),oB]
   by_cases hm:n∈l
   ·have h1:l.contains n=true:=List.contains_iff_mem.2 hm;simp only [dYT (qob.2 hm),h1,Bool.not_true,cF,false_eq_true,if_false];exact q5c d hok l hl r (i+1) acc e2 hlt (by omega)
   ·have h1:l.contains n=false:=by rw [<- not_eq_true,List.contains_iff_mem]; exact hm
    simp only [dYF (fun h=>hm (qob.1 h)),h1,Bool.not_false,cT,if_true]
    rw [q5c d hok l hl r (i+1) (acc++[drA f.1]) e2 hlt (by rw [length_append,length_singleton]; omega),map_cons,append_assoc,singleton_append]
theorem q8l (d:List Fil) (hok:dOkB d=true) (l:List Nat) (hl:l.length<=100):∀ (r:List Fil) (i:Nat) (acc:List Act),d.drop i=r->i<=d.length->acc.length<=i->
  q1U (natI l) acc d (d.length:Int) (i:Int) d=some ((acc++((r.filter (fun f=>decide (f.1=qB))).map fun _=>drA qB))++(d.filter (zY l)).map (fun f=>drA f.1),())
 | [],i,acc,hd,hi,ha=>by
  have:=drop_eq_nil_iff.1 hd;have hl30:=(qG.1 hok).1;rw [q7T];have k1:decide ((i:Int) < (d.length:Int))=false:=dYF (by omega)
  simp only [k1,cF,filter_nil,map_nil,append_nil];exact q5c d hok l hl d 0 acc rfl (zero_le _) (by omega)
 | f::r,i,acc,hd,hi,ha=>by
  obtain ⟨e1,hlt,e2⟩:=qK dF hd;have hl30:=(qG.1 hok).1;rw [q7T];have k1:decide ((i:Int) < (d.length:Int))=true:=dYT (by omega)
  have k2:decide (0<=(i:Int))=true:=dYT (by omega)
  have k4:w64 ((i:Int)+1)=((i+1:Nat):Int):=qw (by omega)
  have kl:lim (acc.length+1) 56=true:=qJ (by omega)
  have en:(qF:BA)=qB:=rfl;simp only [k1,k2,k4,Bool.and_self,cT,toNat_natCast,e1,y8,qvp];rw [kl,filter_cons,en];by_cases hq:f.1=qB
  ·rw [dYT hq,if_pos rfl];simp only [cT];rw [q8l d hok l hl r (i+1) (acc++[drA qB]) e2 hlt (by rw [length_append,length_singleton]; omega),map_cons,append_assoc acc,singleton_append]
  ·rw [dYF hq,if_neg (by decide)]
   simp only [cF];exact q8l d hok l hl r (i+1) acc e2 hlt (by omega)
theorem qqa (d:List Fil) (hok:dOkB d=true) (l:List Nat) (hl:l.length<=100):q9Z d (natI l)=some (wG d l,()):=by
 rw [qiQ];refine (q8l d hok l hl d 0 [] rfl (zero_le _) (le_refl _)).trans ?_;rw [nil_append,qrH (qG.1 hok).2.2]; rfl
theorem qsN {d:List Fil} {n:Nat} (hn:n < 100) (hh:hasN d n=true) (hs:(segD d n).isSome=true):(rsO n (faO d (nmL n)).1).2.2.1=(endD d n:Int)/\(faO d (nmL n)).1=txtD d n/\endD d n<=(txtD d n).size:=by
 have ht:(faO d (nmL n)).1=txtD d n:=by
  unfold faO txtD;unfold hasN at hh;cases hg:getK (nmL n) d with
  | none=>rw [hg] at hh; cases hh
  | some v=>rfl
 obtain ⟨x,hx⟩:=Option.isSome_iff_exists.1 hs;have hseg:=hx;rw [q8o hn hh] at hseg;have e1:hdD d n=x.1:=by unfold hdD; rw [hx]; rfl
 have e2:batD d n=x.2:=by unfold batD; rw [hx]; rfl
 refine ⟨?_,ht,?_⟩
 ·unfold rsO endD;rw [hseg,e1,e2]
 ·unfold endD qgp;rw [e1,e2,<- ht];obtain ⟨_,_,_,_,_,r,e⟩:=q6G (f:=x.1) (bs:=x.2) hseg;rw [qW,e];simp only [length_append]; omega
theorem qcl {l:List Nat} (h:AscN l) {i n:Nat} {r:List Nat} (hd:l.drop i=n::r):n=l.getLastD 0↔r=[]:=by
 have hne:l≠[]:=by intro e; rw [e] at hd; simp at hd
 have hl:l.getLastD 0=(n::r).getLastD 0:=by
  rw [<- hd]
  conv=>lhs; rw [<- List.take_append_drop i l]
  rw [List.getLastD_eq_getLast?,List.getLastD_eq_getLast?,hd,List.getLast?_append];cases h:(n::r).getLast? with
  | none=>rw [List.getLast?_eq_none_iff] at h; cases h
  | some x=>rfl
 rw [hl];cases r with
 | nil=>simp
 | cons m r=>
  constructor
  ·intro e;have hp:(l.drop i).Pairwise (· < ·):=h.sublist (List.drop_sublist i l);rw [hd] at hp;have hm:(n::m::r).getLastD 0∈m::r:=by
    rw [List.getLastD_eq_getLast?];rw [List.getLast?_cons_cons];cases hx:(m::r).getLast? with
    | none=>rw [List.getLast?_eq_none_iff] at hx; cases hx
    | some x=>exact List.mem_of_getLast? hx
   have:=(List.pairwise_cons.1 hp).1 _ hm;omega
  ·intro e; cases e
noncomputable def qeo (d:List Fil) (n:Nat):List Act:=[adA qB (bOf ((bl (txtD d n)).take (endD d n))),kpA qB,mvA qB (nmL n)]
theorem qjo {d:List Fil} {l:List Nat} (h:AscN l) {i n:Nat} {r:List Nat} (hd:l.drop i=n::r):wX d (l.getLastD 0) (n::r)=if endD d n=(txtD d n).size then wX d (l.getLastD 0) r else if r=[] then some (qeo d n) else none:=by
 have e:wX d (l.getLastD 0) (n::r)=if endD d n=(txtD d n).size then wX d (l.getLastD 0) r else if n=l.getLastD 0 then (wX d (l.getLastD 0) r).map fun x=>adA qB (bOf ((bl (txtD d n)).take (endD d n)))::kpA qB::mvA qB (nmL n)::x else none:=rfl
 rw [e];split
 ·rfl
 ·by_cases hr:r=[]
  ·rw [if_pos ((qcl h hd).2 hr),if_pos hr,hr]; rfl
  ·rw [if_neg (fun e=>hr ((qcl h hd).1 e)),if_neg hr]
theorem qmO (d:List Fil) (n:Nat):(qeo d n).length=3:=rfl
theorem qoO (d:List Fil) (n:Nat):[((1:Int),(qF,((txtD d n).extract 0 (endD d n),eB))),(2,(qF,(eB,eB))),(3,(qF,(eB,nmL n)))]=qeo d n:=by
 rw [qll]; rfl
theorem qgw (d:List Fil) (hd30:d.length<=30) (l:List Nat) (hl:l.length<=100) (hasc:AscN l) (hm:∀ n∈l,n < 100/\hasN d n=true) (hs:∀ n∈l,(segD d n).isSome=true):∀ (r:List Nat) (i:Nat) (acc:List Act),l.drop i=r->i<=l.length->acc.length<=1000+3 * i->
  q10 (natI l) acc (i:Int) d=some ((match wX d (l.getLastD 0) r with | none=>([],false) | some t=>(acc++t,true)),())
 | [],i,acc,hd,hi,ha=>by
  have:=drop_eq_nil_iff.1 hd;have hll:(natI l).length=l.length:=length_map ..;rw [q9t,hll];have k1:decide ((i:Int) < (l.length:Int))=false:=dYF (by omega)
  simp only [k1,cF,wX,append_nil]
 | n::r,i,acc,hd,hi,ha=>by
  obtain ⟨e1,hlt,e2⟩:=qK 0 hd;obtain ⟨hn,hh⟩:=hm n (yL hd);have hll:(natI l).length=l.length:=length_map ..;have eI:(natI l).getD i 0=(n:Int):=by rw [zh hlt,e1]
  obtain ⟨q1,q2,q3⟩:=qsN hn hh (hs n (yL hd));rw [q2] at q1;rw [q9t,qjo hasc hd];have k1:decide ((i:Int) < ((natI l).length:Int))=true:=dYT (by rw [hll]; omega)
  have k2:decide (0<=(i:Int))=true:=dYT (by omega)
  have k4:w64 ((i:Int)+1)=((i+1:Nat):Int):=qw (by omega)
  simp only [k1,k2,k4,Bool.and_self,cT,toNat_natCast,eI,wH,zl hn,q1F d (show d.length<=1000000000 by omega),oB,q2,jH n (show n<=99 by omega),q1]
  by_cases he:endD d n=(txtD d n).size
  ·have b:(((endD d n:Nat):Int)==((txtD d n).size:Int))=true:=by rw [beq_iff_eq]; omega
   simp only [b,cT,if_pos he];exact qgw d hd30 l hl hasc hm hs r (i+1) acc e2 hlt (by omega)
  ·have b:(((endD d n:Nat):Int)==((txtD d n).size:Int))=false:=by rw [<- not_eq_true,beq_iff_eq]; omega
   simp only [b,cF,if_neg he];have hlen:l.length - i=r.length+1:=by
    have:=congrArg length hd;rw [List.length_drop,length_cons] at this; exact this
   by_cases hr:r=[]
   ·have hr0:r.length=0:=by rw [hr]; rfl
    have htr:wX d (l.getLastD 0) r=some []:=by rw [hr]; rfl
    have k5:decide (((i+1:Nat):Int) < ((natI l).length:Int))=false:=dYF (by rw [hll]; omega)
    have kl:lim (acc.length+3) 56=true:=qJ (by omega)
    have k6:decide ((0:Int)<=((endD d n:Nat):Int))=true:=dYT (by omega)
    have k7:decide (((endD d n:Nat):Int)<=((txtD d n).size:Int))=true:=dYT (by omega)
    simp only [k5,cF,show decide ((0:Int)<=0)=true from rfl,k6,k7,Bool.and_self,cT,show toNat 0=0 from rfl,qoO]
    rw [kl,cT,qgw d hd30 l hl hasc hm hs r (i+1) (acc++qeo d n) e2 hlt (by rw [length_append,qmO]; omega),htr,if_pos hr]
    simp only [append_nil]
   ·have hpos:0 < r.length:=length_pos_iff.2 hr;have k5:decide (((i+1:Nat):Int) < ((natI l).length:Int))=true:=dYT (by rw [hll]; omega)
    simp only [k5,cT,if_neg hr]
theorem qcu (d:List Fil) (hok:dOkB d=true) (l:List Nat) (hl:l.length<=100) (hne:l≠[]) (hseg:∀ n,n < 100->hasN d n=true->(n∈l↔¬ n < l.getD 0 0)):∀ (r:List Fil) (i:Nat) (acc:List Act),d.drop i=r->i<=d.length->acc.length<=100+i->
  jB (natI l) acc (i:Int) d=q10 (natI l) (acc++(r.filter (zY l)).map (fun f=>drA f.1)) 0 d
 | [],i,acc,hd,hi,ha=>by
  have:=drop_eq_nil_iff.1 hd;rw [q9u];have k1:decide ((i:Int) < (d.length:Int))=false:=dYF (by omega)
  simp only [k1,cF,filter_nil,map_nil,append_nil]
 | f::r,i,acc,hd,hi,ha=>by
  obtain ⟨e1,hlt,e2⟩:=qK dF hd;have hl30:=(qG.1 hok).1;have hasc:=(qG.1 hok).2.2;have hsz:=q2v hok (yL hd);have hpos:0 < l.length:=length_pos_iff.2 hne;have hll:(natI l).length=l.length:=length_map ..;have e0:(natI l).getD (toNat 0) 0=((l.getD 0 0:Nat):Int):=zh hpos;rw [q9u];have k1:decide ((i:Int) < (d.length:Int))=true:=dYT (by omega)
  have k2:decide (0<=(i:Int))=true:=dYT (by omega)
  have k3:decide ((0:Int) < ((natI l).length:Int))=true:=dYT (by rw [hll]; omega)
  have k4:w64 ((i:Int)+1)=((i+1:Nat):Int):=qw (by omega)
  have kl:lim (acc.length+1) 56=true:=qJ (by omega)
  rw [k1,k2];simp only [Bool.and_self,cT];rw [k3,k4,e0];simp only [Bool.and_self,cT,toNat_natCast,e1,qoj f.1 (show f.1.size<=1000000 by omega),oB,qtt,show decide ((0:Int)<=0)=true from rfl]
  rw [kl,filter_cons];rcases q59 f.1 with ⟨q1,q2⟩ | ⟨n,hn,q1,q2,q3⟩
  ·have hs:zY l f=false:=by unfold zY; rw [q2]
   rw [q1,hs];simp only [show decide ((-1:Int)>=0)=false from rfl,cF,false_eq_true,if_false]
   exact qcu d hok l hl hne hseg r (i+1) acc e2 hlt (by omega)
  ·have hs:zY l f=!l.contains n:=by unfold zY; rw [q2]
   have hh:hasN d n=true:=by
    unfold hasN;rw [q3,(yj hasc).2 (show (f.1,f.2)∈d from yL hd)]; rfl
   have hiff:=hseg n hn hh;rw [q1,hs];simp only [dYT (show (n:Int)>=0 by omega),cT]
   by_cases hm:n∈l
   ·have h1:l.contains n=true:=List.contains_iff_mem.2 hm;have h2:=hiff.1 hm;simp only [dYF (show ¬ (n:Int) < ((l.getD 0 0:Nat):Int) by omega),h1,Bool.not_true,cF,false_eq_true,if_false]
    exact qcu d hok l hl hne hseg r (i+1) acc e2 hlt (by omega)
   ·have h1:l.contains n=false:=by rw [<- not_eq_true,List.contains_iff_mem]; exact hm
    have h2:n < l.getD 0 0:=Decidable.byContradiction fun h=>hm (hiff.2 h)
    simp only [dYT (show (n:Int) < ((l.getD 0 0:Nat):Int) by omega),h1,Bool.not_false,cT,if_true]
    rw [qcu d hok l hl hne hseg r (i+1) (acc++[drA f.1]) e2 hlt (by rw [length_append,length_singleton]; omega),map_cons,append_assoc,singleton_append]
theorem qs3 (d:List Fil) (hok:dOkB d=true) (l:List Nat) (hl:l.length<=100) (hasc:AscN l) (hne:l≠[]) (hm:∀ n∈l,n < 100/\hasN d n=true) (hs:∀ n∈l,(segD d n).isSome=true) (hseg:∀ n,n < 100->hasN d n=true->(n∈l↔¬ n < l.getD 0 0)):qbe d (natI l)=some ((match wX d (l.getLastD 0) l with | none=>([],false) | some t=>(wG d l++t,true)),()):=by
 have hl30:=(qG.1 hok).1;have hfin:∀ acc:List Act,acc.length<=1->jB (natI l) acc 0 d=some ((match wX d (l.getLastD 0) l with | none=>([],false) | some t=>((acc++(d.filter (zY l)).map (fun f=>drA f.1))++t,true)),()):=fun acc ha=>by
  have hf:((d.filter (zY l)).map (fun f=>drA f.1)).length<=30:=by
   rw [length_map]; exact le_trans (length_filter_le ..) hl30
  refine (qcu d hok l hl hne hseg d 0 acc rfl (zero_le _) (by omega)).trans ?_
  exact qgw d hl30 l hl hasc hm hs l 0 _ rfl (zero_le _) (by rw [length_append]; omega)
 rw [qkg,q6l d (by omega)]
 simp only [oB];have en:(qF:BA)=qB:=rfl;rw [en];unfold wG;have kl:lim (0+1) 56=true:=qJ (by omega)
 rcases q1c d qB with ⟨h1,h2⟩ | ⟨m,hm',h1,h3,_⟩
 ·rw [h1,h2];simp only [show decide ((-1:Int)>=0)=false from rfl,cF,Option.isSome_none,false_eq_true,if_false,nil_append]
  exact (hfin [] (zero_le _)).trans (by simp only [nil_append])
 ·rw [h1,h3];simp only [dYT (show (m:Int)>=0 by omega),cT,Option.isSome_some,if_true]
  rw [kl];exact hfin [drA qB] (le_refl _)
theorem qop (q:Int) (a b:List Bat):endQ q (a++b)=endQ (endQ q a) b:=by
 unfold endQ;rw [List.getLast?_append];cases b.getLast?<;>rfl
theorem qfk (f:Int) (ps:List Pla) (hn:ps.length<=1000000):∀ (bs:List Bat) (a i:Nat) (acc:List Bat),ps.drop i=plB a bs->i<=ps.length->acc.length<=i->a+(bats bs).length<=1000000000->
  q27 f (a:Int) acc ps (ps.length:Int) (i:Int)=some ((f,(acc++bs,(((a+(bats bs).length:Nat):Int),true))),())
 | [],a,i,acc,hd,hi,ha,hz=>by
  have:=drop_eq_nil_iff.1 hd;rw [q5Q];have k1:decide ((i:Int) < (ps.length:Int))=false:=dYF (by omega)
  simp only [k1,cF,append_nil];rfl
 | b::bs,a,i,acc,hd,hi,ha,hz=>by
  have hd':ps.drop i=(b,((a:Int),((batL b).length:Int)))::plB (a+(batL b).length) bs:=hd;obtain ⟨e1,hlt,e2⟩:=qK dP hd';rw [q09,length_append] at hz;rw [q5Q];have k1:decide ((i:Int) < (ps.length:Int))=true:=dYT (by omega)
  have k2:decide (0<=(i:Int))=true:=dYT (by omega)
  have k4:w64 ((i:Int)+1)=((i+1:Nat):Int):=qw (by omega)
  have k5:w64 ((a:Int)+((batL b).length:Int))=((a+(batL b).length:Nat):Int):=qg (by omega) (by omega)
  have kl:lim (acc.length+1) 32=true:=qJ (by omega)
  rw [k1,k2];simp only [Bool.and_self,cT];rw [kl];simp only [cT,k4,toNat_natCast,e1,k5,pmk];rw [qfk f ps hn bs (a+(batL b).length) (i+1) (acc++[b]) e2 hlt (by rw [length_append,length_singleton]; omega) (by omega),q09,length_append,append_assoc,singleton_append,Nat.add_assoc]
theorem qfq (n:Nat) (hn:n<=99) (t:BA):q6h (n:Int) t=some (rsO n t,()):=by
 rw [qfr,q5J n hn,qcM n hn];unfold plO rsO;cases h:segR n t with
 | none=>rfl
 | some x=>
  have hl:=qoP hn h;obtain ⟨h1,h2,h3,_,_,r,e⟩:=q6G (f:=x.1) (bs:=x.2) h;have hlen:=congrArg length e;rw [<- qW,length_append,length_append] at hlen;have hho:(hoO n t).2.1=((qU n x.1).length:Int):=by
   have h':=h;rw [qdQ n hn] at h';unfold hoO
   revert h'
   cases (unO t).1 with
   | nil=>intro h'; cases h'
   | cons s ts=>
    intro h';obtain ⟨f,hf,hx⟩:=map_eq_some_iff.1 h';simp only [hf];rw [<- hx]
  simp only [oB,Bool.not_true,cF,hho];have hz:=qdO x.2 (qU n x.1).length;have:=qfk (x.1:Int) (plB (qU n x.1).length x.2) (by omega) x.2 (qU n x.1).length 0 [] rfl (zero_le _) (le_refl _) (by omega)
  exact this
theorem qnf {bs:List Bat} (h:bs≠[]) (q:Int):(bs.getD (bs.length - 1) dB).1=endQ q bs:=by
 unfold endQ;rw [List.getLast?_eq_getElem?,List.getD_eq_getElem?_getD];have:0 < bs.length:=length_pos_iff.2 h;rw [List.getElem?_eq_getElem (show bs.length - 1 < bs.length by omega)]; rfl
theorem qgf (d:List Fil) (hd30:d.length<=30) (l:List Nat) (hl:l.length<=100) (hm:∀ n∈l,n < 100/\hasN d n=true):∀ (r:List Nat) (i:Nat) (q:Int),l.drop i=r->i<=l.length->
  q3h (natI l) q (i:Int) d=some (endQ q (allB d r),())
 | [],i,q,hd,hi=>by
  have:=drop_eq_nil_iff.1 hd;have hll:(natI l).length=l.length:=length_map ..;rw [qak,hll];have k1:decide ((i:Int) < (l.length:Int))=false:=dYF (by omega)
  simp only [k1,cF]; rfl
 | n::r,i,q,hd,hi=>by
  obtain ⟨e1,hlt,e2⟩:=qK 0 hd;obtain ⟨hn,hh⟩:=hm n (yL hd);have hll:(natI l).length=l.length:=length_map ..;have eI:(natI l).getD i 0=(n:Int):=by rw [zh hlt,e1]
  have hb:=q1X d (show n<=99 by omega)
  rw [qak];have k1:decide ((i:Int) < ((natI l).length:Int))=true:=dYT (by rw [hll]; omega)
  have k2:decide (0<=(i:Int))=true:=dYT (by omega)
  have k4:w64 ((i:Int)+1)=((i+1:Nat):Int):=qw (by omega)
  have ih:=fun q'=>qgf d hd30 l hl hm r (i+1) q' e2 hlt
  have ea:allB d (n::r)=batD d n++allB d r:=rfl;rw [k1,k2];simp only [Bool.and_self,cT,k4,toNat_natCast,eI,qf1 d hd30 hn hh,oB];rw [ea,qop];by_cases h0:batD d n=[]
  ·have k5:decide (((batD d n).length:Int) > 0)=false:=dYF (by rw [h0]; decide)
   rw [k5,cF,ih,h0]; rfl
  ·have hpos:0 < (batD d n).length:=length_pos_iff.2 h0;have k5:decide (((batD d n).length:Int) > 0)=true:=dYT (by omega)
   have w1:w64 (((batD d n).length:Int) - 1)=(((batD d n).length - 1:Nat):Int):=(qg (by omega) (by omega)).trans (by omega)
   have q1:decide (0<=(((batD d n).length - 1:Nat):Int))=true:=dYT (by omega)
   have q2:decide ((((batD d n).length - 1:Nat):Int) < ((batD d n).length:Int))=true:=dYT (by omega)
   rw [k5,cT,w1,q1,q2];simp only [Bool.and_self,cT,toNat_natCast,qnf h0 q];exact ih _
theorem qsO (d:List Fil) (hd30:d.length<=30) (l:List Nat) (hl:l.length<=100) (hm:∀ n∈l,n < 100/\hasN d n=true):qdb d (natI l)=some (zN (allB d l),()):=by
 rw [qlZ];exact qgf d hd30 l hl hm l 0 0 rfl (zero_le _)
abbrev noE:Eng:=([],(0,(0,(0,[]))))
noncomputable def opO (d:List Fil) (room:Int):Eng×List Act×Bool:=match q1r d room with
 | some x=>(x.1,(x.2,true))
 | none=>(noE,([],false))
theorem qiX {d:List Fil} (hok:dOkB d=true) (m:Nat):∀ {l:List Nat} {t:List Act},wX d m l=some t->t.length<=3 * l.length/\∀ a∈t,a.2.2.1.size<=1000000000000
 | [],t,h=>by
  have h:some []=some t:=h;rw [<- Option.some.inj h];exact ⟨zero_le _,fun a ha=>by cases ha⟩
 | n::l,t,h=>by
  have e:wX d m (n::l)=if endD d n=(txtD d n).size then wX d m l else if n=m then (wX d m l).map fun x=>adA qB (bOf ((bl (txtD d n)).take (endD d n)))::kpA qB::mvA qB (nmL n)::x else none:=rfl
  rw [e] at h;split at h
  ·obtain ⟨h1,h2⟩:=qiX hok m h;exact ⟨by rw [length_cons]; omega,h2⟩
  ·split at h
   ·obtain ⟨x,hx,rfl⟩:=map_eq_some_iff.1 h;obtain ⟨h1,h2⟩:=qiX hok m hx;refine ⟨by simp only [length_cons]; omega,fun a ha=>?_⟩
    have ht:(txtD d n).size<=20000:=by
     unfold txtD;cases hg:getK (nmL n) d with
     | none=>exact zero_le _
     | some v=>exact (q2v hok ((yj (qG.1 hok).2.2).1 hg)).2
    rcases mem_cons.1 ha with rfl | ha
    ·show (bOf _).size<=_;rw [qD ((bl (txtD d n)).take (endD d n)),List.length_take,<- qW]; omega
    ·rcases mem_cons.1 ha with rfl | ha
     ·exact zero_le _
     ·rcases mem_cons.1 ha with rfl | ha
      ·exact zero_le _
      ·exact h2 a ha
   ·cases h
theorem qoG {d:List Fil} (hok:dOkB d=true) (l:List Nat):(wG d l).length<=31/\∀ a∈wG d l,a.2.2.1.size<=1000000000000:=by
 have hl30:=(qG.1 hok).1;have hf:=length_filter_le (zY l) d;unfold wG;refine ⟨?_,fun a ha=>?_⟩
 ·rw [length_append,length_map];split
  ·rw [length_singleton]; omega
  ·rw [List.length_nil]; omega
 ·rcases mem_append.1 ha with ha | ha
  ·split at ha
   ·rw [mem_singleton.1 ha]; exact zero_le _
   ·cases ha
  ·obtain ⟨f,_,rfl⟩:=mem_map.1 ha;exact zero_le _
theorem qmd {d:List Fil} (hok:dOkB d=true) {l:List Nat} (hl:l.length<=100) {m:Nat} {t:List Act} (h:wX d m l=some t):aSz (wG d l++t)/\(wG d l++t).length<=400:=by
 obtain ⟨h1,h2⟩:=qiX hok m h;obtain ⟨h3,h4⟩:=qoG hok l;have hlen:(wG d l++t).length<=400:=by rw [length_append]; omega
 exact ⟨⟨by omega,fun a ha=>(mem_append.1 ha).elim (h4 a) (h2 a)⟩,hlen⟩
theorem qus {d:List Fil} {l:List Nat} (h:segs d=some l):∀ n,n < 100->hasN d n=true->(n∈l↔¬ n < l.getD 0 0):=fun n hn hh=>by
 obtain ⟨_,h2,h3,_⟩:=zR.1 h;have hasc:AscN l:=by rw [h2]; exact q3H d
 cases hl:l with
 | nil=>exact absurd hl h3
 | cons m r=>
  rw [<- hl];have e:l.getD 0 0=m:=by rw [hl]; rfl
  have hm:m∈segN d:=by rw [<- h2,hl]; exact List.mem_cons_self ..
  have hle:=(q0i.1 hm).2.2;rw [e];constructor
  ·intro hx;rw [hl] at hx hasc;rcases mem_cons.1 hx with rfl | hx
   ·exact Nat.lt_irrefl _
   ·have:=(List.pairwise_cons.1 hasc).1 n hx; omega
  ·intro hx;rw [h2];exact q0i.2 ⟨hn,hh,by omega⟩
theorem qna {l:List Nat} (h:l≠[]) (hl:l.length<=100):(natI l).getD (toNat (w64 (((natI l).length:Int) - 1))) 0=((l.getLastD 0:Nat):Int)/\(decide (0<=w64 (((natI l).length:Int) - 1))&&decide (w64 (((natI l).length:Int) - 1) < ((natI l).length:Int)))=true:=by
 have hll:(natI l).length=l.length:=length_map ..;have hpos:0 < l.length:=length_pos_iff.2 h;have w1:w64 ((l.length:Int) - 1)=((l.length - 1:Nat):Int):=(qg (by omega) (by omega)).trans (by omega)
 rw [hll,w1];refine ⟨?_,by simp; omega⟩
 rw [toNat_natCast,zh (by omega),List.getLastD_eq_getLast?,List.getLast?_eq_getElem?,List.getD_eq_getElem?_getD]
theorem q6i:∀ (xs:List Act) (d:List Fil),(qR d xs).2<=xs.length
 | [],_=>le_refl _
 | a::r,d=>by
  simp only [qR];split
  ·exact zero_le _
  ·rename_i x _;have:=q6i r x;rw [length_cons]; omega
theorem qb0 {d:List Fil} {room:Int} (h:¬ (100<=room/\room<=20000/\q12 d=true/\rise d=true)):opO d room=(noE,([],false)):=by
 unfold opO q1r;rw [if_neg h]
theorem qpe {d:List Fil} {room:Int} (h:100<=room/\room<=20000/\q12 d=true/\rise d=true) {l:List Nat} (hl:segs d=some l):opO d room=match wX d (l.getLastD 0) l with
  | none=>(noE,([],false))
  | some t=>if (qR d (wG d l++t)).2=(wG d l++t).length then (mkE d (qR d (wG d l++t)).1 room l,(wG d l++t,true)) else (noE,([],false)):=by
 unfold opO q1r;rw [if_pos h,hl];cases ht:wX d (l.getLastD 0) l with
 | none=>simp only [ht]
 | some t=>
  simp only [ht];by_cases hc:(qR d (wG d l++t)).2=(wG d l++t).length
  ·rw [if_pos hc,if_pos hc]
  ·rw [if_neg hc,if_neg hc]
theorem q2n (d:List Fil) (hn:d.length<=2000000) (room:Int):zw d room=some (opO d room,()):=by
 rw [qfI,jy,q0V];simp only [oB];by_cases h1:100<=room/\room<=20000
 ·simp only [dYT h1,Bool.not_true,cF,qim d (show d.length<=1000000000 by omega),qjM d (show d.length<=1000000000 by omega),oB]
  cases h2:rise d with
  | false=>rw [qb0 (fun h=>by rw [h2] at h; cases h.2.2.2)]; rfl
  | true=>
   cases h3:q12 d with
   | false=>rw [qb0 (fun h=>by rw [h3] at h; cases h.2.2.1)]; rfl
   | true=>
    rcases q6L d with ⟨g1,g2⟩ | ⟨l,g1,g2,hok,g4,g5,g6,g7⟩
    ·unfold rise at h2;rw [g2] at h2; cases h2
    ·have hasc:AscN l:=by rw [(zR.1 g2).2.1]; exact q3H d
     have hl30:=(qG.1 hok).1;rw [qpe ⟨h1.1,h1.2,h3,h2⟩ g2];have hdir:dirO d=(dirD d l,true):=by unfold dirO; rw [g2]
     obtain ⟨ll1,ll2⟩:=qna g7 g4;simp only [Bool.not_true,cF,q0F d (show d.length<=1000000000 by omega),g1,oB,qs3 d hok l g4 hasc g7 g5 g6 (qus g2)]
     cases ht:wX d (l.getLastD 0) l with
     | none=>
      simp only [q3e d hn [] ⟨zero_le _,fun a ha=>by cases ha⟩,oB,Bool.not_false,cT]
     | some t=>
      obtain ⟨s1,s2⟩:=qmd hok g4 ht;have hle:=q6i (wG d l++t) d;simp only [q3e d hn _ s1,oB,Bool.not_true,cF];by_cases hc:(qR d (wG d l++t)).2=(wG d l++t).length
      ·have k1:decide ((((qR d (wG d l++t)).2:Nat):Int) < ((wG d l++t).length:Int))=false:=dYF (by omega)
       rw [k1,if_pos hc,ll1,ll2];simp only [cF,cT,qnI d (show d.length<=1000000000 by omega),hdir,oB,qsO d hl30 l g4 g5]
       rfl
      ·have k1:decide ((((qR d (wG d l++t)).2:Nat):Int) < ((wG d l++t).length:Int))=true:=dYT (by omega)
       rw [k1,if_neg hc]; rfl
 ·simp only [dYF h1,Bool.not_false,cT];rw [qb0 (fun h=>h1 ⟨h.1,h.2.1⟩)]
noncomputable def finO (d:List Fil) (room act:Int) (dir:List Spt) (xs:List Act) (q:Int):Eng×List Act×Bool:=if (qR d xs).2=xs.length then (((qR d xs).1,(room,(act,(q,dir)))),(xs,true)) else (noE,([],false))
theorem q7z (d:List Fil) (hok:dOkB d=true) (l:List Nat) (hl:l.length<=100) (hasc:AscN l) (hm:∀ n∈l,n < 100/\hasN d n=true) (hs:∀ n∈l,(segD d n).isSome=true) (z:List Fil) (room:Int) (dir:List Spt):∀ (r:List Nat) (i:Nat) (xs:List Act) (q:Int),l.drop i=r->i<=l.length->xs.length<=1000+3 * i->(∀ a∈xs,a.2.2.1.size<=1000000000000)->
  za xs (natI l) ((natI l).length:Int) (i:Int) d [] 0 0 0 [] z room ((l.getLastD 0:Nat):Int) q dir=some ((match wX d (l.getLastD 0) r with | none=>(noE,([],false)) | some t=>finO d room ((l.getLastD 0:Nat):Int) dir (xs++t) (endQ q (allB d r))),())
 | [],i,xs,q,hd,hi,ha,hx=>by
  have:=drop_eq_nil_iff.1 hd;have hll:(natI l).length=l.length:=length_map ..;have hl30:=(qG.1 hok).1;have hle:=q6i xs d;rw [q6K,hll];have k1:decide ((i:Int) < (l.length:Int))=false:=dYF (by omega)
  rw [k1,cF,q8A d (by omega) xs ⟨by omega,hx⟩]
  have et:wX d (l.getLastD 0) []=some []:=rfl;have eq:endQ q (allB d [])=q:=rfl;rw [et,eq];simp only [oB,append_nil];unfold finO;by_cases hc:(qR d xs).2=xs.length
  ·have k2:decide ((((qR d xs).2:Nat):Int) < (xs.length:Int))=false:=dYF (by omega)
   rw [k2,if_pos hc]; rfl
  ·have k2:decide ((((qR d xs).2:Nat):Int) < (xs.length:Int))=true:=dYT (by omega)
   rw [k2,if_neg hc]; rfl
 | n::r,i,xs,q,hd,hi,ha,hx=>by
  obtain ⟨e1,hlt,e2⟩:=qK 0 hd;obtain ⟨hn,hh⟩:=hm n (yL hd);have hl30:=(qG.1 hok).1;have hll:(natI l).length=l.length:=length_map ..;have eI:(natI l).getD i 0=(n:Int):=by rw [zh hlt,e1]
  obtain ⟨q1,q2,q3⟩:=qsN hn hh (hs n (yL hd));have qb:=qh8 hn hh;rw [q2] at q1 qb;have hb:=q1X d (show n<=99 by omega)
  have ea:allB d (n::r)=batD d n++allB d r:=rfl;rw [q6K,qjo hasc hd,ea,qop];have k1:decide ((i:Int) < ((natI l).length:Int))=true:=dYT (by rw [hll]; omega)
  have k2:decide (0<=(i:Int))=true:=dYT (by omega)
  have k4:w64 ((i:Int)+1)=((i+1:Nat):Int):=qw (by omega)
  rw [k1,k2];simp only [Bool.and_self,cT];rw [k4];simp only [toNat_natCast,eI,wP,zl hn,q05 d (show d.length<=1000000000 by omega),oB,q2,qfq n (show n<=99 by omega),q1,qb]
  have kl:lim (xs.length+3) 56=true:=qJ (by omega)
  have k6:decide ((0:Int)<=((endD d n:Nat):Int))=true:=dYT (by omega)
  have k7:decide (((endD d n:Nat):Int)<=((txtD d n).size:Int))=true:=dYT (by omega)
  have go:∀ s:Int,(bif ((endD d n:Nat):Int)==((txtD d n).size:Int) then za xs (natI l) ((natI l).length:Int) ((i+1:Nat):Int) d [] 0 0 0 [] z room ((l.getLastD 0:Nat):Int) s dir
    else bif (n:Int) != ((l.getLastD 0:Nat):Int) then some ((noE,([],false)),())
    else bif decide ((0:Int)<=0)&&(decide ((0:Int)<=((endD d n:Nat):Int))&&decide (((endD d n:Nat):Int)<=((txtD d n).size:Int))) then
     bif lim (xs.length+3) 56 then za (xs++[((1:Int),(qF,((txtD d n).extract (toNat 0) (endD d n),eB))),(2,(qF,(eB,eB))),(3,(qF,(eB,nmL n)))]) (natI l) ((natI l).length:Int) ((i+1:Nat):Int) d [] 0 0 0 [] z room ((l.getLastD 0:Nat):Int) s dir
     else none
    else none)=some ((match (if endD d n=(txtD d n).size then wX d (l.getLastD 0) r else if r=[] then some (qeo d n) else none) with | none=>(noE,([],false)) | some t=>finO d room ((l.getLastD 0:Nat):Int) dir (xs++t) (endQ s (allB d r))),()):=fun s=>by
   by_cases he:endD d n=(txtD d n).size
   ·have b:(((endD d n:Nat):Int)==((txtD d n).size:Int))=true:=by rw [beq_iff_eq]; omega
    rw [b,cT,if_pos he];exact q7z d hok l hl hasc hm hs z room dir r (i+1) xs s e2 hlt (by omega) hx
   ·have b:(((endD d n:Nat):Int)==((txtD d n).size:Int))=false:=by rw [<- not_eq_true,beq_iff_eq]; omega
    rw [b,cF,if_neg he];by_cases hr:r=[]
    ·have hna:=(qcl hasc hd).2 hr;have b2:((n:Int) != ((l.getLastD 0:Nat):Int))=false:=by rw [<- hna]; simp
     have e0:(txtD d n).extract (toNat 0) (endD d n)=(txtD d n).extract 0 (endD d n):=rfl;have htr:wX d (l.getLastD 0) r=some []:=by rw [hr]; rfl
     have hsz:(txtD d n).size<=20000:=by
      unfold txtD;cases hg:getK (nmL n) d with
      | none=>exact zero_le _
      | some v=>exact (q2v hok ((yj (qG.1 hok).2.2).1 hg)).2
     rw [b2,cF,show decide ((0:Int)<=0)=true from rfl,k6,k7,kl,e0,qoO,if_pos hr]
     simp only [Bool.and_self,cT];rw [q7z d hok l hl hasc hm hs z room dir r (i+1) (xs++qeo d n) s e2 hlt (by rw [length_append,qmO]; omega) (fun a ha=>by
      rcases mem_append.1 ha with ha | ha
      ·exact hx a ha
      ·unfold qeo at ha;rcases mem_cons.1 ha with rfl | ha
       ·show (bOf _).size<=_;rw [qD ((bl (txtD d n)).take (endD d n)),List.length_take,<- qW]; omega
       ·rcases mem_cons.1 ha with rfl | ha
        ·exact zero_le _
        ·rw [mem_singleton.1 ha]; exact zero_le _),htr]
     simp only [append_nil]
    ·have hna:n≠l.getLastD 0:=fun e=>hr ((qcl hasc hd).1 e)
     have b2:((n:Int) != ((l.getLastD 0:Nat):Int))=true:=by rw [bne_iff_ne]; omega
     rw [b2,cT,if_neg hr]
  by_cases h0:batD d n=[]
  ·have k5:decide (((batD d n).length:Int) > 0)=false:=dYF (by rw [h0]; decide)
   rw [k5,cF];have:endQ q (batD d n)=q:=by rw [h0]; rfl
   rw [this];exact go q
  ·have hpos:0 < (batD d n).length:=length_pos_iff.2 h0;have k5:decide (((batD d n).length:Int) > 0)=true:=dYT (by omega)
   have w1:w64 (((batD d n).length:Int) - 1)=(((batD d n).length - 1:Nat):Int):=(qg (by omega) (by omega)).trans (by omega)
   have p1:decide (0<=(((batD d n).length - 1:Nat):Int))=true:=dYT (by omega)
   have p2:decide ((((batD d n).length - 1:Nat):Int) < ((batD d n).length:Int))=true:=dYT (by omega)
   rw [k5,cT,w1,p1,p2];simp only [Bool.and_self,cT,toNat_natCast,qnf h0 q];exact go _
theorem q04 (d:List Fil) (hn:d.length<=2000000) (room:Int):jG d room=some (opO d room,()):=by
 rw [qfM,q00,q0V];simp only [oB];by_cases h1:100<=room/\room<=20000
 ·simp only [dYT h1,Bool.not_true,cF,qj5 d (show d.length<=1000000000 by omega),qkW d (show d.length<=1000000000 by omega),oB]
  cases h3:q12 d with
  | false=>rw [qb0 (fun h=>by rw [h3] at h; cases h.2.2.1)]; rfl
  | true=>
   cases h2:rise d with
   | false=>rw [qb0 (fun h=>by rw [h2] at h; cases h.2.2.2)]; rfl
   | true=>
    rcases q6L d with ⟨g1,g2⟩ | ⟨l,g1,g2,hok,g4,g5,g6,g7⟩
    ·unfold rise at h2;rw [g2] at h2; cases h2
    ·have hasc:AscN l:=by rw [(zR.1 g2).2.1]; exact q3H d
     rw [qpe ⟨h1.1,h1.2,h3,h2⟩ g2];have hdir:dirO d=(dirD d l,true):=by unfold dirO; rw [g2]
     obtain ⟨ll1,ll2⟩:=qna g7 g4;obtain ⟨s1,s2⟩:=qoG hok l;simp only [Bool.not_true,cF,q0L d (show d.length<=1000000000 by omega),g1,oB,qnE d (show d.length<=1000000000 by omega),hdir,qqa d hok l g4]
     rw [ll1,ll2,cT];refine (q7z d hok l g4 hasc g5 g6 [] room (dirD d l) l 0 (wG d l) 0 rfl (zero_le _) (by omega) s2).trans ?_
     cases ht:wX d (l.getLastD 0) l with
     | none=>simp only [ht]
     | some t=>simp only [ht]; rfl
 ·simp only [dYF h1,Bool.not_false,cT];rw [qb0 (fun h=>h1 ⟨h.1,h.2.1⟩)]
end Go.Den.S
namespace Go.Den.S
open Go Go.Den
open Classical
set_option maxRecDepth 4000
theorem qtf (a b:Fil):(decide (a.1=b.1)&&(decide (a.2.1=b.2.1)&&((a.2.2==b.2.2)&&true)))=decide (a=b):=by
 rw [Bool.eq_iff_iff];simp only [and_eq_true,decide_eq_true_eq,beq_iff_eq,and_true];constructor
 ·rintro ⟨h1,h2,h3⟩; exact Prod.ext h1 (Prod.ext h2 h3)
 ·rintro rfl; exact ⟨rfl,rfl,rfl⟩
theorem qoN (a b:Spt):(decide (a.1=b.1)&&((a.2.1==b.2.1)&&((a.2.2.1==b.2.2.1)&&((a.2.2.2==b.2.2.2)&&true))))=decide (a=b):=by
 rw [Bool.eq_iff_iff];simp only [and_eq_true,decide_eq_true_eq,beq_iff_eq,and_true];constructor
 ·rintro ⟨h1,h2,h3,h4⟩; exact Prod.ext h1 (Prod.ext h2 (Prod.ext h3 h4))
 ·rintro rfl; exact ⟨rfl,rfl,rfl,rfl⟩
theorem qmA (a b:List Fil) (hn:a.length<=1000000000) (hl:a.length=b.length):∀ (k i:Nat),i+k=a.length->qZ a b (a.length:Int) (i:Int)=some (decide (a.drop i=b.drop i),())
 | 0,i,hi=>by
  rw [yT];have k1:decide ((i:Int) < (a.length:Int))=false:=dYF (by omega)
  rw [k1,cF,List.drop_eq_nil_of_le (show a.length<=i by omega),List.drop_eq_nil_of_le (show b.length<=i by omega),dYT rfl]
 | k+1,i,hi=>by
  have hla:i < a.length:=by omega
  have hlb:i < b.length:=by omega
  rw [yT];have k1:decide ((i:Int) < (a.length:Int))=true:=dYT (by omega)
  have k2:decide (0<=(i:Int))=true:=dYT (by omega)
  have k3:decide ((i:Int) < (b.length:Int))=true:=dYT (by omega)
  have k4:w64 ((i:Int)+1)=((i+1:Nat):Int):=qw (by omega)
  rw [k1,k2];simp only [Bool.and_self,cT];rw [k3,k4];simp only [Bool.and_self,cT,toNat_natCast,y8,qtf,qmA a b hn hl k (i+1) (by omega)]
  rw [drop_eq_getElem_cons hla,drop_eq_getElem_cons hlb,<- jA (d:=dF) hla,<- jA (d:=dF) hlb];by_cases h:a.getD i dF=b.getD i dF
  ·rw [dYT h,Bool.not_true,cF,h];simp only [List.cons.injEq,true_and]
  ·simp only [dYF h,Bool.not_false,cT,List.cons.injEq,h,false_and,decide_false]
theorem qml (a b:List Spt) (hn:a.length<=1000000000) (hl:a.length=b.length):∀ (k i:Nat),i+k=a.length->y5 a b (a.length:Int) (i:Int)=some (decide (a.drop i=b.drop i),())
 | 0,i,hi=>by
  rw [yS];have k1:decide ((i:Int) < (a.length:Int))=false:=dYF (by omega)
  rw [k1,cF,List.drop_eq_nil_of_le (show a.length<=i by omega),List.drop_eq_nil_of_le (show b.length<=i by omega),dYT rfl]
 | k+1,i,hi=>by
  have hla:i < a.length:=by omega
  have hlb:i < b.length:=by omega
  rw [yS];have k1:decide ((i:Int) < (a.length:Int))=true:=dYT (by omega)
  have k2:decide (0<=(i:Int))=true:=dYT (by omega)
  have k3:decide ((i:Int) < (b.length:Int))=true:=dYT (by omega)
  have k4:w64 ((i:Int)+1)=((i+1:Nat):Int):=qw (by omega)
  rw [k1,k2];simp only [Bool.and_self,cT];rw [k3,k4];simp only [Bool.and_self,cT,toNat_natCast,y8,qoN,qml a b hn hl k (i+1) (by omega)]
  rw [drop_eq_getElem_cons hla,drop_eq_getElem_cons hlb,<- jA (d:=dS) hla,<- jA (d:=dS) hlb];by_cases h:a.getD i dS=b.getD i dS
  ·rw [dYT h,Bool.not_true,cF,h];simp only [List.cons.injEq,true_and]
  ·simp only [dYF h,Bool.not_false,cT,List.cons.injEq,h,false_and,decide_false]
theorem qwm (a b:List Fil) (hn:a.length<=1000000000):yF a b=some (decide (a=b),()):=by
 rw [zK];by_cases hl:a.length=b.length
 ·have k:(((a.length:Nat):Int) != (b.length:Int))=false:=by rw [hl]; simp
  rw [k,cF];exact qmA a b hn hl a.length 0 (by omega)
 ·have k:(((a.length:Nat):Int) != (b.length:Int))=true:=by rw [bne_iff_ne]; omega
  rw [k,cT,dYF (fun e=>hl (by rw [e]))]
theorem qwy (a b:List Spt) (hn:a.length<=1000000000):yE a b=some (decide (a=b),()):=by
 rw [zM];by_cases hl:a.length=b.length
 ·have k:(((a.length:Nat):Int) != (b.length:Int))=false:=by rw [hl]; simp
  rw [k,cF];exact qml a b hn hl a.length 0 (by omega)
 ·have k:(((a.length:Nat):Int) != (b.length:Int))=true:=by rw [bne_iff_ne]; omega
  rw [k,cT,dYF (fun e=>hl (by rw [e]))]
theorem qwd (x e:Eng) (h1:x.1.length<=1000000000) (h2:x.2.2.2.2.length<=1000000000):q7v x e=some (decide (x=e),()):=by
 rw [qgz,qwm _ _ h1,qwy _ _ h2];simp only [oB];have key:decide (x=e)=(decide (x.1=e.1)&&((x.2.1==e.2.1)&&((x.2.2.1==e.2.2.1)&&((x.2.2.2.1==e.2.2.2.1)&&decide (x.2.2.2.2=e.2.2.2.2))))):=by
  rw [Bool.eq_iff_iff];simp only [and_eq_true,decide_eq_true_eq,beq_iff_eq];constructor
  ·rintro rfl; exact ⟨rfl,rfl,rfl,rfl,rfl⟩
  ·rintro ⟨a,b,c,d,f⟩; exact Prod.ext a (Prod.ext b (Prod.ext c (Prod.ext d f)))
 rw [key];cases decide (x.1=e.1)<;>cases (x.2.1==e.2.1)<;>cases (x.2.2.1==e.2.2.1)<;>cases (x.2.2.2.1==e.2.2.2.1)<;>rfl
theorem qnW (d:List Fil):∀ l:List Nat,(∀ n∈l,n < 100)->(l.flatMap (opsN d)).length<=800000 * l.length
 | [],_=>le_refl _
 | n::l,h=>by
  have h1:=qnW d l fun x hx=>h x (List.mem_cons_of_mem _ hx)
  have hn:=h n (List.mem_cons_self ..);have h2:(opsN d n).length<=800000:=by
   rw [q7M];have a:=qeK n (batD d n) (wo d n) q4f;have b:=q1X d (show n<=99 by omega)
   omega
  rw [List.flatMap_cons,length_append,length_cons]; omega
theorem qi8 {d:List Fil} {l:List Nat} (hl:l.length<=100) (hm:∀ n∈l,n < 100):(dirD d l).length<=80000000:=by
 rw [qb3];have h1:=q9x (l.flatMap (opsN d)) [];have h2:=qnW d l hm;unfold runK;rw [List.length_nil] at h1;omega
theorem qbK:∀ (xs:List Act) (d:List Fil),d.length<=2000000->(qR d xs).1.length<=2000000
 | [],d,h=>h
 | a::r,d,h=>by
  simp only [qR];split
  ·exact h
  ·rename_i x hx;exact qbK r x (qaW hx)
theorem qiU {d:List Fil} (hd:d.length<=2000000) {room:Int} {x:Eng×List Act} (h:q1r d room=some x):x.1.1.length<=2000000/\x.1.2.2.2.2.length<=80000000/\x.2.length<=1000000000:=by
 unfold q1r at h;split at h
 ·split at h
  ·cases h
  ·rename_i l hl;obtain ⟨h1,h2,h3,h4⟩:=zR.1 hl;have hlen:l.length<=100:=by
    rw [h2]; unfold segN;exact le_trans (length_filter_le ..) (by simp)
   split at h
   ·cases h
   ·rename_i t ht;split at h
    ·rw [<- Option.some.inj h];refine ⟨qbK _ _ hd,qi8 hlen (fun n hn=>?_),(qmd h1 hlen ht).1.1⟩
     rw [h2] at hn;exact (q0i.1 hn).1
    ·cases h
 ·cases h
theorem q0H (e:Eng) (hd:e.1.length<=2000000):q0v e=some (decide (eOkP e),()):=by
 rw [qiT,q04 e.1 hd];simp only [oB];unfold opO eOkP;cases hx:q1r e.1 e.2.1 with
 | none=>simp
 | some x=>
  obtain ⟨x,xs⟩:=x;obtain ⟨l1,l2,_⟩:=qiU hd hx;have l1:x.1.length<=2000000:=l1;have l2:x.2.2.2.2.length<=80000000:=l2;simp only [cT];cases xs with
  | nil=>
   have k:((([]:List Act).length:Int)==0)=true:=rfl;rw [k,cT,qwd x e (by omega) (by omega)]
   simp
  | cons a r=>
   have k:(((a::r).length:Int)==0)=false:=by rw [<- not_eq_true,beq_iff_eq,length_cons]; omega
   rw [k,cF];simp
theorem qfn (e x:Eng) (hn:x.2.2.2.2.length<=1000000000) (hl:x.2.2.2.2.length=e.2.2.2.2.length):∀ (k i:Nat),i+k=x.2.2.2.2.length->q3u (i:Int) e.1 e.2.1 e.2.2.1 e.2.2.2.1 e.2.2.2.2 x.1 x.2.1 x.2.2.1 x.2.2.2.1 x.2.2.2.2=some (decide (x.2.2.2.2.drop i=e.2.2.2.2.drop i),())
 | 0,i,hi=>by
  rw [q8a];have k1:decide ((i:Int) < (x.2.2.2.2.length:Int))=false:=dYF (by omega)
  rw [k1,cF,List.drop_eq_nil_of_le (show x.2.2.2.2.length<=i by omega),List.drop_eq_nil_of_le (show e.2.2.2.2.length<=i by omega),dYT rfl]
 | k+1,i,hi=>by
  have hla:i < x.2.2.2.2.length:=by omega
  have hlb:i < e.2.2.2.2.length:=by omega
  rw [q8a];have k1:decide ((i:Int) < (x.2.2.2.2.length:Int))=true:=dYT (by omega)
  have k2:decide (0<=(i:Int))=true:=dYT (by omega)
  have k3:decide ((i:Int) < (e.2.2.2.2.length:Int))=true:=dYT (by omega)
  have k4:w64 ((i:Int)+1)=((i+1:Nat):Int):=qw (by omega)
  rw [k1,k2];simp only [Bool.and_self,cT];rw [k3,k4];simp only [Bool.and_self,cT,toNat_natCast,y8,qoN,qfn e x hn hl k (i+1) (by omega)]
  rw [drop_eq_getElem_cons hla,drop_eq_getElem_cons hlb,<- jA (d:=dS) hla,<- jA (d:=dS) hlb];by_cases h:x.2.2.2.2.getD i dS=e.2.2.2.2.getD i dS
  ·rw [dYT h,Bool.not_true,cF,h];simp only [List.cons.injEq,true_and]
  ·simp only [dYF h,Bool.not_false,cT,List.cons.injEq,h,false_and,decide_false]
theorem qtC {d:List Fil} {room:Int} {x:Eng} (h:q1r d room=some (x,[])):x.1=d/\x.2.1=room:=by
 obtain ⟨_,_,l,_,e⟩:=q8Q.1 h;rw [e]; exact ⟨rfl,rfl⟩
theorem q6k (e:Eng) (hd:e.1.length<=2000000):q3V e=some (decide (eOkP e),()):=by
 rw [qi7,q2n e.1 hd];simp only [oB];unfold opO eOkP;cases hx:q1r e.1 e.2.1 with
 | none=>simp
 | some x=>
  obtain ⟨x,xs⟩:=x;obtain ⟨l1,l2,_⟩:=qiU hd hx;have l2:x.2.2.2.2.length<=80000000:=l2;simp only [Bool.not_true,cF];cases xs with
  | nil=>
   obtain ⟨d1,d2⟩:=qtC hx;have k:decide ((([]:List Act).length:Int) > 0)=false:=rfl;rw [k,cF];have key:(some (x,([]:List Act))=some (e,[]))↔x.2.2.1=e.2.2.1/\x.2.2.2.1=e.2.2.2.1/\x.2.2.2.2=e.2.2.2.2:=by
    constructor
    ·intro h;have:=(Prod.mk.inj (Option.some.inj h)).1;rw [this]; exact ⟨rfl,rfl,rfl⟩
    ·rintro ⟨a,b,c⟩
     have:x=e:=Prod.ext d1 (Prod.ext d2 (Prod.ext a (Prod.ext b c)));rw [this]
   by_cases h1:x.2.2.1=e.2.2.1
   ·have b1:(x.2.2.1 != e.2.2.1)=false:=by rw [h1]; simp
    rw [b1,cF];by_cases h2:x.2.2.2.1=e.2.2.2.1
    ·have b2:(x.2.2.2.1 != e.2.2.2.1)=false:=by rw [h2]; simp
     rw [b2,cF];by_cases hl:x.2.2.2.2.length=e.2.2.2.2.length
     ·have b3:((x.2.2.2.2.length:Int) != (e.2.2.2.2.length:Int))=false:=by rw [hl]; simp
      rw [b3,cF];refine (qfn e x (by omega) hl x.2.2.2.2.length 0 (by omega)).trans ?_
      rw [drop_zero,drop_zero];refine congrArg (fun b=>some (b,())) ?_
      rw [Bool.eq_iff_iff];simp only [decide_eq_true_eq];exact ⟨fun h=>key.2 ⟨h1,h2,h⟩,fun h=>(key.1 h).2.2⟩
     ·have b3:((x.2.2.2.2.length:Int) != (e.2.2.2.2.length:Int))=true:=by rw [bne_iff_ne]; omega
      rw [b3,cT];refine congrArg (fun b=>some (b,())) ?_
      rw [Bool.eq_iff_iff];simp only [false_eq_true,false_iff,decide_eq_true_eq];exact (fun h=>hl (by rw [(key.1 h).2.2]))
    ·have b2:(x.2.2.2.1 != e.2.2.2.1)=true:=by rw [bne_iff_ne]; exact h2
     rw [b2,cT];refine congrArg (fun b=>some (b,())) ?_
     rw [Bool.eq_iff_iff];simp only [false_eq_true,false_iff,decide_eq_true_eq];exact (fun h=>h2 (key.1 h).2.1)
   ·have b1:(x.2.2.1 != e.2.2.1)=true:=by rw [bne_iff_ne]; exact h1
    rw [b1,cT];refine congrArg (fun b=>some (b,())) ?_
    rw [Bool.eq_iff_iff];simp only [false_eq_true,false_iff,decide_eq_true_eq];exact (fun h=>h1 (key.1 h).1)
  | cons a r=>
   have k:decide (((a::r).length:Int) > 0)=true:=dYT (by rw [length_cons]; omega)
   rw [k,cT];simp
theorem qwb {d:List Fil} {l:List Nat} {s:Spt} (h:s∈dirD d l):∃ n∈l,s.2.1=(n:Int):=by
 unfold dirD at h;obtain ⟨x,hx,rfl⟩:=mem_map.1 h;have h:=qeC hx;unfold jO at h;obtain ⟨n,hn,h⟩:=List.mem_flatMap.1 h;obtain ⟨p,hp,h⟩:=List.mem_flatMap.1 h;unfold q4t at h;obtain ⟨c,hc,h⟩:=mem_map.1 h;simp only [Prod.mk.injEq] at h;obtain ⟨e1,e2⟩:=h;refine ⟨n,hn,?_⟩;cases hg:c.2.2 with
 | true=>rw [hg] at e2; cases e2
 | false=>
  rw [hg] at e2;simp only [cF,Option.some.injEq] at e2;show x.2.1.1=_;rw [<- e2]
theorem jU {d:List Fil} {l:List Nat} (h:segs d=some l):l.length<=100:=by
 rw [(zR.1 h).2.1]; unfold segN;exact le_trans (length_filter_le ..) (by simp)
theorem q6w {e:Eng} (h:eOkP e):dOkB e.1=true/\e.2.2.2.2.length<=80000000/\∀ s∈e.2.2.2.2,∃ n:Nat,n < 100/\s.2.1=(n:Int):=by
 obtain ⟨_,_,l,C,he⟩:=q6a.1 h;have h5:e.2.2.2.2=dirD e.1 l:=by rw [he]; rfl
 have hm:∀ n∈l,n < 100:=fun n hn=>(C.mem.1 hn).1
 refine ⟨C.ok,?_,fun s hs=>?_⟩
 ·rw [h5]; exact qi8 (jU C.segs) hm
 ·rw [h5] at hs;obtain ⟨n,hn,e1⟩:=qwb hs;exact ⟨n,hm n hn,e1⟩
theorem mx (k m:Int):(bif decide (m > k) then m else k)=max k m:=by
 by_cases h:m > k
 ·rw [dYT h,cT]; omega
 ·rw [dYF h,cF]; omega
theorem qdo {α:Type} (acc r:List α) (f d:α) {i:Nat} (h:acc.length=i):(acc++f::r).getD i d=f:=by
 subst h; simp
theorem qm4 (d:List Fil) (hd:d.length<=2000000) (room:Int):(opO d room).1.1.length<=2000000/\(opO d room).1.2.2.2.2.length<=80000000/\(opO d room).2.1.length<=1000000000:=by
 unfold opO;cases h:q1r d room with
 | none=>exact ⟨zero_le _,zero_le _,zero_le _⟩
 | some x=>exact qiU hd h
noncomputable def putA (d:List Fil) (l:List Nat) (b:Bat):Option (List Act):=
 if (txtD d (l.getLastD 0)).size < 300 then some [adA (nmL (l.getLastD 0)) (bOf (batL b)),kpA (nmL (l.getLastD 0))]
 else if l.getLastD 0+1 < 100 then some [adA qB (bOf (qU (l.getLastD 0+1) (l.headD 0)++batL b)),kpA qB,mvA qB (nmL (l.getLastD 0+1))] else none
theorem qbt {l:List Nat} (h:l≠[]):l.getLastD 0∈l:=by
 cases l with
 | nil=>exact absurd rfl h
 | cons a l=>rw [List.getLastD_cons,<- List.getLast_eq_getLastD (h:=h)]; exact List.getLast_mem h
theorem Clean.txt {d:List Fil} {l:List Nat} (C:Clean d l) {n:Nat} (hn:n∈l):getK (nmL n) d=some (txtD d n,((txtD d n).size:Int))/\(txtD d n).size<=20000:=by
 obtain ⟨t,h1,_,_,h2,_⟩:=C.file hn;have:txtD d n=t:=by unfold txtD; rw [h1]; rfl
 rw [this]; exact ⟨h1,h2⟩
theorem qlo {β:Type} {k:BA} {l:List (BA×β)} (h:getK k l=none):delK k l=l:=by
 unfold delK;rw [List.filter_eq_self];exact fun x hx=>dYT (jC.1 h x hx)
theorem q9p {d x:List Fil} {a:Act} {y:List Fil} (h:actB d a=some x) (hd:doA d a=some y):x=y/\dOkB y=true:=by
 obtain ⟨_,h2,h3⟩:=qh6 h;rw [hd] at h3;have e:y=x:=Option.some.inj h3;rw [e]; exact ⟨rfl,h2⟩
theorem q6g {d:List Fil} (C:AscK d) {k t:BA} {kp:Int} (h:dOkB (putK k (t,kp) d)=true):t.size<=20000:=by
 have:(k,(t,kp))∈putK k (t,kp) d:=jV.2 (.inl rfl);exact (jg.1 ((qG.1 h).2.1 _ this)).2.2.1
theorem qoy {d:List Fil} {l:List Nat} (C:Clean d l) {b:Bat} (hb:batT b=true) (hq:zN (allB d l) < b.1) {xs:List Act} (ha:putA d l b=some xs) {x:List Fil} (hx:allA d xs x) :
  ∃ l',Clean x l'/\allB x l'=allB d l++[b]:=by
 unfold putA at ha;obtain ⟨t1,t2⟩:=C.txt (qbt C.ne);split at ha
 ·have ha:=(Option.some.inj ha).symm;rw [ha] at hx;obtain ⟨d1,a1,_⟩:=q2L hx;obtain ⟨_,o1⟩:=q9p a1 (q6y t1);have hs:=q6g C.asc o1;rw [q8z,qD,length_append,<- qW] at hs;obtain ⟨_,o2,b1,b2⟩:=qgn C (b:=b) t1 hs;have:=qbk hx (yx b1 (yx b2 (je _)));rw [this];exact ⟨l,C.put hb hq t1 o2⟩
 ·split at ha
  ·rename_i hm;have ha:=(Option.some.inj ha).symm;rw [ha] at hx;obtain ⟨d1,a1,_⟩:=q2L hx;obtain ⟨_,o1⟩:=q9p a1 (q6F C.new);have hs:=q6g C.asc o1;rw [qD] at hs;have hl:=(qG.1 o1).1;rw [q8n,qlo C.new] at hl;obtain ⟨_,_,o3,b1,b2,b3⟩:=q3q C (by omega) hs (l.getLastD 0+1)
   have:=qbk hx (yx b1 (yx b2 (yx b3 (je _))));rw [this];exact ⟨_,C.next hb hq hm o3⟩
  ·cases ha
noncomputable def runO (d:List Fil) (room:Int):Option (List Act)->Eng×List Act×Int
 | none=>(noE,([],2))
 | some xs=>bif decide ((qR d xs).2 < xs.length)||decide ((yR (qR d xs).1:Int) > room) then (noE,([],2)) else ((opO (qR d xs).1 room).1,(xs,0))
theorem q6v (d:List Fil) (room:Int) (xs:List Act):runO d room (some xs)=bif decide ((qR d xs).2 < xs.length)||decide ((yR (qR d xs).1:Int) > room) then (noE,([],2)) else ((opO (qR d xs).1 room).1,(xs,0)):=rfl
noncomputable def puO (e:Eng) (cs:List Chg):Eng×List Act×Int:=
 if h:eOkP e/\batT (e.2.2.2.1+1,cs)=true then runO e.1 e.2.1 (putA e.1 (segN e.1) (e.2.2.2.1+1,cs)) else (noE,([],1))
theorem qeF {d:List Fil} {l:List Nat} (C:Clean d l):segN d=l:=(zR.1 C.segs).2.1.symm
theorem jJ {e:Eng} (h:eOkP e):100<=e.2.1/\e.2.1<=20000/\Clean e.1 (segN e.1)/\e.2.2.1=(((segN e.1).getLastD 0:Nat):Int)/\e.2.2.2.1=zN (allB e.1 (segN e.1))/\e.2.2.2.2=dirD e.1 (segN e.1)/\e=mkE e.1 e.1 e.2.1 (segN e.1):=by
 obtain ⟨h1,h2,l,C,he⟩:=q6a.1 h;rw [qeF C];refine ⟨h1,h2,C,?_,?_,?_,he⟩<;>rw [he]<;>rfl
theorem qaE {d:List Fil} {l:List Nat} (C:Clean d l) {room:Int} (h1:100<=room) (h2:room<=20000):opO d room=(mkE d d room l,([],true)):=by
 unfold opO;rw [q8Q.2 ⟨h1,h2,l,C,rfl⟩]
theorem qij {d:List Fil} {xs:List Act}:allA d xs (qR d xs).1↔(qR d xs).2=xs.length:=by
 unfold allA;constructor
 ·intro h; exact congrArg Prod.snd h
 ·intro h; exact Prod.ext rfl h
end Go.Den.S
namespace Go.Den.S
open Go Go.Den
set_option maxRecDepth 4000
theorem q8m (a b:Int):(a != b)=!decide (a=b):=by
 by_cases e:a=b
 ·simp [e]
 ·simp [e]

end Go.Den.S
namespace Go.Den.S
open Go Go.Den
open Classical
set_option maxRecDepth 4000
structure quZ (e:Eng):Prop where
 fl:e.1.length<=9223372036854775807
 fs:∀ x∈e.1,x.1.size<=9223372036854775807/\x.2.1.size<=9223372036854775807
 sl:e.2.2.2.2.length<=9223372036854775807
 ss:∀ x∈e.2.2.2.2,x.1.size<=9223372036854775807
structure SmE (e:Eng):Prop where
 f:e.1.length<=2000000
 s:e.2.2.2.2.length<=80000000
theorem q8Y:SmE noE:=⟨zero_le _,zero_le _⟩
theorem qoV (d:List Fil) (hd:d.length<=2000000) (room:Int):SmE (opO d room).1:=⟨(qm4 d hd room).1,(qm4 d hd room).2.1⟩
end Go.Den.S
namespace Go.Den.S
open Go Go.Den
set_option maxRecDepth 4000
abbrev Cur:Type:=List Int×Int×Int
structure Cu (c:Cur):Prop where
 len:c.1.length<=1048576
 at0:0<=c.2.1
 at1:c.2.1<=(c.1.length:Int)
def q2x:List BA:=[c_a,c_b,c_c,c_d,qnT,c_kk]
theorem qtu:((List.range 6).all fun i=>(q2x.take i).all fun s=>blt s (q2x.getD i eB))=true:=by decide +kernel
theorem qul {i:Nat} (hi:i < 6) {s:BA} (hs:s∈q2x.take i):blt s (q2x.getD i eB)=true:=
 List.all_eq_true.1 (List.all_eq_true.1 qtu i (List.mem_range.2 hi)) s hs
theorem qjS {i:Nat} (h:i < 6):q2x.take (i+1)=q2x.take i++[q2x.getD i eB]:=by
 rw [List.take_add_one,List.getD_eq_getElem?_getD,List.getElem?_eq_getElem (show i < q2x.length from h)]; rfl
structure LI (i:Nat) (cs:List Chg):Prop where
 asc:AscK cs
 key:∀ c∈cs,c.1∈q2x.take i
 val:∀ c∈cs,c.2.1.size<=11/\(c.2.2=true->c.2.1.size=0)
 len:cs.length<=i
theorem LI.nil:LI 0 []:=⟨qdm,fun c h=>(by cases h),fun c h=>(by cases h),le_refl _⟩
theorem LI.skip {i:Nat} {cs:List Chg} (h:LI i cs) (hi:i < 6):LI (i+1) cs:=
 ⟨h.asc,fun c hc=>by rw [qjS hi]; exact List.mem_append_left _ (h.key c hc),h.val,Nat.le_succ_of_le h.len⟩
theorem LI.add {i:Nat} {cs:List Chg} (h:LI i cs) (hi:i < 6) {v:BA} {g:Bool} (hv:v.size<=11/\(g=true->v.size=0)):LI (i+1) (cs++[(q2x.getD i eB,(v,g))]) where
 asc:=List.pairwise_append.2 ⟨h.asc,List.pairwise_singleton ..,fun a ha b hb=>by
  rw [mem_singleton] at hb;subst hb;exact qul hi (h.key a ha)⟩
 key:=fun c hc=>by
  rw [qjS hi];rcases mem_append.1 hc with hc | hc
  ·exact List.mem_append_left _ (h.key c hc)
  ·rw [mem_singleton] at hc;subst hc;exact List.mem_append_right _ (mem_singleton.2 rfl)
 val:=fun c hc=>by
  rcases mem_append.1 hc with hc | hc
  ·exact h.val c hc
  ·rw [mem_singleton] at hc;subst hc;exact hv
 len:=by
  have:=h.len;rw [length_append,length_singleton]; omega
structure Gc (cs:List Chg):Prop where
 l1:1<=cs.length
 l6:cs.length<=6
 asc:AscK cs
 key:∀ c∈cs,1<=c.1.size/\c.1.size<=3
 val:∀ c∈cs,c.2.1.size<=11/\(c.2.2=true->c.2.1.size=0)
end Go.Den.S
namespace Go.Den.S
open Go Go.Den
open Classical
set_option maxRecDepth 4000
structure Rt (n:Nat) (e:Eng):Prop where
 ok:eOkP e
 len:e.1.length<=n+1
 seq:e.2.2.2.1<=(n:Int)
 room:(yR e.1:Int)<=e.2.1
theorem Rt.mono {n m:Nat} {e:Eng} (h:Rt n e) (k:n<=m):Rt m e:=⟨h.ok,by have:=h.len; omega,by have:=h.seq; omega,h.room⟩
theorem ql1 {e:Eng} (h:eOkP e) {cs:List Chg} (h0:(puO e cs).2.2=0):∃ xs x l',batT (e.2.2.2.1+1,cs)=true/\putA e.1 (segN e.1) (e.2.2.2.1+1,cs)=some xs/\allA e.1 xs x/\(yR x:Int)<=e.2.1/\Clean x l'/\allB x l'=allB e.1 (segN e.1)++[(e.2.2.2.1+1,cs)]/\puO e cs=(mkE x x e.2.1 l',(xs,0)):=by
 obtain ⟨r1,r2,C,_,hq,_⟩:=jJ h;unfold puO at h0 ⊢;by_cases hb:batT (e.2.2.2.1+1,cs)=true
 ·rw [dif_pos ⟨h,hb⟩] at h0 ⊢;cases hp:putA e.1 (segN e.1) (e.2.2.2.1+1,cs) with
  | none=>rw [hp] at h0; exact absurd h0 (show ¬ (2:Int)=0 by decide)
  | some xs=>
   rw [hp] at h0;rw [q6v] at h0 ⊢;cases hg:(decide ((qR e.1 xs).2 < xs.length)||decide ((yR (qR e.1 xs).1:Int) > e.2.1)) with
   | true=>rw [hg] at h0; exact absurd h0 (show ¬ (2:Int)=0 by decide)
   | false=>
    rw [Bool.or_eq_false_iff,decide_eq_false_iff_not,decide_eq_false_iff_not] at hg;have hle:=q6i xs e.1;have hall:allA e.1 xs (qR e.1 xs).1:=qij.2 (by omega)
    obtain ⟨l',C',ha⟩:=qoy C hb (by rw [hq]; show _ < zN _+1; omega) hp hall
    refine ⟨xs,_,l',hb,rfl,hall,by omega,C',ha,?_⟩
    simp only [cF];rw [qaE C' r1 r2]
 ·rw [dif_neg fun c=>hb c.2] at h0
  exact absurd h0 (show ¬ (1:Int)=0 by decide)
theorem quU {d x:List Fil} {l:List Nat} (C:Clean d l) {b:Bat} {xs:List Act} (ha:putA d l b=some xs) (hx:allA d xs x):x.length<=d.length+1:=by
 unfold putA at ha;split at ha
 ·have ha:=(Option.some.inj ha).symm;rw [ha] at hx;obtain ⟨t1,t2⟩:=C.txt (qbt C.ne);obtain ⟨d1,a1,hx⟩:=q2L hx;obtain ⟨_,o1⟩:=q9p a1 (q6y t1);have hs:=q6g C.asc o1;rw [q8z,qD,length_append,<- qW] at hs;obtain ⟨_,o2,b1,b2⟩:=qgn C (b:=b) t1 hs;have hx':=qbk (yx a1 hx) (yx b1 (yx b2 (je _)));rw [hx']; exact q1x _ _ _
 ·split at ha
  ·rename_i hm;have ha:=(Option.some.inj ha).symm;rw [ha] at hx;obtain ⟨d1,a1,hx⟩:=q2L hx;obtain ⟨_,o1⟩:=q9p a1 (q6F C.new);have hs:=q6g C.asc o1;rw [qD] at hs;have hl:=(qG.1 o1).1;rw [q8n,qlo C.new] at hl;obtain ⟨_,_,o3,b1,b2,b3⟩:=q3q C (by omega) hs (l.getLastD 0+1)
   have hx':=qbk (yx a1 hx) (yx b1 (yx b2 (yx b3 (je _))));rw [hx']; exact q1x _ _ _
  ·cases ha
theorem Rt.put {n:Nat} {e:Eng} (h:Rt n e) {cs:List Chg} (h0:(puO e cs).2.2=0):Rt (n+1) (puO e cs).1:=by
 obtain ⟨xs,x,l',hb,hp,hx,hs,C',ha,he⟩:=ql1 h.ok h0;obtain ⟨r1,r2,C,_,hq,_⟩:=jJ h.ok;have hlen:=quU C hp hx;have hn:=h.len;have hsq:=h.seq;rw [he];refine ⟨q6a.2 ⟨r1,r2,l',C',rfl⟩,by show x.length<=_; omega,?_,hs⟩
 show zN (allB x l')<=_;rw [ha,qsg];show e.2.2.2.1+1<=_;omega
end Go.Den.S
