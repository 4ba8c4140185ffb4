/- EhK: equations of the functions of this seat as the executor tells them, or plain facts about them. Conditions: none here. -/
import Derived.Test.YthejgmhimclmdaaGreatDoorEhF
set_option linter.all false
open Bool (false_eq_true not_eq_true)
open Int (toNat)
open List (append_nil drop_eq_getElem_cons drop_eq_nil_iff drop_zero filter_cons filter_nil foldl_cons length length_cons length_filter_le length_map length_pos_iff map_cons map_nil mem_filter nil_append singleton_append)
open Nat (le_refl le_trans zero_le)
open Option (map_some)
namespace Go.Den.S
open Go Go.Den
set_option maxRecDepth 4000
theorem pmk {α β:Type} (p:α×β):(p.1,p.2)=p:=rfl
theorem qjY (a b:BA):(!(blt a b||decide (a=b)))=blt b a:=by
 cases hb:blt b a with
 | true=>rw [q4J hb,dYF (zI hb).symm]; rfl
 | false=>
  by_cases hq:a=b
  ·rw [dYT hq,Bool.or_true]; rfl
  ·rw [q0D (fun h=>hq h.symm) hb]; rfl
theorem st2 (d:List Fil) (hn:d.length<=2000000) (f:Fil) (acc:List Fil) (i:Nat) (hi:i < d.length) (hI:acc.length<=d.length+1+i):jv (i:Int) d f.1 f.2.1 f.2.2 [] acc=jv ((i+1:Nat):Int) d f.1 f.2.1 f.2.2 [] (if blt f.1 (d.getD i dF).1=true then acc++[d.getD i dF] else acc):=by
 have k2:∀ i:Nat,decide (0<=(i:Int))=true:=fun i=>dYT (by omega)
 rw [q8e];have k1:decide ((i:Int) < (d.length:Int))=true:=dYT (by omega)
 have k4:w64 ((i:Int)+1)=((i+1:Nat):Int):=ql (by omega)
 have kl:lim (acc.length+1) 40=true:=qW (by omega)
 simp only [k1,k2,k4,aS,cT,tN,blt_eq,y5,qjY,kl,pmk];cases blt f.1 (d.getD i dF).1 with
 | true=>simp only [cT,if_true]
 | false=>simp only [cF,false_eq_true,if_false]
theorem en2 (d:List Fil) (f:Fil) (acc:List Fil):jv (d.length:Int) d f.1 f.2.1 f.2.2 [] acc=some (acc,()):=by
 rw [q8e];have k1:decide ((d.length:Int) < (d.length:Int))=false:=dYF (by omega)
 simp only [k1,cF]
theorem qp8 (d:List Fil) (hn:d.length<=2000000) (f:Fil):∀ (k i:Nat) (acc:List Fil),i+k=d.length->acc.length<=d.length+1+i->jv (i:Int) d f.1 f.2.1 f.2.2 [] acc=some (acc++(d.drop i).filter (fun x=>blt f.1 x.1),())
 | 0,i,acc,hi,ha=>by
  rw [show i=d.length by omega,en2,List.drop_length,filter_nil,append_nil]
 | k+1,i,acc,hi,ha=>by
  have hlt:i < d.length:=by omega
  rw [st2 d hn f acc i hlt ha,qp8 d hn f k (i+1) _ (by omega) (by split<;>(try rw [lA,lS])<;>omega),drop_eq_getElem_cons hlt,<- wT (d:=dF) hlt,filter_cons]
  split
  ·rw [pA,singleton_append]
  ·rfl
theorem st0 (d:List Fil) (hn:d.length<=2000000) (f:Fil) (acc:List Fil) (i:Nat) (hi:i < d.length) (hI:acc.length<=i):jr (i:Int) d f.1 f.2.1 f.2.2 [] acc=jr ((i+1:Nat):Int) d f.1 f.2.1 f.2.2 [] (if blt (d.getD i dF).1 f.1=true then acc++[d.getD i dF] else acc):=by
 have k2:∀ i:Nat,decide (0<=(i:Int))=true:=fun i=>dYT (by omega)
 rw [q8d];have k1:decide ((i:Int) < (d.length:Int))=true:=dYT (by omega)
 have k4:w64 ((i:Int)+1)=((i+1:Nat):Int):=ql (by omega)
 have kl:lim (acc.length+1) 40=true:=qW (by omega)
 simp only [k1,k2,k4,aS,cT,tN,blt_eq,pmk];rw [kl];cases blt (d.getD i dF).1 f.1 with
 | true=>simp only [cT,if_true]
 | false=>simp only [cF,false_eq_true,if_false]
theorem en0 (d:List Fil) (hn:d.length<=2000000) (f:Fil) (acc:List Fil) (ha:acc.length<=d.length):jr (d.length:Int) d f.1 f.2.1 f.2.2 [] acc=some ((acc++[f])++d.filter (fun x=>blt f.1 x.1),()):=by
 rw [q8d];have k1:decide ((d.length:Int) < (d.length:Int))=false:=dYF (by omega)
 have kl:lim (acc.length+1) 40=true:=qW (by omega)
 have h:=qp8 d hn f d.length 0 (acc++[f]) (by omega) (by rw [lA,lS]; omega)
 simp only [k1,cF,pmk];rw [kl];exact h
theorem qp7 (d:List Fil) (hn:d.length<=2000000) (f:Fil):∀ (k i:Nat) (acc:List Fil),i+k=d.length->acc.length<=i->jr (i:Int) d f.1 f.2.1 f.2.2 [] acc=some (((acc++(d.drop i).filter (fun x=>blt x.1 f.1))++[f])++d.filter (fun x=>blt f.1 x.1),())
 | 0,i,acc,hi,ha=>by
  rw [show i=d.length by omega,en0 d hn f acc (by omega),List.drop_length,filter_nil,append_nil]
 | k+1,i,acc,hi,ha=>by
  have hlt:i < d.length:=by omega
  rw [st0 d hn f acc i hlt ha,qp7 d hn f k (i+1) _ (by omega) (by split<;>(try rw [lA,lS])<;>omega),drop_eq_getElem_cons hlt,<- wT (d:=dF) hlt,filter_cons]
  split
  ·rw [pA acc,singleton_append]
  ·rfl
theorem q9O (d:List Fil) (hn:d.length<=2000000) (f:Fil):yC d f=some (putK f.1 f.2 d,()):=by
 rw [qim];refine (qp7 d hn f d.length 0 [] (by omega) (le_refl _)).trans ?_
 unfold putK;rw [nil_append,drop_zero,pA,singleton_append]
theorem stW (d:List Fil) (hn:d.length<=2000000) (k:BA) (acc:List Fil) (i:Nat) (hi:i < d.length) (hI:acc.length<=i):wY k (i:Int) d [] acc=wY k ((i+1:Nat):Int) d [] (if decide ((d.getD i dF).1≠k)=true then acc++[d.getD i dF] else acc):=by
 have k2:∀ i:Nat,decide (0<=(i:Int))=true:=fun i=>dYT (by omega)
 rw [q4W];have k1:decide ((i:Int) < (d.length:Int))=true:=dYT (by omega)
 have k4:w64 ((i:Int)+1)=((i+1:Nat):Int):=ql (by omega)
 have kl:lim (acc.length+1) 40=true:=qW (by omega)
 simp only [k1,k2,k4,aS,cT,tN,y5,kl,pmk];by_cases hq:(d.getD i dF).1=k
 ·rw [dYT hq,if_neg (fun h=>(of_decide_eq_true h:(d.getD i dF).1≠k) hq)]; rfl
 ·rw [dYF hq,if_pos (dYT hq)]; rfl
theorem enW (d:List Fil) (k:BA) (acc:List Fil):wY k (d.length:Int) d [] acc=some (acc,()):=by
 rw [q4W];have k1:decide ((d.length:Int) < (d.length:Int))=false:=dYF (by omega)
 simp only [k1,cF]
theorem qhw (d:List Fil) (hn:d.length<=2000000) (n:BA):∀ (k i:Nat) (acc:List Fil),i+k=d.length->acc.length<=i->wY n (i:Int) d [] acc=some (acc++delK n (d.drop i),())
 | 0,i,acc,hi,ha=>by
  rw [show i=d.length by omega,enW,List.drop_length]
  show _=some (acc++[],());rw [append_nil]
 | k+1,i,acc,hi,ha=>by
  have hlt:i < d.length:=by omega
  rw [stW d hn n acc i hlt ha,qhw d hn n k (i+1) _ (by omega) (by split<;>(try rw [lA,lS])<;>omega),drop_eq_getElem_cons hlt,<- wT (d:=dF) hlt]
  unfold delK;rw [filter_cons];split
  ·rw [pA,singleton_append]
  ·rfl
theorem qcm (d:List Fil) (hn:d.length<=2000000) (k:BA):yF d k=some (delK k d,()):=by
 rw [qdF];refine (qhw d hn k d.length 0 [] (by omega) (le_refl _)).trans ?_
 rw [nil_append,drop_zero]
abbrev dB:Bat:=(0,[])
theorem qfx {s:BA} {b:Bat} (h:jC s=some b):rbO s=(b,true):=by unfold rbO; rw [h]
theorem qfw {s:BA} (h:jC s=none):rbO s=((0,[]),false):=by unfold rbO; rw [h]
theorem qd3 {s:BA} (h:frOk s):frO s=(bOf (frL s),true):=by
 have h:1<=s.size/\s.size<=9000:=h;unfold frO;rw [if_pos h]
theorem qaL {s:BA} (h:frOk s):(frL s).length<=9009:=by
 rw [qe0];have:=wB (show s.size<=1000000000 by have:=h.2; omega)
 have:=h.2;omega
noncomputable def rsO (n:Nat) (t:BA):Int×List Bat×Int×Bool:=match segR n t with
 | none=>(0,([],(0,false)))
 | some x=>((x.1:Int),(x.2,((qdw n x:Int),true)))
theorem qj3 {α:Type} (acc:List α) (b d:α):(acc++[b]).getD ((acc++[b]).length - 1) d=b:=by
 rw [lA,lS,Nat.add_sub_cancel,List.getD_eq_getElem?_getD,List.getElem?_append_right (le_refl _),Nat.sub_self]; rfl
theorem qcq (l:List BA) (hl:∀ s∈l,frOk s) (hn:l.length<=30000) (f:Int):∀ (ts:List BA) (i:Nat) (acc:List Bat) (e:Nat) (q:Int),l.drop i=ts->i<=l.length->acc.length<=i->e<=i * 10000+10000->(acc=[]->q=-1)->(acc≠[]->(acc.getD (acc.length - 1) dB).1=q)->
  j4 acc l f (e:Int) (i:Int)=some ((f,(acc++takeB q ts,(((e+(bats (takeB q ts)).length:Nat):Int),true))),())
 | [],i,acc,e,q,hd,hi,ha,he,hq0,hq=>by
  have:=drop_eq_nil_iff.1 hd;rw [q4f];have k1:decide ((i:Int) < (l.length:Int))=false:=dYF (by omega)
  simp only [k1,cF,takeB,append_nil];rfl
 | s::ts,i,acc,e,q,hd,hi,ha,he,hq0,hq=>by
  obtain ⟨e1,hlt,e2⟩:=qV eB hd;have hf:frOk s:=hl s (yM hd);rw [q4f];have k1:decide ((i:Int) < (l.length:Int))=true:=dYT (by omega)
  have k2:decide (0<=(i:Int))=true:=dYT (by omega)
  have k4:w64 ((i:Int)+1)=((i+1:Nat):Int):=ql (by omega)
  have hfl:=qaL hf;have k5:w64 ((e:Int)+((frL s).length:Int))=((e+(frL s).length:Nat):Int):=qo (by omega) (by omega)
  have kl:lim (acc.length+1) 32=true:=qW (by omega)
  simp only [k1,k2,k4,aS,cT,tN,e1,qeB s (by have:=hf.2; omega),oB,q1h,qd3 hf,qz,k5,pmk]
  rw [kl];simp only [cT];have stop:∀ tb:List Bat,tb=[]->some ((f,(acc,((e:Int),true))),())=some ((f,(acc++tb,(((e+(bats tb).length:Nat):Int),true))),()):=fun tb h=>by
   rw [h,append_nil]; rfl
  cases hb:jC s with
  | none=>
   rw [qfw hb];simp only [nF,cT];exact stop _ (by simp only [takeB,hb])
  | some b=>
   rw [qfx hb];simp only [nT,cF];have hbt:=(q0F.1 hb).1;have hb0:=(qaD hbt).1;have hsx:=qfy hb;have go:q < b.1->j4 (acc++[b]) l f ((e+(frL s).length:Nat):Int) ((i+1:Nat):Int)=some ((f,(acc++takeB q (s::ts),(((e+(bats (takeB q (s::ts))).length:Nat):Int),true))),()):=fun h=>by
    rw [qcq l hl hn f ts (i+1) (acc++[b]) (e+(frL s).length) b.1 e2 hlt (by rw [lA,lS]; omega) (by rw [Nat.succ_mul]; omega) (fun h=>by simp at h) (fun _=>by rw [qj3])]
    have ht:takeB q (s::ts)=b::takeB b.1 ts:=by simp only [takeB,hb,if_pos h]
    rw [ht,q71,lA,show batL b=frL s by unfold batL; rw [<- hsx],pA,singleton_append,Nat.add_assoc]
   by_cases h0:acc=[]
   ·have hz:decide ((acc.length:Int) > 0)=false:=dYF (by rw [h0]; decide)
    simp only [hz,cF];exact go (by rw [hq0 h0]; omega)
   ·have hpos:0 < acc.length:=length_pos_iff.2 h0;have hz:decide ((acc.length:Int) > 0)=true:=dYT (by omega)
    have w1:w64 ((acc.length:Int) - 1)=((acc.length - 1:Nat):Int):=(qo (by omega) (by omega)).trans (by omega)
    have q1:decide (0<=((acc.length - 1:Nat):Int))=true:=dYT (by omega)
    have q2:decide (((acc.length - 1:Nat):Int) < (acc.length:Int))=true:=dYT (by omega)
    simp only [hz,cT,w1,q1,q2,aS,tN,hq h0];by_cases hlt2:q < b.1
    ·simp only [dYF (show ¬ q>=b.1 by omega),cF]
     exact go hlt2
    ·simp only [dYT (show q>=b.1 by omega),cT]
     exact stop _ (by simp only [takeB,hb,if_neg hlt2])
theorem qiu (t:BA):(unO t).1.length<=20000:=by
 unfold unO;split
 ·rename_i h;obtain ⟨r,_,_,e,_⟩:=qdK (bl t);have h1:=congrArg length e;rw [lA,<- yj] at h1;have:=qnq (ts:=(unfr (bl t)).1);show (unfr (bl t)).1.length<=_;omega
 ·exact zero_le _
theorem qba (n:Nat) (hn:n<=99) (t:BA):segR n t=match (unO t).1 with
  | []=>none
  | h::ts=>(hdOf n h).map fun f=>(f,takeB (-1) ts):=by
 unfold segR unO;by_cases h:t.size<=20000
 ·rw [if_pos ⟨h,hn⟩,if_pos h]; rfl
 ·rw [if_neg (fun x=>h x.1),if_neg h]
theorem jR (n:Nat) (hn:n<=99) (t:BA):jh (n:Int) t=some (rsO n t,()):=by
 rw [qcC];have hU:q5M t=some (unO t,()):=qh8 t;rw [hU,jg];have hin:inB (n:Int) 0 99=true:=by rw [q1u,dYT (by omega)]
 simp only [oB,hin,nT,cF];unfold rsO;rw [qba n hn];have hlen:=qiu t;have hfr:∀ s∈(unO t).1,frOk s:=fun s hs=>qht hs
 generalize (unO t).1=L at *;cases L with
 | nil=>rfl
 | cons h ts=>
  have hf:frOk h:=hfr h (List.mem_cons_self ..);have k1:((((h::ts).length:Nat):Int)==0)=false:=by
   rw [<- not_eq_true,beq_iff_eq,length_cons]; omega
  have k2:decide ((0:Int) < (((h::ts).length:Nat):Int))=true:=dYT (by rw [length_cons]; omega)
  have hl:=qaL hf;simp only [k1,cF,show decide ((0:Int)<=0)=true from rfl,k2,aS,cT,show List.getD (h::ts) (toNat 0) eB=h from rfl,qnI n hn h (by have:=hf.2; omega),oB,q1h,qd3 hf,qz]
  cases hx:hdOf n h with
  | none=>rfl
  | some f=>
   simp only [nT,cF,map_some];have:=qcq (h::ts) hfr (by omega) (f:Int) ts 1 [] (frL h).length (-1) rfl (by rw [length_cons]; omega) (zero_le _) (by omega) (fun _=>rfl) (fun h=>absurd rfl h)
   refine Eq.trans this ?_;have hh:qL n f=frL h:=by unfold qL; rw [(q3l.1 hx).2]
   unfold qdw;rw [hh,nil_append]
abbrev Pla:=Bat×(Int×Int)
abbrev dP:Pla:=((0,[]),(0,0))
noncomputable def plB:Nat->List Bat->List Pla
 | _,[]=>[]
 | a,b::r=>(b,((a:Int),((batL b).length:Int)))::plB (a+(batL b).length) r
noncomputable def plO (n:Nat) (t:BA):Int×List Pla×Bool:=match segR n t with
 | none=>(0,([],false))
 | some x=>((x.1:Int),(plB (qL n x.1).length x.2,true))
theorem qdm (l:List BA) (hl:∀ s∈l,frOk s) (hn:l.length<=30000) (f:Int):∀ (ts:List BA) (i:Nat) (acc:List Pla) (e:Nat) (q:Int),l.drop i=ts->i<=l.length->acc.length<=i->e<=i * 10000+10000->(acc=[]->q=-1)->(acc≠[]->(acc.getD (acc.length - 1) dP).1.1=q)->
  jW f (e:Int) acc l (l.length:Int) (i:Int)=some ((f,(acc++plB e (takeB q ts),true)),())
 | [],i,acc,e,q,hd,hi,ha,he,hq0,hq=>by
  have:=drop_eq_nil_iff.1 hd;rw [q61];have k1:decide ((i:Int) < (l.length:Int))=false:=dYF (by omega)
  simp only [k1,cF,takeB,plB,append_nil]
 | s::ts,i,acc,e,q,hd,hi,ha,he,hq0,hq=>by
  obtain ⟨e1,hlt,e2⟩:=qV eB hd;have hf:frOk s:=hl s (yM hd);rw [q61];have k1:decide ((i:Int) < (l.length:Int))=true:=dYT (by omega)
  have k2:decide (0<=(i:Int))=true:=dYT (by omega)
  have k4:w64 ((i:Int)+1)=((i+1:Nat):Int):=ql (by omega)
  have hfl:=qaL hf;have k5:w64 ((e:Int)+((frL s).length:Int))=((e+(frL s).length:Nat):Int):=qo (by omega) (by omega)
  have kl:lim (acc.length+1) 48=true:=qW (by omega)
  simp only [k1,k2,k4,aS,cT,tN,e1,q86 s (by have:=hf.2; omega),oB,q7Q,qd3 hf,qz,k5,pmk]
  rw [kl];simp only [cT];have stop:∀ tb:List Bat,tb=[]->some ((f,(acc,true)),())=some ((f,(acc++plB e tb,true)),()):=fun tb h=>by
   rw [h]; simp only [plB,append_nil]
  cases hb:jC s with
  | none=>
   rw [qfw hb];simp only [nF,cT];exact stop _ (by simp only [takeB,hb])
  | some b=>
   rw [qfx hb];simp only [nT,cF];have hbt:=(q0F.1 hb).1;have hb0:=(qaD hbt).1;have hsx:=qfy hb;have go:q < b.1->jW f ((e+(frL s).length:Nat):Int) (acc++[(b,((e:Int),((frL s).length:Int)))]) l (l.length:Int) ((i+1:Nat):Int)=some ((f,(acc++plB e (takeB q (s::ts)),true)),()):=fun h=>by
    rw [qdm l hl hn f ts (i+1) _ (e+(frL s).length) b.1 e2 hlt (by rw [lA,lS]; omega) (by rw [Nat.succ_mul]; omega) (fun h=>by simp at h) (fun _=>by rw [qj3])]
    have ht:takeB q (s::ts)=b::takeB b.1 ts:=by simp only [takeB,hb,if_pos h]
    have hB:batL b=frL s:=by unfold batL; rw [<- hsx]
    rw [ht];simp only [plB,hB,pA,singleton_append]
   by_cases h0:acc=[]
   ·have hz:decide ((acc.length:Int) > 0)=false:=dYF (by rw [h0]; decide)
    simp only [hz,cF];exact go (by rw [hq0 h0]; omega)
   ·have hpos:0 < acc.length:=length_pos_iff.2 h0;have hz:decide ((acc.length:Int) > 0)=true:=dYT (by omega)
    have w1:w64 ((acc.length:Int) - 1)=((acc.length - 1:Nat):Int):=(qo (by omega) (by omega)).trans (by omega)
    have q1:decide (0<=((acc.length - 1:Nat):Int))=true:=dYT (by omega)
    have q2:decide (((acc.length - 1:Nat):Int) < (acc.length:Int))=true:=dYT (by omega)
    simp only [hz,cT,w1,q1,q2,aS,tN,hq h0];by_cases hlt2:q < b.1
    ·simp only [dYF (show ¬ b.1<=q by omega),cF]
     exact go hlt2
    ·simp only [dYT (show b.1<=q by omega),cT]
     exact stop _ (by simp only [takeB,hb,if_neg hlt2])
theorem qaf (n:Nat) (hn:n<=99) (t:BA):q2H (n:Int) t=some (plO n t,()):=by
 rw [qfo,q9I n hn,q5e];simp only [oB];unfold plO hoO;rw [qba n hn];have hlen:=qiu t;have hfr:∀ s∈(unO t).1,frOk s:=fun s hs=>qht hs
 generalize (unO t).1=L at *;cases L with
 | nil=>rfl
 | cons h ts=>
  cases hx:hdOf n h with
  | none=>simp only [hx]; rfl
  | some f=>
   have k2:decide ((1:Int)<=(((h::ts).length:Nat):Int))=true:=dYT (by rw [length_cons]; omega)
   have e1:List.take ts.length (List.drop (toNat 1) (h::ts))=ts:=List.take_length;have e2:(h::ts).length - toNat 1=ts.length:=by
    show (h::ts).length - 1=_;rw [length_cons,Nat.add_sub_cancel]
   simp only [hx,nT,cF,show decide ((0:Int)<=1)=true from rfl,k2,dYT (Int.le_refl (((h::ts).length:Nat):Int)),aS,cT,tN,e1,e2,map_some]
   have hh:(qL n f).length<=9009:=by
    have:qL n f=frL h:=by unfold qL; rw [(q3l.1 hx).2]
    rw [this]; exact qaL (hfr h (List.mem_cons_self ..))
   exact qdm ts (fun s hs=>hfr s (List.mem_cons_of_mem _ hs)) (by rw [length_cons] at hlen; omega) (f:Int) ts 0 [] (qL n f).length (-1) rfl (zero_le _) (le_refl _) (by omega) (fun _=>rfl) (fun h=>absurd rfl h)
theorem qfQ (l:List Int) (hl:l.length<=1000000) (k:Int):zP l (k,())=some (l.filter (fun n=>!decide (n < k)),((),())):=by
 rw [q4X,q5t];have hi:=q4w (fun i=>wO l (l.length:Int) i k) (fun n:Int=>decide (n < k)) 0 l (fun n=>some (n,((),())))
  (fun i hi=>by
   conv=>lhs; rw [q0G]
   have e1:decide ((i:Int) < (l.length:Int))=true:=dYT (by omega)
   have e2:decide (0<=(i:Int))=true:=dYT (by omega)
   have e3:w64 ((i:Int)+1)=((i+1:Nat):Int):=ql (by omega)
   simp only [e1,e2,e3,aS,cT,tN,q7g,oB])
  (by
   show wO l (l.length:Int) (l.length:Int) k=_;rw [q0G];simp only [Int.lt_irrefl,decide_false,cF])
 rw [hi];simp only [oB];rcases q7b (fun n:Int=>decide (n < k)) l 0 with ⟨h1,h2⟩ | ⟨j,h1,h2,h3,h4⟩
 ·rw [h1,filter_none h2]; rfl
 ·rw [h2];have hne:((((0+j:Nat):Int))==-1)=false:=by
   rw [<- not_eq_true,beq_iff_eq]; omega
  rw [hne,cF,Nat.zero_add,show w64 ((j:Int)+1)=((j+1:Nat):Int) from ql (by omega)]
  exact qqZ (fun xs i j=>w9 xs i j k) (fun n:Int=>decide (n < k)) 0 l (fun l=>some (l,((),())))
   (fun xs i j hj hij hxs _=>by
    conv=>lhs; rw [q0t]
    have e1:decide ((j:Int) < (xs.length:Int))=true:=dYT (by omega)
    have e2:decide (0<=(j:Int))=true:=dYT (by omega)
    have e3:w64 ((j:Int)+1)=((j+1:Nat):Int):=ql (by omega)
    have e4:w64 ((i:Int)+1)=((i+1:Nat):Int):=ql (by omega)
    have e5:decide ((i:Int) < (xs.length:Int))=true:=dYT (by omega)
    have e6:decide (0<=(i:Int))=true:=dYT (by omega)
    simp only [e1,e2,e3,e4,e5,e6,aS,cT,tN,q7g,oB])
   (fun xs i hi hxs=>by
    show w9 xs (i:Int) (l.length:Int) k=_;rw [q0t,<- hxs];have hz:(((List.take i xs)++(List.replicate (xs.length - i) (0:Int)))++(List.drop xs.length xs)).length=xs.length:=by
     simp only [lA,List.length_take,List.length_replicate,List.length_drop]; omega
    simp only [Int.lt_irrefl,decide_false,cF,dYT (show (0:Int)<=(i:Int) by omega),dYT (show (i:Int)<=(xs.length:Int) by omega),Int.le_refl,decide_true,aS,cT,tN,hz,show toNat 0=0 from rfl,Nat.sub_zero,drop_zero]
    rw [pA,List.take_append_of_le_length (by rw [List.length_take]; omega),List.take_take,Nat.min_self])
   j h1 h3 h4
def natI (l:List Nat):List Int:=List.map (fun n:Nat=>(n:Int)) l
theorem q0m {l:List Nat} {i:Nat} (h:i < l.length):(natI l).getD i 0=((l.getD i 0:Nat):Int):=by
 unfold natI;rw [List.getD_eq_getElem?_getD,List.getD_eq_getElem?_getD,List.getElem?_map,List.getElem?_eq_getElem h]; rfl
noncomputable def sgO (d:List Fil):List Int×Bool:=match segs d with
 | some l=>(natI l,true)
 | none=>([],false)
theorem q1y {d:List Fil} (h:dOkB d=true) {f:Fil} (hf:f∈d):f.1.size<=8/\f.2.1.size<=20000:=by
 have:=q03.1 ((qK.1 h).2.1 f hf); omega
theorem qmw (n:Nat) (hn:n<=99) (t:BA):(hoO n t).2.2=(segR n t).isSome/\(hoO n t).1=((((segR n t).map (·.1)).getD 0:Nat):Int):=by
 rw [qba n hn];unfold hoO;cases (unO t).1 with
 | nil=>exact ⟨rfl,rfl⟩
 | cons h r=>
  cases hx:hdOf n h with
  | none=>simp only [hx]; exact ⟨rfl,rfl⟩
  | some f=>simp only [hx]; exact ⟨rfl,rfl⟩
theorem qpi {d:List Fil} (h:AscK d) {n:Nat} {f:Fil} (hf:f∈d) (e:nmL n=f.1):segD d n=segR n f.2.1:=by
 unfold segD;rw [e,(yO h).2 (show (f.1,f.2)∈d from hf)]; rfl
noncomputable def q1d (d:List Fil):List Nat:=d.filterMap fun f=>numOf f.1
theorem q2T (d:List Fil) (h:dOkB d=true):∀ (r:List Fil) (i:Nat) (acc:List Int) (m:Nat),d.drop i=r->i<=d.length->acc.length<=i->m<=99->
  ∃ m':Nat,q0V acc d (d.length:Int) (i:Int) d (m:Int)=(q1O (acc++natI (q1d r))).bind (fun r8=>(zP r8.2.1 ((m':Int),())).bind fun r9=>q0W (r9.1.length:Int) 0 d r9.1)/\m<=m'/\m'<=99/\(∀ n,n < 100->nmL n∈r.map (·.1)->hdD d n<=m')/\(m'=m\/∃ n,n < 100/\hdD d n=m')
 | [],i,acc,m,hd,hi,ha,hm=>by
  have:=drop_eq_nil_iff.1 hd;rw [q5V];have k1:decide ((i:Int) < (d.length:Int))=false:=dYF (by omega)
  simp only [k1,cF];exact ⟨m,by simp only [q1d,natI,List.filterMap_nil,map_nil,append_nil],le_refl _,hm,fun n _ h=>by simp at h,.inl rfl⟩
 | f::r,i,acc,m,hd,hi,ha,hm=>by
  obtain ⟨e1,hlt,e2⟩:=qV dF hd;have hfd:=yM hd;have hsz:=q1y h hfd;have hl30:=(qK.1 h).1;have hasc:=(qK.1 h).2.2;rw [q5V];have k1:decide ((i:Int) < (d.length:Int))=true:=dYT (by omega)
  have k2:decide (0<=(i:Int))=true:=dYT (by omega)
  have k4:w64 ((i:Int)+1)=((i+1:Nat):Int):=ql (by omega)
  have kl:lim (acc.length+1) 8=true:=qW (by omega)
  simp only [k1,k2,k4,aS,cT,tN,e1,qdx f.1 (by omega),oB]
  rw [kl];rcases q3J f.1 with ⟨q1,q2⟩ | ⟨n,hn,q1,q2,q3⟩
  ·rw [q1];simp only [show decide ((-1:Int) < 0)=true from rfl,cT]
   obtain ⟨m',p1,p2,p3,p4,p5⟩:=q2T d h r (i+1) acc m e2 hlt (by omega) hm
   refine ⟨m',?_,p2,p3,fun n hn hmem=>?_,p5⟩
   ·rw [p1];simp only [q1d,List.filterMap_cons,q2]
   ·rw [map_cons] at hmem;rcases List.mem_cons.1 hmem with e | hmem
    ·rw [<- e,qdj hn] at q2; cases q2
    ·exact p4 n hn hmem
  ·rw [q1];simp only [dYF (show ¬ (n:Int) < 0 by omega),cF,cT,q9I n (by omega),oB]
   have hseg:=qpi hasc hfd q3;have hhd:(hoO n f.2.1).1=((hdD d n:Nat):Int):=by
    rw [(qmw n (by omega) f.2.1).2]
    unfold hdD;rw [hseg]
   have hle:=qd4 d n;have hmx:(bif decide ((hoO n f.2.1).1 > (m:Int)) then (hoO n f.2.1).1 else (m:Int))=((max m (hdD d n):Nat):Int):=by
    rw [hhd];by_cases hgt:m < hdD d n
    ·rw [dYT (by omega),cT]; omega
    ·rw [dYF (by omega),cF]; omega
   rw [hmx];obtain ⟨m',p1,p2,p3,p4,p5⟩:=q2T d h r (i+1) (acc++[(n:Int)]) (max m (hdD d n)) e2 hlt (by rw [lA,lS]; omega) (by omega)
   refine ⟨m',?_,by omega,p3,fun x hx hmem=>?_,?_⟩
   ·rw [p1];simp only [q1d,natI,List.filterMap_cons,q2,map_cons,pA,singleton_append]
   ·rw [map_cons] at hmem;rcases List.mem_cons.1 hmem with e | hmem
    ·have:x=n:=q4S hx hn (by rw [e,q3])
     subst this;omega
    ·exact p4 x hx hmem
   ·rcases p5 with p5 | p5
    ·by_cases hgt:m < hdD d n
     ·exact .inr ⟨n,hn,by omega⟩
     ·exact .inl (by omega)
    ·exact .inr p5
theorem qkR {d:List Fil} (h:AscK d) {n:Nat}:n∈q1d d↔n < 100/\hasN d n=true:=by
 unfold q1d hasN;rw [List.mem_filterMap];constructor
 ·rintro ⟨f,hf,hn⟩
  obtain ⟨h1,h2⟩:=q2g.1 hn;exact ⟨h1,by rw [h2,(yO h).2 (show (f.1,f.2)∈d from hf)]; rfl⟩
 ·rintro ⟨h1,h2⟩
  obtain ⟨v,hv⟩:=Option.isSome_iff_exists.1 h2;exact ⟨_,(yO h).1 hv,qdj h1⟩
theorem qoI {d:List Fil} {n:Nat} (h:hasN d n=false):hdD d n=0:=by
 unfold hdD segD;unfold hasN at h;cases hg:getK (nmL n) d with
 | none=>rfl
 | some v=>rw [hg] at h; cases h
theorem qnW {d:List Fil} (h:AscK d):(q1d d).Nodup:=by
 unfold q1d List.Nodup;rw [List.pairwise_filterMap];refine h.imp fun {a b} hab n hn m hm e=>?_
 subst e;have h1:=(q2g.1 hn).2;have h2:=(q2g.1 hm).2;exact zI hab (h1.symm.trans h2)
theorem qpp {d:List Fil} (h:AscK d):(q37 (natI (q1d d))).filter (fun n=>!decide (n < (least d:Int)))=natI (segN d):=by
 rw [q94];have hp:=List.mergeSort_perm (natI (q1d d)) (fun x y=>decide (x<=y))
 have hs:=List.pairwise_mergeSort (le:=fun x y:Int=>decide (x<=y)) (fun a b c h1 h2=>by simp at h1 h2 ⊢; omega) (fun a b=>by simp; omega) (natI (q1d d))
 have hnd:(natI (q1d d)).Nodup:=by
  unfold natI List.Nodup;rw [List.pairwise_map];exact (qnW h).imp fun hab e=>hab (by omega)
 have hnd2:=hp.nodup_iff.2 hnd;have hs2:((natI (q1d d)).mergeSort fun x y=>decide (x<=y)).Pairwise (fun a b=>decide (a < b)=true):=(hs.and hnd2).imp fun ⟨h1,h2⟩=>by
  simp only [decide_eq_true_eq] at h1 ⊢;omega
 refine qdQ (lt:=fun a b:Int=>decide (a < b)) (fun a=>by simp) (fun a b h=>by simp at h ⊢; omega) (hs2.filter _) ?_ fun x=>?_
 ·unfold natI;rw [List.pairwise_map];exact (q4u d).imp fun h=>by simp only [decide_eq_true_eq]; omega
 ·rw [mem_filter,hp.mem_iff];unfold natI;simp only [List.mem_map,Bool.not_eq_true',decide_eq_false_iff_not];constructor
  ·rintro ⟨⟨n,hn,rfl⟩,hx⟩
   obtain ⟨q1,q2⟩:=(qkR h).1 hn;exact ⟨n,q0l.2 ⟨q1,q2,by omega⟩,rfl⟩
  ·rintro ⟨n,hn,rfl⟩
   obtain ⟨q1,q2,q3⟩:=q0l.1 hn;exact ⟨⟨n,(qkR h).2 ⟨q1,q2⟩,rfl⟩,by omega⟩
theorem q8K {d:List Fil} {n:Nat} (hn:n < 100) (h:hasN d n=true):segD d n=segR n (faO d (nmL n)).1:=by
 unfold segD faO;unfold hasN at h;cases hg:getK (nmL n) d with
 | none=>rw [hg] at h; cases h
 | some v=>rfl
theorem q5X (d:List Fil) (h:dOkB d=true) (l:List Nat) (hl:l.length<=100) (hm:∀ n∈l,n < 100/\hasN d n=true):∀ (r:List Nat) (i:Nat),l.drop i=r->i<=l.length->
  q0W ((natI l).length:Int) (i:Int) d (natI l)=some ((if r.all (fun n=>(segD d n).isSome)=true/\l≠[] then (natI l,true) else ([],false)),())
 | [],i,hd,hi=>by
  have:=drop_eq_nil_iff.1 hd;have hll:(natI l).length=l.length:=length_map ..;rw [q5W,hll];have k1:decide ((i:Int) < (l.length:Int))=false:=dYF (by omega)
  simp only [k1,cF];by_cases h0:l=[]
  ·subst h0; rfl
  ·have hpos:0 < l.length:=length_pos_iff.2 h0;have k3:((l.length:Int)==0)=false:=by rw [<- not_eq_true,beq_iff_eq]; omega
   simp only [k3,cF];rw [if_pos ⟨rfl,h0⟩]
 | n::r,i,hd,hi=>by
  obtain ⟨e1,hlt,e2⟩:=qV 0 hd;obtain ⟨hn,hh⟩:=hm n (yM hd);have hll:(natI l).length=l.length:=length_map ..;have eI:(natI l).getD i 0=(n:Int):=by rw [q0m hlt,e1]
  have ih:=q5X d h l hl hm r (i+1) e2 hlt;have hl30:=(qK.1 h).1;rw [q5W];rw [hll] at ih ⊢;have k1:decide ((i:Int) < (l.length:Int))=true:=dYT (by omega)
  have k2:decide (0<=(i:Int))=true:=dYT (by omega)
  have k4:w64 ((i:Int)+1)=((i+1:Nat):Int):=ql (by omega)
  simp only [k1,k2,k4,aS,cT,tN,eI,q0b,q0d hn,q27 d (by omega),q9I n (by omega),oB,(qmw n (by omega) _).1,<- q8K hn hh,List.all_cons]
  by_cases hs:(segD d n).isSome=true
  ·simp only [hs,nT,cF,ih,Bool.true_and]
  ·have hs:(segD d n).isSome=false:=by simpa using hs
   simp only [hs,nF,cT,Bool.false_and];rw [if_neg (fun hx=>by cases hx.1)]
theorem qmS (d:List Fil) (h:dOkB d=true):sgO d=if (segN d).all (fun n=>(segD d n).isSome)=true/\segN d≠[] then (natI (segN d),true) else ([],false):=by
 unfold sgO segs;by_cases hc:(segN d).all (fun n=>(segD d n).isSome)=true/\segN d≠[]
 ·rw [if_pos hc,if_pos];simp only [h,hc.1,Bool.true_and,Bool.and_true,Bool.not_eq_true',List.isEmpty_eq_false_iff];exact hc.2
 ·rw [if_neg hc,if_neg];intro hx;simp only [Bool.and_eq_true,Bool.not_eq_true',List.isEmpty_eq_false_iff] at hx;exact hc ⟨hx.2.2,hx.2.1⟩
theorem qpl (d:List Fil) (h:dOkB d=false):sgO d=([],false):=by
 unfold sgO segs;rw [h,Bool.false_and,if_neg (by decide)]
theorem q4B (d:List Fil) (hn:d.length<=1000000000):q2G d=some (sgO d,()):=by
 rw [qfi,zN d hn];simp only [oB];cases h:dOkB d with
 | false=>rw [qpl d h]; rfl
 | true=>
  have hasc:=(qK.1 h).2.2;have hl30:=(qK.1 h).1;obtain ⟨m',p1,_,_,p4,p5⟩:=q2T d h d 0 [] 0 rfl (zero_le _) (le_refl _) (by omega)
  have hleast:m'=least d:=by
   refine (qq7 (fun n hn=>?_) ?_).symm
   ·cases hh:hasN d n with
    | false=>rw [qoI hh]; exact zero_le _
    | true=>
     refine p4 n hn ?_;unfold hasN at hh;obtain ⟨v,hv⟩:=Option.isSome_iff_exists.1 hh;exact List.mem_map.2 ⟨_,(yO hasc).1 hv,rfl⟩
   ·rcases p5 with p5 | p5
    ·exact .inl p5
    ·exact .inr p5
  have hpl:(q1d d).length<=30:=le_trans (List.length_filterMap_le ..) hl30;have hnl:(natI (q1d d)).length=(q1d d).length:=length_map ..;simp only [nT,cF];refine Eq.trans p1 ?_;rw [nil_append,q8s,hleast];unfold qdA;simp only [dYT (show (natI (q1d d)).length < 4611686018427387904 by omega),cT,oB]
  have hsl:(q37 (natI (q1d d))).length<=1000000:=by
   rw [q94,List.length_mergeSort]; omega
  rw [qfQ _ hsl,qpp hasc];simp only [oB];have hsn:(segN d).length<=100:=by
   unfold segN;exact le_trans (length_filter_le ..) (by simp)
  have:=q5X d h (segN d) hsn (fun n hn=>⟨(q0l.1 hn).1,(q0l.1 hn).2.1⟩) (segN d) 0 rfl (zero_le _)
  rw [qmS d h];exact this
theorem qef (n:Nat) (t:BA):(rsO n t).2.2.2=(segR n t).isSome/\(rsO n t).1=((((segR n t).map (·.1)).getD 0:Nat):Int):=by
 unfold rsO;cases segR n t<;>exact ⟨rfl,rfl⟩
theorem qof (d:List Fil) (n:Nat):(idxI (fun f:Fil=>decide (f.1=nmL n)) d 0=-1/\hasN d n=false)\/∃ m,m < d.length/\idxI (fun f:Fil=>decide (f.1=nmL n)) d 0=(m:Int)/\hasN d n=true/\segD d n=segR n (d.getD m dF).2.1:=by
 rcases q0j d (nmL n) with ⟨h1,h2⟩ | ⟨m,h1,h2,h3,_⟩
 ·exact .inl ⟨h1,by unfold hasN; rw [h2]; rfl⟩
 ·exact .inr ⟨m,h1,h2,by unfold hasN; rw [h3]; rfl,by unfold segD; rw [h3]; rfl⟩
theorem q64 (d:List Fil) (h:d.length<=30):∀ (k i m:Nat),i+k=100->m<=99->ji [] (m:Int) (i:Int) d=jY [] (((List.range' i k).foldl (fun m n=>max m (hdD d n)) m:Nat):Int) d
 | 0,i,m,hi,_=>by
  rw [q63];have k1:decide ((i:Int)<=99)=false:=dYF (by omega)
  simp only [k1,cF];rfl
 | k+1,i,m,hi,hm=>by
  rw [q63];have k1:decide ((i:Int)<=99)=true:=dYT (by omega)
  have k4:w64 ((i:Int)+1)=((i+1:Nat):Int):=ql (by omega)
  have hle:=qd4 d i;have ih:=fun m' hm'=>q64 d h k (i+1) m' (by omega) hm'
  simp only [k1,cT,k4,zC,q0d (show i < 100 by omega),q4C d (by omega),oB]
  rw [List.range'_succ,foldl_cons];rcases qof d i with ⟨q1,q2⟩ | ⟨j,hj,q1,q2,q3⟩
  ·rw [q1,qoI q2,Nat.max_eq_left (zero_le _)];simp only [show decide ((-1:Int) < 0)=true from rfl,cT]
   exact ih m hm
  ·rw [q1];have hhd:hdD d i=(((segR i (d.getD j dF).2.1).map (·.1)).getD 0):=by unfold hdD; rw [q3]
   simp only [dYF (show ¬ (j:Int) < 0 by omega),cF,dYT (show (0:Int)<=(j:Int) by omega),dYT (show (j:Int) < (d.length:Int) by omega),aS,cT,tN,jR i (by omega),oB,(qef i _).1,(qef i _).2]
   rw [<- hhd];by_cases hs:(segR i (d.getD j dF).2.1).isSome=true
   ·simp only [hs,cT];by_cases hgt:m < hdD d i
    ·simp only [dYT (show ((hdD d i:Nat):Int) > (m:Int) by omega),cT]
     rw [Nat.max_eq_right (by omega)]
     exact ih _ (by omega)
    ·simp only [dYF (show ¬ ((hdD d i:Nat):Int) > (m:Int) by omega),cF]
     rw [Nat.max_eq_left (by omega)]
     exact ih _ hm
   ·have hs:(segR i (d.getD j dF).2.1).isSome=false:=by simpa using hs
    have h0:hdD d i=0:=by
     rw [hhd];rw [Option.isSome_eq_false_iff,Option.isNone_iff_eq_none] at hs;rw [hs]; rfl
    simp only [hs,cF];rw [h0,Nat.max_eq_left (zero_le _)];exact ih m hm
theorem q2V (d:List Fil) (h:d.length<=30):∀ (k i:Nat) (acc:List Nat),i+k=100->acc.length<=i->jY (natI acc) (i:Int) d=some ((if ((List.range' i k).filter (hasN d)).all (fun n=>(segD d n).isSome)=true/\acc++(List.range' i k).filter (hasN d)≠[] then (natI (acc++(List.range' i k).filter (hasN d)),true) else ([],false)),())
 | 0,i,acc,hi,ha=>by
  have hll:(natI acc).length=acc.length:=length_map ..;rw [q65];have k1:decide ((i:Int)<=99)=false:=dYF (by omega)
  simp only [k1,cF,List.range'_zero,filter_nil,append_nil,List.all_nil,true_and];by_cases h0:acc=[]
  ·subst h0;rw [if_neg (fun h=>h rfl)]; rfl
  ·have hpos:0 < acc.length:=length_pos_iff.2 h0;rw [if_pos h0,dYT (show ((natI acc).length:Int) > 0 by rw [hll]; omega)]
 | k+1,i,acc,hi,ha=>by
  have hll:(natI acc).length=acc.length:=length_map ..;rw [q65];have k1:decide ((i:Int)<=99)=true:=dYT (by omega)
  have k4:w64 ((i:Int)+1)=((i+1:Nat):Int):=ql (by omega)
  have kl:lim ((natI acc).length+1) 8=true:=qW (by rw [hll]; omega)
  simp only [k1,cT,k4,zC,q0d (show i < 100 by omega),q4C d (by omega),oB]
  rw [kl,List.range'_succ,filter_cons];rcases qof d i with ⟨q1,q2⟩ | ⟨j,hj,q1,q2,q3⟩
  ·rw [q1,q2];simp only [show decide ((-1:Int) < 0)=true from rfl,cT,false_eq_true,if_false]
   exact q2V d h k (i+1) acc (by omega) (by omega)
  ·rw [q1,q2,if_pos rfl];simp only [dYF (show ¬ (j:Int) < 0 by omega),cF,dYT (show (0:Int)<=(j:Int) by omega),dYT (show (j:Int) < (d.length:Int) by omega),aS,cT,tN,jR i (by omega),oB,(qef i _).1,<- q3,List.all_cons]
   by_cases hs:(segD d i).isSome=true
   ·simp only [hs,nT,cF,Bool.true_and];have e:natI acc++[(i:Int)]=natI (acc++[i]):=by unfold natI; rw [List.map_append]; rfl
    rw [e,q2V d h k (i+1) (acc++[i]) (by omega) (by rw [lA,lS]; omega),pA,singleton_append]
   ·have hs:(segD d i).isSome=false:=by simpa using hs
    simp only [hs,nF,cT,Bool.false_and];rw [if_neg (fun hx=>by cases hx.1)]
theorem range_split (d:List Fil) (m:Nat) (hm:m<=99) (hl:m=least d):(List.range' m (100 - m)).filter (hasN d)=segN d:=by
 refine qk2 (List.Pairwise.filter _ (List.pairwise_lt_range' (s:=m) (n:=100 - m))) (q4u d) fun x=>?_
 rw [mem_filter,q0l,List.mem_range'_1,<- hl];constructor
 ·rintro ⟨⟨h1,h2⟩,h3⟩; exact ⟨by omega,h3,h1⟩
 ·rintro ⟨h1,h2,h3⟩; exact ⟨⟨h3,by omega⟩,h2⟩
theorem q2y (d:List Fil) (hn:d.length<=1000000000):q1j d=some (sgO d,()):=by
 rw [qfF,jq d hn];simp only [oB];cases h:dOkB d with
 | false=>rw [qpl d h]; rfl
 | true=>
  have hl30:=(qK.1 h).1;simp only [nT,cF];have e0:=q64 d hl30 100 0 0 rfl (by omega)
  have e1:(List.range' 0 100).foldl (fun m n=>max m (hdD d n)) 0=least d:=by rw [<- List.range_eq_range']; rfl
  rw [e1] at e0;have hle:least d<=99:=by
   rcases qkF d with h | ⟨n,h1,h2⟩
   ·omega
   ·rw [<- h2]; have:=qd4 d n; omega
  have e2:=q2V d hl30 (100 - least d) (least d) [] (by omega) (zero_le _)
  rw [nil_append,range_split d (least d) hle rfl] at e2;rw [qmS d h];exact e0.trans e2
def endQ (q:Int) (bs:List Bat):Int:=(bs.getLast?.map (·.1)).getD q
theorem qiO (q:Int) (b:Bat) (bs:List Bat):endQ q (b::bs)=endQ b.1 bs:=by
 cases bs with
 | nil=>rfl
 | cons c r=>
  unfold endQ;rw [List.getLast?_cons_cons];cases hx:(c::r).getLast? with
  | none=>rw [List.getLast?_eq_none_iff] at hx; cases hx
  | some x=>rfl
theorem qmY (q:Int) (a b:List Bat):upQ q (a++b)=(upQ q a&&upQ (endQ q a) b):=by
 rw [Bool.eq_iff_iff,Bool.and_eq_true];exact qei
theorem qec:∀ (bs:List Bat) (a:Nat),(plB a bs).map (·.1)=bs
 | [],_=>rfl
 | b::r,a=>by simp only [plB,map_cons,qec r]
theorem qi4 (bs:List Bat) (a:Nat):(plB a bs).length=bs.length:=by
 have:=congrArg length (qec bs a)
 rwa [length_map] at this
theorem qmK {d:List Fil} {n:Nat} (hn:n < 100) (h:hasN d n=true):(plO n (faO d (nmL n)).1).2.1=plB (q09 d n) (batD d n):=by
 unfold plO q09 batD hdD;rw [<- q8K hn h];cases segD d n<;>rfl
theorem qi9 {d:List Fil} {n:Nat} (hn:n < 100) (h:hasN d n=true):(rsO n (faO d (nmL n)).1).2.1=batD d n:=by
 unfold rsO batD;rw [<- q8K hn h];cases segD d n<;>rfl
theorem qji:∀ (ts:List BA) (q:Int),(takeB q ts).length<=ts.length
 | [],_=>le_refl _
 | s::ts,q=>by
  unfold takeB;cases jC s with
  | none=>exact zero_le _
  | some b=>
   simp only;split
   ·rw [length_cons,length_cons]; have:=qji ts b.1; omega
   ·exact zero_le _
theorem qlj {n:Nat} (hn:n<=99) {t:BA} {x:Nat×List Bat} (h:segR n t=some x):x.2.length<=20000:=by
 rw [qba n hn] at h;have:=qiu t
 revert h this
 cases (unO t).1 with
 | nil=>intro h _; cases h
 | cons s ts=>
  intro h hl;obtain ⟨f,_,rfl⟩:=Option.map_eq_some_iff.1 h;have:=qji ts (-1);rw [length_cons] at hl;show (takeB (-1) ts).length<=_;omega
theorem q4v (d:List Fil) {n:Nat} (hn:n<=99):(batD d n).length<=20000:=by
 unfold batD;cases h:segD d n with
 | none=>exact zero_le _
 | some x=>
  unfold segD at h;obtain ⟨v,_,h2⟩:=Option.bind_eq_some_iff.1 h;exact qlj hn h2
theorem qcj (ok:Bool) (l:List Int) (ln i0:Int) (d:List Fil) (ps:List Pla) (hn:ps.length<=1000000):∀ (r:List Pla) (i:Nat) (q:Int),ps.drop i=r->i<=ps.length->
  q2n ok q l ln i0 ps (ps.length:Int) (i:Int) d=bif upQ q (r.map (·.1)) then q0X ok (endQ q (r.map (·.1))) l ln (w64 (i0+1)) d else some (false,())
 | [],i,q,hd,hi=>by
  have:=drop_eq_nil_iff.1 hd;rw [q5Y];have k1:decide ((i:Int) < (ps.length:Int))=false:=dYF (by omega)
  simp only [k1,cF,map_nil,upQ,cT]; rfl
 | p::r,i,q,hd,hi=>by
  obtain ⟨e1,hlt,e2⟩:=qV dP hd;rw [q5Y];have k1:decide ((i:Int) < (ps.length:Int))=true:=dYT (by omega)
  have k2:decide (0<=(i:Int))=true:=dYT (by omega)
  have k4:w64 ((i:Int)+1)=((i+1:Nat):Int):=ql (by omega)
  have ih:=qcj ok l ln i0 d ps hn r (i+1) p.1.1 e2 hlt;simp only [k1,k2,k4,aS,cT,tN,e1,map_cons,qiO,upQ,ih];by_cases h:q < p.1.1
  ·simp only [dYF (show ¬ p.1.1<=q by omega),dYT h,cF,Bool.true_and]
  ·simp only [dYT (show p.1.1<=q by omega),dYF h,cT,Bool.false_and,cF]
theorem qci (ok:Bool) (d:List Fil) (hd30:d.length<=30) (l:List Nat) (hl:l.length<=100) (hm:∀ n∈l,n < 100/\hasN d n=true):∀ (r:List Nat) (i:Nat) (q:Int),l.drop i=r->i<=l.length->
  q0X ok q (natI l) ((natI l).length:Int) (i:Int) d=some (ok&&upQ q (allB d r)||(!ok&&(!upQ q (allB d r)&&false)),())
 | [],i,q,hd,hi=>by
  have:=drop_eq_nil_iff.1 hd;have hll:(natI l).length=l.length:=length_map ..;rw [q2U,hll];have k1:decide ((i:Int) < (l.length:Int))=false:=dYF (by omega)
  simp only [k1,cF];cases ok<;>rfl
 | n::r,i,q,hd,hi=>by
  obtain ⟨e1,hlt,e2⟩:=qV 0 hd;obtain ⟨hn,hh⟩:=hm n (yM hd);have hll:(natI l).length=l.length:=length_map ..;have eI:(natI l).getD i 0=(n:Int):=by rw [q0m hlt,e1]
  rw [q2U];have k1:decide ((i:Int) < ((natI l).length:Int))=true:=dYT (by rw [hll]; omega)
  have k2:decide (0<=(i:Int))=true:=dYT (by omega)
  have k4:w64 ((i:Int)+1)=((i+1:Nat):Int):=ql (by omega)
  have ih:=fun q'=>qci ok d hd30 l hl hm r (i+1) q' e2 hlt
  simp only [k1,k2,aS,cT,tN,eI,q0b,q0d hn,q27 d (by omega),qaf n (by omega),oB,qmK hn hh]
  have hb:=q4v d (show n<=99 by omega)
  have hz:=qi4 (batD d n) (q09 d n);have h2:=qcj ok (natI l) ((natI l).length:Int) (i:Int) d (plB (q09 d n) (batD d n)) (by omega) _ 0 q rfl (zero_le _)
  rw [drop_zero,qec,k4,ih] at h2;refine Eq.trans h2 ?_;have:allB d (n::r)=batD d n++allB d r:=rfl;rw [this,qmY];cases upQ q (batD d n)<;>cases ok<;>cases upQ (endQ q (batD d n)) (allB d r)<;>rfl
theorem q4V (d:List Fil):(sgO d=([],false)/\segs d=none)\/∃ l,sgO d=(natI l,true)/\segs d=some l/\dOkB d=true/\l.length<=100/\(∀ n∈l,n < 100/\hasN d n=true)/\(∀ n∈l,(segD d n).isSome=true)/\l≠[]:=by
 unfold sgO;cases h:segs d with
 | none=>exact .inl ⟨rfl,rfl⟩
 | some l=>
  obtain ⟨h1,h2,h3,h4⟩:=jm.1 h;refine .inr ⟨l,rfl,rfl,h1,?_,fun n hn=>?_,h4,h3⟩
  ·rw [h2];unfold segN;exact le_trans (length_filter_le ..) (by simp)
  ·rw [h2] at hn;exact ⟨(q0l.1 hn).1,(q0l.1 hn).2.1⟩
theorem qfk (d:List Fil) (hn:d.length<=1000000000):q7S d=some (rise d,()):=by
 rw [qfj,q4B d hn];simp only [oB];unfold rise;rcases q4V d with ⟨h1,h2⟩ | ⟨l,h1,h2,h3,h4,h5,_,_⟩
 ·rw [h1,h2];rw [q2U]; rfl
 ·rw [h1,h2];have:=qci true d (qK.1 h3).1 l h4 h5 l 0 (-1) rfl (zero_le _);refine Eq.trans this ?_;simp only [Bool.true_and,nT,Bool.false_and,Bool.or_false]
theorem qcn (d:List Fil) (hd30:d.length<=30) {n:Nat} (hn:n < 100) (hh:hasN d n=true):q3d d (n:Int)=some (batD d n,()):=by
 rw [qdG];simp only [zC,q0d hn,q3P d (show d.length<=1000000000 by omega),jR n (show n<=99 by omega),oB,qi9 hn hh]
theorem qcs (ok:Bool) (l:List Int) (i0:Int) (d:List Fil) (bs:List Bat) (hn:bs.length<=1000000):∀ (r:List Bat) (i:Nat) (q:Int),bs.drop i=r->i<=bs.length->
  q2A l ok q i0 bs (i:Int) d=bif upQ q r then q13 l ok (endQ q r) (w64 (i0+1)) d else some (false,())
 | [],i,q,hd,hi=>by
  have:=drop_eq_nil_iff.1 hd;rw [q66];have k1:decide ((i:Int) < (bs.length:Int))=false:=dYF (by omega)
  simp only [k1,cF,upQ,cT]; rfl
 | p::r,i,q,hd,hi=>by
  obtain ⟨e1,hlt,e2⟩:=qV dB hd;rw [q66];have k1:decide ((i:Int) < (bs.length:Int))=true:=dYT (by omega)
  have k2:decide (0<=(i:Int))=true:=dYT (by omega)
  have k4:w64 ((i:Int)+1)=((i+1:Nat):Int):=ql (by omega)
  have ih:=qcs ok l i0 d bs hn r (i+1) p.1 e2 hlt;simp only [k1,k2,k4,aS,cT,tN,e1,qiO,upQ,ih];by_cases h:q < p.1
  ·simp only [dYF (show ¬ p.1<=q by omega),dYT h,cF,Bool.true_and]
  ·simp only [dYT (show p.1<=q by omega),dYF h,cT,Bool.false_and,cF]
theorem qcr (d:List Fil) (hd30:d.length<=30) (l:List Nat) (hl:l.length<=100) (hm:∀ n∈l,n < 100/\hasN d n=true):∀ (r:List Nat) (i:Nat) (q:Int),l.drop i=r->i<=l.length->
  q13 (natI l) true q (i:Int) d=some (upQ q (allB d r),())
 | [],i,q,hd,hi=>by
  have:=drop_eq_nil_iff.1 hd;have hll:(natI l).length=l.length:=length_map ..;rw [q2W,hll];have k1:decide ((i:Int) < (l.length:Int))=false:=dYF (by omega)
  simp only [k1,cF]; rfl
 | n::r,i,q,hd,hi=>by
  obtain ⟨e1,hlt,e2⟩:=qV 0 hd;obtain ⟨hn,hh⟩:=hm n (yM hd);have hll:(natI l).length=l.length:=length_map ..;have eI:(natI l).getD i 0=(n:Int):=by rw [q0m hlt,e1]
  rw [q2W];have k1:decide ((i:Int) < ((natI l).length:Int))=true:=dYT (by rw [hll]; omega)
  have k2:decide (0<=(i:Int))=true:=dYT (by omega)
  have k4:w64 ((i:Int)+1)=((i+1:Nat):Int):=ql (by omega)
  have ih:=fun q'=>qcr d hd30 l hl hm r (i+1) q' e2 hlt
  simp only [k1,k2,aS,cT,tN,eI,qcn d hd30 hn hh,oB];have hb:=q4v d (show n<=99 by omega)
  have h2:=qcs true (natI l) (i:Int) d (batD d n) (by omega) _ 0 q rfl (zero_le _)
  rw [drop_zero,k4,ih] at h2;refine Eq.trans h2 ?_;have:allB d (n::r)=batD d n++allB d r:=rfl;rw [this,qmY];cases upQ q (batD d n)<;>rfl
theorem qfH (d:List Fil) (hn:d.length<=1000000000):q7Z d=some (rise d,()):=by
 rw [qfG,q2y d hn];simp only [oB];unfold rise;rcases q4V d with ⟨h1,h2⟩ | ⟨l,h1,h2,h3,h4,h5,_,_⟩
 ·rw [h1,h2];rw [q2W]; rfl
 ·rw [h1,h2];exact qcr d (qK.1 h3).1 l h4 h5 l 0 (-1) rfl (zero_le _)
abbrev Pos:=Int×(Int×Int)
def cutP (x:BA×Option (Pos×BA)):BA×Option Pos:=(x.1,x.2.map (·.1))
def opP (n:Nat) (at' q:Int) (c:Chg):BA×Option Pos:=(c.1,bif c.2.2 then none else some ((n:Int),(at',q)))
noncomputable def opsN (d:List Fil) (n:Nat):List (BA×Option Pos):=((qb3 d n).flatMap (qc8 n)).map cutP
theorem qpG (n:Nat) (p:Bat×Nat):(qc8 n p).map cutP=p.1.2.map (opP n (p.2:Int) p.1.1):=by
 unfold qc8;rw [List.map_map];refine List.map_congr_left fun c _=>?_
 show cutP (c.1,bif c.2.2 then none else some (((n:Int),((p.2:Int),p.1.1)),c.2.1))=_
 unfold cutP opP;cases c.2.2<;>rfl
theorem qdU (d:List Fil) (l:List Nat):dirD d l=runK (l.flatMap (opsN d)):=by
 unfold dirD rowD;rw [qkO];congr 1
 unfold qhr;rw [List.map_flatMap]; rfl
theorem qoe {β:Type} {m:List (BA×β)} (h:AscK m) (k:BA):(m.filter (fun x=>blt x.1 k))++(m.filter fun x=>blt k x.1)=delK k m:=by
 refine q2k ?_ (q4t h k) fun x=>?_
 ·unfold AscK;rw [List.pairwise_append];refine ⟨h.filter _,h.filter _,fun a ha b hb=>?_⟩
  exact q1n (mem_filter.1 ha).2 (mem_filter.1 hb).2
 ·rw [q2r,List.mem_append,mem_filter,mem_filter];constructor
  ·rintro (⟨h1,h2⟩ | ⟨h1,h2⟩)
   ·exact ⟨h1,zI h2⟩
   ·exact ⟨h1,(zI h2).symm⟩
  ·rintro ⟨h1,h2⟩
   by_cases h3:blt x.1 k=true
   ·exact .inl ⟨h1,h3⟩
   ·exact .inr ⟨h1,q0D h2 (by simpa using h3)⟩
abbrev dS:Spt:=(eB,(0,(0,0)))
theorem qrE (m:List Spt) (s:Spt) (acc:List Spt) (i:Nat) (hi:i < m.length) (hI:acc.length<=3000000000) (hm:m.length<=1000000000):jy m acc (i:Int) s.1 s.2.1 s.2.2.1 s.2.2.2=jy m (if blt s.1 (m.getD i dS).1=true then acc++[m.getD i dS] else acc) ((i+1:Nat):Int) s.1 s.2.1 s.2.2.1 s.2.2.2:=by
 rw [q8g];have k1:decide ((i:Int) < (m.length:Int))=true:=dYT (by omega)
 have k2:decide (0<=(i:Int))=true:=dYT (by omega)
 have k4:w64 ((i:Int)+1)=((i+1:Nat):Int):=ql (by omega)
 have kl:lim (acc.length+1) 40=true:=qW (by omega)
 simp only [k1,k2,k4,aS,cT,tN,blt_eq,y5,qjY,pmk];rw [kl];cases blt s.1 (m.getD i dS).1 with
 | true=>simp only [cT,if_true]
 | false=>simp only [cF,false_eq_true,if_false]
theorem qll (m:List Spt) (s:Spt) (hm:m.length<=1000000000):∀ (k i:Nat) (acc:List Spt),i+k=m.length->acc.length<=m.length+1+i->jy m acc (i:Int) s.1 s.2.1 s.2.2.1 s.2.2.2=some (acc++(m.drop i).filter (fun x=>blt s.1 x.1),())
 | 0,i,acc,hi,ha=>by
  rw [show i=m.length by omega,q8g]
  have k1:decide ((m.length:Int) < (m.length:Int))=false:=dYF (by omega)
  simp only [k1,cF];rw [List.drop_length,filter_nil,append_nil]
 | k+1,i,acc,hi,ha=>by
  have hlt:i < m.length:=by omega
  rw [qrE m s acc i hlt (by omega) hm,qll m s hm k (i+1) _ (by omega) (by split<;>(try rw [lA,lS])<;>omega),drop_eq_getElem_cons hlt,<- wT (d:=dS) hlt,filter_cons]
  split
  ·rw [pA,singleton_append]
  ·rfl
theorem qrD (m:List Spt) (s:Spt) (g:Bool) (acc:List Spt) (i:Nat) (hi:i < m.length) (hI:acc.length<=i) (hm:m.length<=1000000000):jZ m g acc (i:Int) s.1 s.2.1 s.2.2.1 s.2.2.2=jZ m g (if blt (m.getD i dS).1 s.1=true then acc++[m.getD i dS] else acc) ((i+1:Nat):Int) s.1 s.2.1 s.2.2.1 s.2.2.2:=by
 rw [q8f];have k1:decide ((i:Int) < (m.length:Int))=true:=dYT (by omega)
 have k2:decide (0<=(i:Int))=true:=dYT (by omega)
 have k4:w64 ((i:Int)+1)=((i+1:Nat):Int):=ql (by omega)
 have kl:lim (acc.length+1) 40=true:=qW (by omega)
 simp only [k1,k2,k4,aS,cT,tN,blt_eq,pmk];rw [kl];cases blt (m.getD i dS).1 s.1 with
 | true=>simp only [cT,if_true]
 | false=>simp only [cF,false_eq_true,if_false]
theorem qpj (m:List Spt) (s:Spt) (g:Bool) (hm:m.length<=1000000000):∀ (k i:Nat) (acc:List Spt),i+k=m.length->acc.length<=i->jZ m g acc (i:Int) s.1 s.2.1 s.2.2.1 s.2.2.2=some (((acc++(m.drop i).filter (fun x=>blt x.1 s.1))++(bif g then [] else [s]))++m.filter (fun x=>blt s.1 x.1),())
 | 0,i,acc,hi,ha=>by
  rw [show i=m.length by omega,q8f]
  have k1:decide ((m.length:Int) < (m.length:Int))=false:=dYF (by omega)
  have kl:lim (acc.length+1) 40=true:=qW (by omega)
  rw [List.drop_length,filter_nil,append_nil];cases g with
  | true=>
   simp only [k1,cF,nT,cT,append_nil];exact qll m s hm m.length 0 acc (by omega) (by omega)
  | false=>
   simp only [k1,cF,nF,cT,pmk];rw [kl];exact qll m s hm m.length 0 (acc++[s]) (by omega) (by rw [lA,lS]; omega)
 | k+1,i,acc,hi,ha=>by
  have hlt:i < m.length:=by omega
  rw [qrD m s g acc i hlt ha hm,qpj m s g hm k (i+1) _ (by omega) (by split<;>(try rw [lA,lS])<;>omega),drop_eq_getElem_cons hlt,<- wT (d:=dS) hlt,filter_cons]
  split
  ·rw [pA acc,singleton_append]
  ·rfl
theorem qoQ (m:List Spt) (h:AscK m) (hm:m.length<=1000000000) (s:Spt) (g:Bool):qav m s g=some (zl m (s.1,bif g then none else some s.2),()):=by
 rw [qio];refine (qpj m s g hm m.length 0 [] (by omega) (le_refl _)).trans ?_
 rw [nil_append,drop_zero];unfold zl;cases g with
 | true=>
  simp only [cT,append_nil];rw [qoe h]
 | false=>
  simp only [cF];unfold putK;rw [pA,singleton_append]
theorem qdI {β:Type} (m:List (BA×β)) (x:BA×Option β):(zl m x).length<=m.length+1:=by
 unfold zl;split
 ·exact Nat.le_succ_of_le (length_filter_le ..)
 ·unfold putK;rw [lA,length_cons];have:=qf9 x.1 m;have h2:(m.filter fun y=>decide (y.1≠x.1)).length<=m.length:=length_filter_le ..
  omega
theorem q78 {β:Type}:∀ (ops:List (BA×Option β)) (m:List (BA×β)),(ops.foldl zl m).length<=m.length+ops.length
 | [],m=>le_refl _
 | x::ops,m=>by
  have h1:=q78 ops (zl m x);have h2:=qdI m x;rw [foldl_cons,length_cons]; omega
theorem qnJ {b:Bat} (h:batT b=true):q9i b=some (((batL b).length:Int),()):=by
 have hok:=qhB h;obtain ⟨_,_,_,h4,_⟩:=q00.1 hok;rw [qhi,q43 b (by omega)]
 unfold btO;rw [if_pos h];simp only [oB,q1h];have hf:frOk (bTx b):=qaC h;rw [show bOf (bTL b)=bTx b from rfl,qd3 hf,qz]; rfl
theorem q6i {b:Bat} (h:batT b=true):(batL b).length<=9009:=qaL (qaC h)
theorem qg0 {b:Bat} (h:batT b=true):b.2.length<=40:=(q00.1 (qhB h)).2.2.2.1
theorem qbd (d:List Fil) (l:List Nat) (hl:l.length<=100) (i:Nat) (n:Nat) (hi:l.getD i 0=n) (hil:i < l.length) (bs:List Bat) (at' k:Nat) (b:Bat) (hb:batT b=true) (hat:at'<=1000000000):∀ (r:List Chg) (j:Nat) (m:List Spt),b.2.drop j=r->j<=b.2.length->AscK m->m.length+r.length<=1000000000->
  q4p m (natI l) (i:Int) bs (at':Int) (k:Int) (j:Int) d b.1 b.2=q2K ((r.map (opP n (at':Int) b.1)).foldl zl m) (natI l) (i:Int) bs ((at'+(batL b).length:Nat):Int) (w64 ((k:Int)+1)) d
 | [],j,m,hd,hj,hm,hlen=>by
  have:=drop_eq_nil_iff.1 hd;rw [q99];have k1:decide ((j:Int) < (b.2.length:Int))=false:=dYF (by omega)
  have hle:=q6i hb;have k5:w64 ((at':Int)+((batL b).length:Int))=((at'+(batL b).length:Nat):Int):=qo (by omega) (by omega)
  simp only [k1,cF,pmk,qnJ hb,oB,k5,map_nil,List.foldl_nil]
 | c::r,j,m,hd,hj,hm,hlen=>by
  obtain ⟨e1,hlt,e2⟩:=qV dC hd;have h40:=qg0 hb;have hll:(natI l).length=l.length:=length_map ..;have eI:(natI l).getD i 0=(n:Int):=by rw [q0m hil,hi]
  rw [length_cons] at hlen;rw [q99];have k1:decide ((j:Int) < (b.2.length:Int))=true:=dYT (by omega)
  have k2:decide (0<=(j:Int))=true:=dYT (by omega)
  have k6:decide ((i:Int) < ((natI l).length:Int))=true:=dYT (by rw [hll]; omega)
  have k7:decide (0<=(i:Int))=true:=dYT (by omega)
  have k4:w64 ((j:Int)+1)=((j+1:Nat):Int):=ql (by omega)
  simp only [k1,k2,k4,k6,k7,aS,cT,tN,e1,eI,qoQ m hm (by omega),oB]
  have hs:=qdI m (opP n (at':Int) b.1 c);have:=qbd d l hl i n hi hil bs at' k b hb hat r (j+1) (zl m (opP n (at':Int) b.1 c)) e2 hlt (q9x hm _) (by omega)
  rw [map_cons,foldl_cons];exact this
noncomputable def opsR (n:Nat) (a:Nat) (bs:List Bat):List (BA×Option Pos):=(posB a bs).flatMap fun p=>p.1.2.map (opP n (p.2:Int) p.1.1)
theorem qdl (n a:Nat) (b:Bat) (bs:List Bat):opsR n a (b::bs)=b.2.map (opP n (a:Int) b.1)++opsR n (a+(batL b).length) bs:=rfl
theorem qb2 (d:List Fil) (n:Nat):opsN d n=opsR n (q09 d n) (batD d n):=by
 unfold opsN opsR qb3;rw [List.map_flatMap];rw [List.flatMap_def,List.flatMap_def,List.map_congr_left fun p _=>qpG n p]
theorem qbc (d:List Fil) (l:List Nat) (hl:l.length<=100) (i:Nat) (n:Nat) (hi:l.getD i 0=n) (hil:i < l.length) (bs:List Bat) (hbs:bs.length<=20000) (hb:∀ b∈bs,batT b=true):∀ (r:List Bat) (k at':Nat) (m:List Spt),bs.drop k=r->k<=bs.length->AscK m->m.length+40 * r.length<=1000000000->at'<=10000+k * 10000->
  q2K m (natI l) (i:Int) bs (at':Int) (k:Int) d=q2J ((opsR n at' r).foldl zl m) (natI l) (w64 ((i:Int)+1)) d
 | [],k,at',m,hd,hk,hm,hlen,hat=>by
  have:=drop_eq_nil_iff.1 hd;rw [q98];have k1:decide ((k:Int) < (bs.length:Int))=false:=dYF (by omega)
  simp only [k1,cF]; rfl
 | b::r,k,at',m,hd,hk,hm,hlen,hat=>by
  obtain ⟨e1,hlt,e2⟩:=qV dB hd;have hbt:=hb b (yM hd);have h40:=qg0 hbt;have hle:=q6i hbt;rw [length_cons] at hlen;rw [q98];have k1:decide ((k:Int) < (bs.length:Int))=true:=dYT (by omega)
  have k2:decide (0<=(k:Int))=true:=dYT (by omega)
  have k4:w64 ((k:Int)+1)=((k+1:Nat):Int):=ql (by omega)
  have h4:=qbd d l hl i n hi hil bs at' k b hbt (by omega) b.2 0 m rfl (zero_le _) hm (by omega)
  simp only [k1,k2,aS,cT,tN,e1];refine Eq.trans h4 ?_;have hf:=q78 (b.2.map (opP n (at':Int) b.1)) m;rw [length_map] at hf;rw [k4,qbc d l hl i n hi hil bs hbs hb r (k+1) (at'+(batL b).length) _ e2 hlt (q9v _ hm) (by omega) (by rw [Nat.succ_mul]; omega),qdl,List.foldl_append]
theorem qaB {d:List Fil} {n:Nat}:∀ b∈batD d n,batT b=true:=by
 intro b hb;unfold batD at hb;cases h:segD d n with
 | none=>rw [h] at hb; cases hb
 | some x=>
  rw [h] at hb;unfold segD at h;obtain ⟨v,_,h2⟩:=Option.bind_eq_some_iff.1 h;exact (q4U (f:=x.1) (bs:=x.2) h2).2.2.2.1 b hb
theorem qbI (n:Nat):∀ (bs:List Bat) (a:Nat),(∀ b∈bs,batT b=true)->(opsR n a bs).length<=40 * bs.length
 | [],_,_=>le_refl _
 | b::bs,a,h=>by
  have h1:=qbI n bs (a+(batL b).length) fun x hx=>h x (List.mem_cons_of_mem _ hx)
  have h2:=qg0 (h b (List.mem_cons_self ..));rw [qdl,lA,length_map,length_cons]; omega
theorem qbb (d:List Fil) (hd30:d.length<=30) (l:List Nat) (hl:l.length<=100) (hm:∀ n∈l,n < 100/\hasN d n=true):∀ (r:List Nat) (i:Nat) (m:List Spt),l.drop i=r->i<=l.length->AscK m->m.length+800000 * r.length<=1000000000->
  q2J m (natI l) (i:Int) d=some (((r.flatMap (opsN d)).foldl zl m,true),())
 | [],i,m,hd,hi,ha,hlen=>by
  have:=drop_eq_nil_iff.1 hd;have hll:(natI l).length=l.length:=length_map ..;rw [q97,hll];have k1:decide ((i:Int) < (l.length:Int))=false:=dYF (by omega)
  simp only [k1,cF]; rfl
 | n::r,i,m,hd,hi,ha,hlen=>by
  obtain ⟨e1,hlt,e2⟩:=qV 0 hd;obtain ⟨hn,hh⟩:=hm n (yM hd);have hll:(natI l).length=l.length:=length_map ..;have eI:(natI l).getD i 0=(n:Int):=by rw [q0m hlt,e1]
  have hb:=q4v d (show n<=99 by omega)
  rw [length_cons] at hlen;rw [q97];have k1:decide ((i:Int) < ((natI l).length:Int))=true:=dYT (by rw [hll]; omega)
  have k2:decide (0<=(i:Int))=true:=dYT (by omega)
  have k4:w64 ((i:Int)+1)=((i+1:Nat):Int):=ql (by omega)
  have hrs:(rsO n (faO d (nmL n)).1).1=((hdD d n:Nat):Int):=by
   rw [(qef n _).2,<- q8K hn hh]; rfl
  have hle:=qd4 d n;have hht:htO (n:Int) ((hdD d n:Nat):Int)=(bOf (qL n (hdD d n)),true):=by
   unfold htO;rw [if_pos (by omega)]; rfl
  simp only [k1,k2,aS,cT,tN,eI,zC,q0d hn,q3P d (show d.length<=1000000000 by omega),jR n (show n<=99 by omega),oB,qi9 hn hh,hrs,q4H,hht,qz]
  have hst:(qL n (hdD d n)).length<=9009:=qaL (qkt (by omega) hle)
  have h2:=qbc d l hl i n e1 hlt (batD d n) hb qaB _ 0 (q09 d n) m rfl (zero_le _) ha (by rw [drop_zero]; omega) (by unfold q09; omega)
  refine Eq.trans h2 ?_;rw [drop_zero,k4,<- qb2];have hf:=q78 (opsN d n) m;have ho:(opsN d n).length<=800000:=by
   rw [qb2];have:=qbI n (batD d n) (q09 d n) qaB;omega
  rw [qbb d hd30 l hl hm r (i+1) _ e2 hlt (q9v _ ha) (by omega),List.flatMap_cons,List.foldl_append]
noncomputable def dirO (d:List Fil):List Spt×Bool:=match segs d with
 | some l=>(dirD d l,true)
 | none=>([],false)
theorem qjG (d:List Fil) (hn:d.length<=1000000000):qbV d=some (dirO d,()):=by
 rw [qjF,q2y d hn];simp only [oB];unfold dirO;rcases q4V d with ⟨h1,h2⟩ | ⟨l,h1,h2,h3,h4,h5,_,_⟩
 ·rw [h1,h2]; rfl
 ·rw [h1,h2];refine (qbb d (qK.1 h3).1 l h4 h5 l 0 [] rfl (zero_le _) qhA (by simp; omega)).trans ?_
  show _=some ((dirD d l,true),());rw [qdU]; rfl
end Go.Den.S
