/- PxV: equations of the functions of this seat as the executor tells them, or plain facts about them. Conditions: none here. -/
import Derived.Test.YtbgaejnkjmjkhaaGreatDoorPxU
set_option linter.all false
namespace Go.Den.S
open Go Go.Den
def q7f:List BA->List DE->List DE
 | k::v::r,t=>q7f r (putB t k (1,(0,(v,[]))))
 | _,t=>t
structure BdN (n:Nat) (t:List DE):Prop where
 len:t.length<=n
 its:∀ e∈t,e.2.2.2.2.length<=4194304
 szs:∀ e∈t,e.1.size<=4194304/\e.2.2.2.1.size<=4194304/\∀ s∈e.2.2.2.2,s.size<=4194304
theorem BdN.bd {n:Nat} {t:List DE} (h:BdN n t) (hn:n<=4194304):Bd t:=⟨Nat.le_trans h.len hn,h.its,h.szs⟩
theorem qfn {t:List DE} (h:Asc t) (k:BA) (v:DV):Asc (putB t k v):=by
 unfold Asc putB at *
 have hl:(lowB t k).Pairwise fun a b=>blt a.1 b.1=true:=List.Pairwise.filter _ h
 have hh:(q4T t k).Pairwise fun a b=>blt a.1 b.1=true:=List.Pairwise.filter _ h
 rw [List.pairwise_append]
 refine ⟨hl,?_,fun a ha b hb=>?_⟩
 ·rw [List.pairwise_cons]
  exact ⟨fun b hb=>(List.mem_filter.1 hb).2,hh⟩
 ·have ha':=(List.mem_filter.1 ha).2
  rcases List.mem_cons.1 hb with hb | hb
  ·rw [hb]; exact ha'
  ·exact q4C ha' (List.mem_filter.1 hb).2
theorem qeB {n:Nat} {t:List DE} (h:BdN n t) (ha:Asc t) (k v:BA) (hk:k.size<=4194304) (hv:v.size<=4194304):BdN (n+1) (putB t k (1,(0,(v,[])))):=by
 have hm:∀ e∈putB t k (1,(0,(v,[]))),e∈t\/e=(k,(1,(0,(v,[])))):=fun e he=>by
  unfold putB at he
  rcases List.mem_append.1 he with he | he
  ·exact .inl (qfk he)
  ·rcases List.mem_cons.1 he with he | he
   ·exact .inr he
   ·exact .inl (qd0 he)
 refine ⟨?_,fun e he=>?_,fun e he=>?_⟩
 ·have h1:=qda (k:=k) ha
  have h2:=h.len
  unfold putB
  rw [List.length_append,List.length_cons]; omega
 ·rcases hm e he with h' | rfl
  ·exact h.its e h'
  ·exact Nat.zero_le _
 ·rcases hm e he with h' | rfl
  ·exact h.szs e h'
  ·exact ⟨hk,hv,fun s hs=>by cases hs⟩
theorem qeE:∀ (rest:List BA) (t:List DE) (n:Nat),BdN n t->Asc t->(∀ s∈rest,s.size<=4194304)->BdN (n+rest.length) (q7f rest t)
 | [],t,n,h,_,_=>⟨Nat.le_trans h.len (Nat.le_add_right _ _),h.its,h.szs⟩
 | [x],t,n,h,_,_=>⟨Nat.le_trans h.len (Nat.le_add_right _ _),h.its,h.szs⟩
 | k::v::r,t,n,h,ha,hs=>by
  have:=qeE r (putB t k (1,(0,(v,[])))) (n+1) (qeB h ha k v (hs k (List.mem_cons_self ..)) (hs v (List.mem_cons_of_mem _ (List.mem_cons_self ..)))) (qfn ha k _) fun s h=>hs s (List.mem_cons_of_mem _ (List.mem_cons_of_mem _ h))
  refine ⟨Nat.le_trans this.len ?_,this.its,this.szs⟩
  simp only [List.length_cons]; omega
theorem qlh (r:BA):∀ (m:Nat) (rest:List BA) (pre:List BA) (t:List DE) (n:Nat),rest.length<=m->BdN n t->Asc t->n+rest.length<=4194304->pre.length+rest.length<=2097152->(∀ s∈rest,s.size<=4194304)->
  wm (pre++rest) (pre.length:Int) t r false=some ((),((q7f rest t,(jV c_OK,false)),())):=by
 have hend:∀ (x2:List BA) (i:Nat) (t:List DE),i<=2097152->¬ (i+1 < x2.length)->wm x2 (i:Int) t r false=some ((),((t,(jV c_OK,false)),())):=fun x2 i t hi hn=>by
  rw [q0k]
  have e3:w64 ((i:Int)+1)=((i+1:Nat):Int):=qz (by omega)
  simp only [e3,dYF (show ¬ (((i+1:Nat):Int) < (x2.length:Int)) by omega),cF,q3l c_OK (by decide),oB,wz]
  rfl
 intro m
 induction m with
 | zero=>
  intro rest pre t n hm h ha hn hp hs
  have:rest=[]:=List.length_eq_zero_iff.1 (by omega)
  subst this
  exact hend _ _ _ (by simp at hp; omega) (by simp)
 | succ m ih=>
  intro rest pre t n hm h ha hn hp hs
  match rest,hm,hn,hp,hs with
  | [],_,_,hp,_=>exact hend _ _ _ (by simp at hp; omega) (by simp)
  | [x],_,_,hp,_=>exact hend _ _ _ (by simp at hp; omega) (by simp)
  | k::v::q,hm,hn,hp,hs=>
   simp only [List.length_cons] at hm hn hp
   rw [q0k]
   have hlen:(pre++k::v::q).length=pre.length+(q.length+1+1):=by simp
   have e3:w64 ((pre.length:Int)+1)=((pre.length+1:Nat):Int):=qz (by omega)
   have e4:w64 ((pre.length:Int)+2)=((pre.length+2:Nat):Int):=by show IntKind.i64.wrap _=_; rw [ql (by omega) (by omega)]; omega
   have d1:decide (((pre.length+1:Nat):Int) < ((pre++k::v::q).length:Int))=true:=dYT (by omega)
   have d2:decide ((pre.length:Int) < ((pre++k::v::q).length:Int))=true:=dYT (by omega)
   have d3:decide (0<=(pre.length:Int))=true:=dYT (by omega)
   have d4:decide (0<=((pre.length+1:Nat):Int))=true:=dYT (by omega)
   have g1:(pre++k::v::q).getD pre.length eB=k:=by simp [List.getD_eq_getElem?_getD]
   have g2:(pre++k::v::q).getD (pre.length+1) eB=v:=by
    rw [List.getD_eq_getElem?_getD,List.getElem?_append_right (by omega)]
    simp
   simp only [e3,e4,d1,d2,d3,d4,Bool.and_self,cT,Int.toNat_natCast,g1,g2,yZ (t,(r,false)) k _ (h.bd (by omega)) ha,oB,cF]
   have:=ih q (pre++[k,v]) (putB t k (1,(0,(v,[])))) (n+1) (by omega) (qeB h ha k v (hs k (List.mem_cons_self ..)) (hs v (List.mem_cons_of_mem _ (List.mem_cons_self ..)))) (qfn ha k _) (by omega) (by simp only [List.length_append,List.length_cons,List.length_nil]; omega) fun s h=>hs s (List.mem_cons_of_mem _ (List.mem_cons_of_mem _ h))
   rw [List.append_assoc,show (pre++[k,v]).length=pre.length+2 by simp] at this
   exact this
theorem qfK (t0:List DE):∀ (m:Nat) (rest:List BA) (pre:List BA) (t:List DE) (n:Nat),rest.length<=m->BdN n t->Asc t->n+rest.length<=4194304->pre.length+rest.length<=2097152->(∀ s∈rest,s.size<=4194304)->
  q10 t0 (pre++rest) t (pre.length:Int)=(yA t0 (q7f rest t) (jV c_OK)).bind fun r7=>some (r7.1,()):=by
 have hend:∀ (x2:List BA) (i:Nat) (t:List DE),i<=2097152->¬ (i+1 < x2.length)->q10 t0 x2 t (i:Int)=(yA t0 t (jV c_OK)).bind fun r7=>some (r7.1,()):=fun x2 i t hi hn=>by
  rw [q7s]
  have e3:w64 ((i:Int)+1)=((i+1:Nat):Int):=qz (by omega)
  simp only [e3,dYF (show ¬ (((i+1:Nat):Int) < (x2.length:Int)) by omega),cF,q1j c_OK (by decide),oB]
 intro m
 induction m with
 | zero=>
  intro rest pre t n hm h ha hn hp hs
  have:rest=[]:=List.length_eq_zero_iff.1 (by omega)
  subst this
  exact hend _ _ _ (by simp at hp; omega) (by simp)
 | succ m ih=>
  intro rest pre t n hm h ha hn hp hs
  match rest,hm,hn,hp,hs with
  | [],_,_,hp,_=>exact hend _ _ _ (by simp at hp; omega) (by simp)
  | [x],_,_,hp,_=>exact hend _ _ _ (by simp at hp; omega) (by simp)
  | k::v::q,hm,hn,hp,hs=>
   simp only [List.length_cons] at hm hn hp
   rw [q7s]
   have hlen:(pre++k::v::q).length=pre.length+(q.length+1+1):=by simp
   have e3:w64 ((pre.length:Int)+1)=((pre.length+1:Nat):Int):=qz (by omega)
   have e4:w64 ((pre.length:Int)+2)=((pre.length+2:Nat):Int):=by show IntKind.i64.wrap _=_; rw [ql (by omega) (by omega)]; omega
   have d1:decide (((pre.length+1:Nat):Int) < ((pre++k::v::q).length:Int))=true:=dYT (by omega)
   have d2:decide ((pre.length:Int) < ((pre++k::v::q).length:Int))=true:=dYT (by omega)
   have d3:decide (0<=(pre.length:Int))=true:=dYT (by omega)
   have d4:decide (0<=((pre.length+1:Nat):Int))=true:=dYT (by omega)
   have g1:(pre++k::v::q).getD pre.length eB=k:=by simp [List.getD_eq_getElem?_getD]
   have g2:(pre++k::v::q).getD (pre.length+1) eB=v:=by
    rw [List.getD_eq_getElem?_getD,List.getElem?_append_right (by omega)]
    simp
   simp only [e3,e4,d1,d2,d3,d4,Bool.and_self,cT,Int.toNat_natCast,g1,g2,qfv t k v (h.bd (by omega)),oB]
   have:=ih q (pre++[k,v]) (putB t k (1,(0,(v,[])))) (n+1) (by omega) (qeB h ha k v (hs k (List.mem_cons_self ..)) (hs v (List.mem_cons_of_mem _ (List.mem_cons_self ..)))) (qfn ha k _) (by omega) (by simp only [List.length_append,List.length_cons,List.length_nil]; omega) fun s h=>hs s (List.mem_cons_of_mem _ (List.mem_cons_of_mem _ h))
   rw [List.append_assoc,show (pre++[k,v]).length=pre.length+2 by simp] at this
   exact this
end Go.Den.S
