/- PxK: equations of the functions of this seat as the executor tells them, or plain facts about them. Conditions: none here. -/
import Derived.Test.YtbgaejnkjmjkhaaGreatDoorPxJ
set_option linter.all false
namespace Go.Den.S
open Go Go.Den
def fldN:List BA:=[jm,jL,q0I,q1M,jD,q54]
theorem qnw:strings_Fields q2u=some (fldN,()):=(wH _).trans (by kernel_rfl)
theorem q7Y {t:List DE} {k:BA} (h:tabB t=true) (hw:qK t k 3=false):∃ P,(undB t k).2.2=qx P/\AscF P/\P.length<=12:=by
 rcases qiC h hw with h | h
 ·exact ⟨[],by rw [h]; rfl,List.Pairwise.nil,by simp⟩
 ·exact qjO (v:=(3,undB t k)) h rfl
def q0E (P:List PF) (xs:List BA):List PF:=xs.foldl delP P
theorem q2O:∀ (xs:List BA) {P:List PF},AscF P->AscF (q0E P xs)/\(q0E P xs).length<=P.length
 | [],P,h=>⟨h,Nat.le_refl _⟩
 | x::r,P,h=>by
  obtain ⟨k1,k2⟩:=q2O r (qao h x)
  refine ⟨k1,Nat.le_trans k2 ?_⟩
  obtain ⟨A,B,h1,_,_,h4,h5⟩:=qcB h x
  unfold delP
  conv=>rhs; rw [h1]
  rw [h4,List.length_append,List.length_append]
  rcases h5 with ⟨_,h6⟩ | ⟨v,C,rfl,_,h6⟩
  ·rw [h6]; exact Nat.le_refl _
  ·rw [h6,List.length_cons]; omega
theorem qlN {P:List PF} {x:BA} {p:PF} (h:p∈delP P x):p∈P:=by
 unfold delP at h
 rcases List.mem_append.1 h with h | h<;>exact (List.mem_filter.1 h).1
theorem qa1:∀ (xs:List BA) {P:List PF} {p:PF},p∈q0E P xs->p∈P
 | [],_,_,h=>h
 | x::r,P,p,h=>qlN (qa1 r (P:=delP P x) h)
theorem qfY (vals:List BA):∀ (c:Int) (P:List PF),AscF P->P.length<=1000->vals.foldl (fun (p:Int×List PF) x=>(bif hasF p.2 x then p.1+1 else p.1,delP p.2 x)) (c,P)=(c+((P.length:Int) - ((q0E P vals).length:Int)),q0E P vals):=by
 induction vals with
 | nil=>intro c P h hl; simp [q0E]
 | cons x r ih=>
  intro c P h hl
  obtain ⟨n,_,_,_,h3,h4⟩:=q4P P h (by omega) x
  have hle:=(q2O [x] h).2
  rw [List.foldl_cons,ih _ _ (qao h x) (Nat.le_trans hle hl)]
  have e:q0E (delP P x) r=q0E P (x::r):=rfl
  rw [e]
  congr 1
  cases hm:hasF P x with
  | true=>have:=(h4 hm).2.1; simp only [cT]; omega
  | false=>rw [(h3 hm).1]; rfl
theorem qi3 (k:BA) (vals:List BA) (hv:vals.length<=2097152) (d:DD) (n u:Int) (x:BA) (P:List PF) (h:AscF P) (hl:P.length<=12) :
  qX k 0 vals (vals.length:Int) 0 d.1 d.2.1 d.2.2 n u x (qx P)=(yg d k (n,(u,(x,qx (q0E P vals))))).bind fun r14=>
   (qG ((P.length:Int) - ((q0E P vals).length:Int))).bind fun r15=>(q9 r14.2.1 r15.1).bind fun r16=>some ((),(r16.2.1,())):=by
 have:=wX (fun (acc:Int×List PF) i=>qX k acc.1 vals (vals.length:Int) i d.1 d.2.1 d.2.2 n u x (qx acc.2)) vals eB (fun (p:Int×List PF) x=>(bif hasF p.2 x then p.1+1 else p.1,delP p.2 x))
  (fun acc=>(yg d k (n,(u,(x,qx acc.2)))).bind fun r14=>(qG acc.1).bind fun r15=>(q9 r14.2.1 r15.1).bind fun r16=>some ((),(r16.2.1,()))) (fun acc i=>AscF acc.2/\acc.2.length<=12/\0<=acc.1/\acc.1<=i)
  (fun acc i hi hI=>by
   obtain ⟨m,_,_,k2,k3,k4⟩:=q4P acc.2 hI.1 (by omega) (vals.getD i eB)
   have hle:=(q2O [vals.getD i eB] hI.1).2
   constructor
   ·conv=>lhs; rw [q0l]
    have e1:decide ((i:Int) < (vals.length:Int))=true:=dYT (by omega)
    have e2:decide (0<=(i:Int))=true:=dYT (by omega)
    have e3:w64 ((i:Int)+1)=((i+1:Nat):Int):=qz (by omega)
    have e4:w64 (acc.1+1)=acc.1+1:=ql (by omega) (by omega)
    simp only [e1,e2,e3,e4,Bool.and_self,cT,Int.toNat_natCast,k2,oB]
    cases hm:hasF acc.2 (vals.getD i eB) with
    | true=>
     obtain ⟨q1,q2,w,q3,q4,q5,q6⟩:=k4 hm
     have e5:w64 (((m * 2:Nat):Int)+2)=((m * 2+2:Nat):Int):=by show IntKind.i64.wrap _=_; rw [ql (by omega) (by omega)]; omega
     simp only [cT,e5,q5,oB]
    | false=>simp only [cF,(k3 hm).1]
   ·refine ⟨qao hI.1 _,Nat.le_trans hle hI.2.1,?_,?_⟩
    ·show 0<=(bif hasF acc.2 (vals.getD i eB) then acc.1+1 else acc.1)
     cases hasF acc.2 (vals.getD i eB)<;>simp only [cT,cF]<;>omega
    ·show (bif hasF acc.2 (vals.getD i eB) then acc.1+1 else acc.1)<=_
     cases hasF acc.2 (vals.getD i eB)<;>simp only [cT,cF]<;>omega)
  (fun acc hI=>by
   show qX k acc.1 vals (vals.length:Int) (vals.length:Int) d.1 d.2.1 d.2.2 n u x (qx acc.2)=_
   rw [q0l]
   simp only [Int.lt_irrefl,decide_false,cF]) (0,P) ⟨h,hl,by simp,by simp⟩
 rw [qfY vals 0 P h (by omega)] at this
 simp only [Int.zero_add] at this
 exact this
theorem qc7 (t:List DE) (a k:BA) (vals:List BA) (hv:vals.length<=2097152) (n u:Int) (x:BA) (P:List PF) (h:AscF P) (hl:P.length<=12) :
  q0A t (a::k::vals) k 0 2 n u x (qx P)=(qE ((P.length:Int) - ((q0E P vals).length:Int))).bind fun r11=>(wC t k (n,(u,(x,qx (q0E P vals)))) r11.1).bind fun r12=>some (r12.1,()):=by
 have:=wX (fun (acc:Int×List PF) i=>q0A t (a::k::vals) k acc.1 (i+2) n u x (qx acc.2)) vals eB (fun (p:Int×List PF) x=>(bif hasF p.2 x then p.1+1 else p.1,delP p.2 x))
  (fun acc=>(qE acc.1).bind fun r11=>(wC t k (n,(u,(x,qx acc.2))) r11.1).bind fun r12=>some (r12.1,())) (fun acc i=>AscF acc.2/\acc.2.length<=12/\0<=acc.1/\acc.1<=i)
  (fun acc i hi hI=>by
   obtain ⟨m,_,k2,_,k3,k4⟩:=q4P acc.2 hI.1 (by omega) (vals.getD i eB)
   have hle:=(q2O [vals.getD i eB] hI.1).2
   have hg:(a::k::vals).getD (i+2) eB=vals.getD i eB:=rfl
   constructor
   ·conv=>lhs; rw [q6I]
    have e0:(i:Int)+2=((i+2:Nat):Int):=rfl
    have e1:decide (((i+2:Nat):Int) < ((a::k::vals).length:Int))=true:=dYT (by simp only [List.length_cons]; omega)
    have e2:decide (0<=((i+2:Nat):Int))=true:=dYT (by omega)
    have e3:w64 (((i+2:Nat):Int)+1)=((i+1:Nat):Int)+2:=by rw [show w64 (((i+2:Nat):Int)+1)=((i+2+1:Nat):Int) from qz (by omega)]; omega
    have e4:w64 (acc.1+1)=acc.1+1:=ql (by omega) (by omega)
    simp only [e0,e1,e2,e3,e4,Bool.and_self,cT,Int.toNat_natCast,hg,k2,oB]
    cases hm:hasF acc.2 (vals.getD i eB) with
    | true=>
     obtain ⟨q1,q2,w,q3,q4,q5,q6⟩:=k4 hm
     simp only [cT,q4,oB]
    | false=>simp only [cF,(k3 hm).1]
   ·refine ⟨qao hI.1 _,Nat.le_trans hle hI.2.1,?_,?_⟩
    ·show 0<=(bif hasF acc.2 (vals.getD i eB) then acc.1+1 else acc.1)
     cases hasF acc.2 (vals.getD i eB)<;>simp only [cT,cF]<;>omega
    ·show (bif hasF acc.2 (vals.getD i eB) then acc.1+1 else acc.1)<=_
     cases hasF acc.2 (vals.getD i eB)<;>simp only [cT,cF]<;>omega)
  (fun acc hI=>by
   show q0A t (a::k::vals) k acc.1 ((vals.length:Int)+2) n u x (qx acc.2)=_
   rw [q6I]
   have e1:decide ((vals.length:Int)+2 < ((a::k::vals).length:Int))=false:=dYF (by simp only [List.length_cons]; omega)
   simp only [e1,cF]) (0,P) ⟨h,hl,by simp,by simp⟩
 rw [qfY vals 0 P h (by omega)] at this
 simp only [Int.zero_add] at this
 exact this
def q0M (P:List PF):List BA:=P.map Prod.fst
theorem qdj {R:Type} (F:List BA->Int->Option R) (fin:List BA->Option R) (P:List PF) (hF:∀ (acc:List BA) (j:Nat),j < P.length->acc.length=j->F acc ((j * 2:Nat):Int)=F (acc++[(qx P).getD (j * 2) eB]) (((j+1) * 2:Nat):Int)) (hE:∀ acc,F acc ((P.length * 2:Nat):Int)=fin acc):F [] 0=fin (q0M P):=by
 have:=wX (fun acc i=>F acc (i * 2)) P (eB,eB) (fun a p=>a++[p.1]) fin (fun acc i=>acc.length=i)
  (fun acc i hi hI=>by
   constructor
   ·have:=hF acc i hi hI
    rw [(q20 P i hi).1] at this
    rw [show ((i:Int) * 2)=((i * 2:Nat):Int) by omega,this,wS hi]
    congr 1
   ·rw [List.length_append,hI]; rfl)
  (fun acc _=>by
   rw [show ((P.length:Int) * 2)=((P.length * 2:Nat):Int) by omega]
   exact hE acc) [] rfl
 rw [q2W] at this
 exact this
theorem qi2 (P:List PF) (hl:P.length<=1000000):q5u (qx P)=some (q0M P,()):=by
 have hfl:=wI P
 rw [qcE]
 exact qdj (fun acc i=>q3H (qx P) acc i) (fun l=>some (l,())) P (fun acc j hj ha=>by
  conv=>lhs; rw [q6A]
  have e1:decide (((j * 2:Nat):Int) < ((qx P).length:Int))=true:=dYT (by omega)
  have e2:decide (0<=((j * 2:Nat):Int))=true:=dYT (by omega)
  have e3:w64 (((j * 2:Nat):Int)+2)=(((j+1) * 2:Nat):Int):=by show IntKind.i64.wrap _=_; rw [ql (by omega) (by omega)]; omega
  simp only [e1,e2,e3,Bool.and_self,cT,Int.toNat_natCast,qI (show (acc.length+1) * 16<=140737488355328 by omega)]) (fun acc=>by
  rw [q6A]
  have e1:decide (((P.length * 2:Nat):Int) < ((qx P).length:Int))=false:=dYF (by omega)
  simp only [e1,cF])
theorem qk1 (t:List DE) (n u:Int) (x:BA) (P:List PF) (hl:P.length<=1000000):q2q t [] 0 n u x (qx P)=(qm t).bind fun r9=>(jr (q0M P)).bind fun r10=>some ((r9.1,(r10.1,true)),()):=by
 have hfl:=wI P
 exact qdj (fun acc i=>q2q t acc i n u x (qx P)) (fun l=>(qm t).bind fun r9=>(jr l).bind fun r10=>some ((r9.1,(r10.1,true)),())) P (fun acc j hj ha=>by
  conv=>lhs; rw [q6J]
  have e1:decide (((j * 2:Nat):Int) < ((qx P).length:Int))=true:=dYT (by omega)
  have e2:decide (0<=((j * 2:Nat):Int))=true:=dYT (by omega)
  have e3:w64 (((j * 2:Nat):Int)+2)=(((j+1) * 2:Nat):Int):=by show IntKind.i64.wrap _=_; rw [ql (by omega) (by omega)]; omega
  simp only [e1,e2,e3,Bool.and_self,cT,Int.toNat_natCast,qI (show (acc.length+1) * 16<=140737488355328 by omega)]) (fun acc=>by
  rw [q6J]
  have e1:decide (((P.length * 2:Nat):Int) < ((qx P).length:Int))=false:=dYF (by omega)
  simp only [e1,cF])
end Go.Den.S
