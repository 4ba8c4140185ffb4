/- PxO: equations of the functions of this seat as the executor tells them, or plain facts about them. Conditions: none here. -/
import Derived.Test.YtbgaejnkjmjkhaaGreatDoorPxN
set_option linter.all false
namespace Go.Den.S
open Go Go.Den
abbrev nilR:BA:=q4t
def idxR (l:List BA) (n:Int):BA:=
 let i:=if n < 0 then n+(l.length:Int) else n
 if 0<=i/\i<=(l.length:Int) - 1 then zI (gi l i.toNat) else nilR
def cutL (l:List BA) (p:Int×Int):List BA:=(l.drop p.1.toNat).take (p.2.toNat - p.1.toNat)
def lstD (t:List DE) (u k:BA) (vals:List BA):DD:=
 let v:=undB t k
 let l:=v.2.2
 bif qK t k 2 then (t,(y5 yh,true))
 else bif decide (u=zH) then (q1v t k (2,(v.1,(v.2.1,vals.reverse++l))),(numB ((vals.reverse++l).length:Int),false))
 else bif decide (u=zK) then (q1v t k (2,(v.1,(v.2.1,l++vals))),(numB ((l++vals).length:Int),false))
 else bif decide (u=q2l) then (bif decide (l=[]) then (t,(nilR,false)) else (q1v t k (2,(v.1,(v.2.1,l.drop 1))),(zI (gi l 0),false)))
 else bif decide (u=q1g) then (bif decide (l=[]) then (t,(nilR,false)) else (q1v t k (2,(v.1,(v.2.1,l.take (l.length - 1)))),(zI (gi l (l.length - 1)),false)))
 else bif decide (u=q1I) then (t,(numB (l.length:Int),false))
 else bif decide (u=zm) then (bif !(rdI (gi vals 0)).2 then (t,(y5 qO,true)) else (t,(idxR l (rdI (gi vals 0)).1,false)))
 else bif !(rdI (gi vals 0)).2 then (t,(y5 qO,true)) else bif !(rdI (gi vals 1)).2 then (t,(y5 qO,true))
 else (t,(arrB ((cutL l (bndB (rdI (gi vals 0)).1 (rdI (gi vals 1)).1 (l.length:Int))).map zI),false))
theorem q1H (s:BA):-1000000000<=(rdI s).1/\(rdI s).1<=1000000000:=by
 rcases qix s with h | ⟨n,h1,h2,_,h3⟩
 ·rw [h]; exact ⟨by decide,by decide⟩
 ·rw [h3]; exact ⟨h1,h2⟩
theorem q3C (d:DD) (s:BA) (hs:s.size<=100000000):qD d s=some ((rdI s).1,((bif !(rdI s).2 then badB d qO else d),())):=by
 rw [q3r,qe4 s hs]
 simp only [oB,q2x d qO (by decide)]
 cases (rdI s).2<;>rfl
theorem qaj:∀ (vals l:List BA),vals.foldl (fun a x=>[x]++a) l=vals.reverse++l
 | [],l=>rfl
 | x::r,l=>by rw [List.foldl_cons,qaj r]; simp
theorem qjA (k:BA) (vals:List BA) (d:DD) (n u:Int) (x:BA) (l:List BA) (hl:l.length+vals.length<=5000000) :
  yx k vals (vals.length:Int) 0 d.1 d.2.1 d.2.2 n u x l=(qg d k (n,(u,(x,vals.reverse++l)))).bind fun r13=>
   (qG ((vals.reverse++l).length:Int)).bind fun r14=>(q9 r13.2.1 r14.1).bind fun r15=>some ((),(r15.2.1,())):=by
 have:=wX (fun acc i=>yx k vals (vals.length:Int) i d.1 d.2.1 d.2.2 n u x acc) vals eB (fun a x=>[x]++a) (fun acc=>(qg d k (n,(u,(x,acc)))).bind fun r13=>
   (qG (acc.length:Int)).bind fun r14=>(q9 r13.2.1 r14.1).bind fun r15=>some ((),(r15.2.1,()))) (fun acc i=>acc.length=l.length+i)
  (fun acc i hi hI=>by
   constructor
   ·conv=>lhs; rw [q0x]
    have e1:decide ((i:Int) < (vals.length:Int))=true:=dYT (by omega)
    have e2:decide (0<=(i:Int))=true:=dYT (by omega)
    have e3:w64 ((i:Int)+1)=((i+1:Nat):Int):=qz (by omega)
    simp only [e1,e2,e3,Bool.and_self,cT,Int.toNat_natCast,qI (show (1+acc.length) * 16<=140737488355328 by omega)]
   ·show ([_]++acc).length=_
    rw [List.length_append,hI]; simp; omega)
  (fun acc hI=>by
   show yx k vals (vals.length:Int) (vals.length:Int) d.1 d.2.1 d.2.2 n u x acc=_
   rw [q0x]
   simp only [Int.lt_irrefl,decide_false,cF]) l (by simp)
 rw [qaj] at this
 exact this
theorem qdb (t:List DE) (a k:BA) (vals:List BA) (n u:Int) (x:BA) (l:List BA) (hl:l.length+vals.length<=5000000) :
  q1B t (a::k::vals) k 2 n u x l=(qE ((vals.reverse++l).length:Int)).bind fun r10=>(wC t k (n,(u,(x,vals.reverse++l))) r10.1).bind fun r11=>some (r11.1,()):=by
 have:=wX (fun acc i=>q1B t (a::k::vals) k (i+2) n u x acc) vals eB (fun a x=>[x]++a)
  (fun acc=>(qE (acc.length:Int)).bind fun r10=>(wC t k (n,(u,(x,acc))) r10.1).bind fun r11=>some (r11.1,())) (fun acc i=>acc.length=l.length+i)
  (fun acc i hi hI=>by
   have hg:(a::k::vals).getD (i+2) eB=vals.getD i eB:=rfl
   constructor
   ·conv=>lhs; rw [q7n]
    have e0:(i:Int)+2=((i+2:Nat):Int):=rfl
    have e1:decide (((i+2:Nat):Int) < ((a::k::vals).length:Int))=true:=dYT (by simp only [List.length_cons]; omega)
    have e2:decide (0<=((i+2:Nat):Int))=true:=dYT (by omega)
    have e3:w64 (((i+2:Nat):Int)+1)=((i+1:Nat):Int)+2:=by rw [show w64 (((i+2:Nat):Int)+1)=((i+2+1:Nat):Int) from qz (by omega)]; omega
    simp only [e0,e1,e2,e3,Bool.and_self,cT,Int.toNat_natCast,hg,qI (show (1+acc.length) * 16<=140737488355328 by omega)]
   ·show ([_]++acc).length=_
    rw [List.length_append,hI]; simp; omega)
  (fun acc hI=>by
   show q1B t (a::k::vals) k ((vals.length:Int)+2) n u x acc=_
   rw [q7n]
   have e1:decide ((vals.length:Int)+2 < ((a::k::vals).length:Int))=false:=dYF (by simp only [List.length_cons]; omega)
   simp only [e1,cF]) l (by simp)
 rw [qaj] at this
 exact this
def popD (d:DD) (k:BA) (v:DV) (found back:Bool):DD:=
 bif !found then sayB d nilR else bif d.2.2 then sayB d nilR else
  bif back then (q1v d.1 k (v.1,(v.2.1,(v.2.2.1,v.2.2.2.take (v.2.2.2.length - 1)))),(zI (gi v.2.2.2 (v.2.2.2.length - 1)),false))
  else (q1v d.1 k (v.1,(v.2.1,(v.2.2.1,v.2.2.2.drop 1))),(zI (gi v.2.2.2 0),false))
theorem qn6 (d:DD) (k:BA) (v:DV) (found back:Bool) (h:Bd d.1) (ha:Asc d.1) (hne:found=true->d.2.2=false->1<=v.2.2.2.length) (hl:v.2.2.2.length<=1000000) (hs:∀ s∈v.2.2.2,s.size<=1000000):wT d k v found back=some ((),(popD d k v found back,())):=by
 rw [q4e,q78]
 obtain ⟨t,q,b⟩:=d
 unfold popD
 cases found with
 | false=>simp only [Bool.not_false,cT,oB,wz]
 | true=>
  cases b with
  | true=>simp only [Bool.not_true,cF,cT,oB,wz]
  | false=>
   have hn:=hne rfl rfl
   have e1:decide ((0:Int) < (v.2.2.2.length:Int))=true:=dYT (by omega)
   have e2:decide ((1:Int)<=(v.2.2.2.length:Int))=true:=dYT (by omega)
   have e3:w64 ((v.2.2.2.length:Int) - 1)=((v.2.2.2.length - 1:Nat):Int):=by show IntKind.i64.wrap _=_; rw [ql (by omega) (by omega)]; omega
   have e4:decide ((0:Int)<=((v.2.2.2.length - 1:Nat):Int))=true:=dYT (by omega)
   have e5:decide (((v.2.2.2.length - 1:Nat):Int) < (v.2.2.2.length:Int))=true:=dYT (by omega)
   have e6:decide (((v.2.2.2.length - 1:Nat):Int)<=(v.2.2.2.length:Int))=true:=dYT (by omega)
   have s1:=hs (gi v.2.2.2 (v.2.2.2.length - 1)) (yj (by omega))
   have s2:=hs (gi v.2.2.2 0) (yj (by omega))
   have e7:(v.2.2.2.drop 1).take (v.2.2.2.length - 1)=v.2.2.2.drop 1:=List.take_of_length_le (by rw [List.length_drop]; exact Nat.le_refl _)
   simp only [Bool.not_true,cF,e1,e2,e3,e4,e5,e6,Int.le_refl,decide_true,show decide ((0:Int)<=1)=true from rfl,Bool.and_self,cT,Int.toNat_natCast,show Int.toNat 0=0 from rfl,show Int.toNat 1=1 from rfl,Nat.sub_zero,List.drop_zero,e7,qeG _ k _ h ha,oB,q2t _ (show (gi v.2.2.2 (v.2.2.2.length - 1)).size<=1000000000 by omega),q2t _ (show (gi v.2.2.2 0).size<=1000000000 by omega),wz]
   cases back<;>rfl
end Go.Den.S
