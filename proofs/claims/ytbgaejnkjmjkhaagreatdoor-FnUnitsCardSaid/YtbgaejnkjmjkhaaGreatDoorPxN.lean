/- PxN: equations of the functions of this seat as the executor tells them, or plain facts about them. Conditions: none here. -/
import Derived.Test.YtbgaejnkjmjkhaaGreatDoorPxM
set_option linter.all false
namespace Go.Den.S
open Go Go.Den
def lstN:List BA:=[zH,zK,q2l,q1g,q1I,j5,zm]
theorem qnA:strings_Fields q2E=some (lstN,()):=(wH _).trans (by kernel_rfl)
def bndB (a b n:Int):Int×Int:=
 let lo:=if a < 0 then (if a+n < 0 then 0 else a+n) else a
 let hi:=if b < 0 then (if b+n < n - 1 then b+n else n - 1) else (if b < n - 1 then b else n - 1)
 if 1<=n/\n<=1000 then (if lo > hi then (0,0) else (lo,hi+1)) else (0,0)
theorem qlb (a b n:Int) (h0:0<=n):0<=(bndB a b n).1/\(bndB a b n).1<=(bndB a b n).2/\(bndB a b n).2<=n:=by
 unfold bndB
 have hL:0<=(if a < 0 then (if a+n < 0 then 0 else a+n) else a):=by (repeat' split)<;>omega
 have hH:(if b < 0 then (if b+n < n - 1 then b+n else n - 1) else (if b < n - 1 then b else n - 1))<=n - 1:=by (repeat' split)<;>omega
 generalize (if a < 0 then (if a+n < 0 then 0 else a+n) else a)=lo at hL ⊢
 generalize (if b < 0 then (if b+n < n - 1 then b+n else n - 1) else (if b < n - 1 then b else n - 1))=hi at hH ⊢
 by_cases hr:1<=n/\n<=1000
 ·rw [if_pos hr]
  by_cases h:lo > hi
  ·rw [if_pos h]; exact ⟨Int.le_refl _,Int.le_refl _,h0⟩
  ·rw [if_neg h]
   refine ⟨hL,?_,?_⟩
   ·show lo<=hi+1
    omega
   ·show hi+1<=n
    omega
 ·rw [if_neg hr]; exact ⟨Int.le_refl _,Int.le_refl _,h0⟩
theorem qf3 (a b n:Int) (ha:-1000000000<=a/\a<=1000000000) (hb:-1000000000<=b/\b<=1000000000) (hn:0<=n/\n<=1000000):q76 a b n=some (bndB a b n,()):=by
 rw [qeW,q0D]
 have w1:w64 (a+n)=a+n:=ql (by omega) (by omega)
 have w2:w64 (b+n)=b+n:=ql (by omega) (by omega)
 have w3:w64 (n - 1)=n - 1:=ql (by omega) (by omega)
 have f1:q2m a n=some ((if a < 0 then a+n else a),()):=by
  rw [q5W,w1]
  by_cases h:a < 0
  ·rw [dYT h,if_pos h]; rfl
  ·rw [dYF h,if_neg h]; rfl
 have f2:q2m b n=some ((if b < 0 then b+n else b),()):=by
  rw [q5W,w2]
  by_cases h:b < 0
  ·rw [dYT h,if_pos h]; rfl
  ·rw [dYF h,if_neg h]; rfl
 simp only [oB,f1,f2,w3]
 unfold bndB
 by_cases hr:1<=n/\n<=1000
 ·rw [dYT hr.1,dYT hr.2]
  simp only [Bool.and_self,Bool.not_true,cF,Bool.cond_decide]
  rw [if_pos hr]
  have w4:∀ x:Int,x<=n - 1->-2000000000<=x->w64 (x+1)=x+1:=fun x h1 h2=>ql (by omega) (by omega)
  have hL:(if 0 > (if a < 0 then a+n else a) then 0 else (if a < 0 then a+n else a))=(if a < 0 then (if a+n < 0 then 0 else a+n) else a):=by (repeat' split)<;>omega
  have hH:(if n - 1 < (if b < 0 then b+n else b) then n - 1 else (if b < 0 then b+n else b))=(if b < 0 then (if b+n < n - 1 then b+n else n - 1) else (if b < n - 1 then b else n - 1)):=by (repeat' split)<;>omega
  rw [hL,hH]
  have hHb:(if b < 0 then (if b+n < n - 1 then b+n else n - 1) else (if b < n - 1 then b else n - 1))<=n - 1/\-2000000000<=(if b < 0 then (if b+n < n - 1 then b+n else n - 1) else (if b < n - 1 then b else n - 1)):=by constructor<;>(repeat' split)<;>omega
  rw [w4 _ hHb.1 hHb.2]
  generalize (if a < 0 then (if a+n < 0 then 0 else a+n) else a)=lo
  generalize (if b < 0 then (if b+n < n - 1 then b+n else n - 1) else (if b < n - 1 then b else n - 1))=hi
  by_cases h:lo > hi
  ·rw [if_pos h,if_pos h]
  ·rw [if_neg h,if_neg h]
 ·have:(decide (1<=n)&&decide (n<=1000))=false:=by
   rw [Bool.and_eq_false_iff,decide_eq_false_iff_not,decide_eq_false_iff_not]; omega
  rw [this,if_neg hr]; rfl
theorem qey (a b n:Int) (ha:-1000000000<=a/\a<=1000000000) (hb:-1000000000<=b/\b<=1000000000) (hn:0<=n/\n<=1000000):q9z a b n=some (bndB a b n,()):=by
 rw [qeP,jW]
 have w1:w64 (a+n)=a+n:=ql (by omega) (by omega)
 have w2:w64 (b+n)=b+n:=ql (by omega) (by omega)
 have w3:w64 (n - 1)=n - 1:=ql (by omega) (by omega)
 have w4:w64 (n - 1+1)=n:=by show IntKind.i64.wrap _=_; rw [ql (by omega) (by omega)]; omega
 have w5:w64 (b+n+1)=b+n+1:=ql (by omega) (by omega)
 have w6:w64 (b+1)=b+1:=ql (by omega) (by omega)
 simp only [oB,w1,w2,w3,w4,w5,w6]
 unfold bndB
 by_cases hr:1<=n/\n<=1000
 ·rw [dYT hr.1,dYT hr.2]
  simp only [Bool.and_self,Bool.not_true,cF,Bool.cond_decide]
  rw [if_pos hr]
  by_cases h1:a < 0<;>by_cases h2:b < 0<;>by_cases h3:a+n < 0<;>by_cases h4:b+n < n - 1<;>by_cases h5:b < n - 1<;>simp only [h1,h2,h3,h4,h5,if_true,if_false]
  all_goals
   (repeat' split)<;>first
    | rfl
    | (exfalso; omega)
    | (simp only [Option.some.injEq,Prod.mk.injEq,and_true,true_and]; omega)
 ·have:(decide (1<=n)&&decide (n<=1000))=false:=by
   rw [Bool.and_eq_false_iff,decide_eq_false_iff_not,decide_eq_false_iff_not]; omega
  rw [this,if_neg hr]; rfl
end Go.Den.S
namespace Go.Den.S
open Go Go.Den
abbrev nilR:BA:=q4t
def idxR (l:List BA) (n:Int):BA:=
 let i:=if n < 0 then n+(l.length:Int) else n
 if 0<=i/\i<=(l.length:Int) - 1 then zI (gi l i.toNat) else nilR
def cutL (l:List BA) (p:Int×Int):List BA:=(l.drop p.1.toNat).take (p.2.toNat - p.1.toNat)
def lstD (t:List DE) (u k:BA) (vals:List BA):DD:=
 let v:=undB t k
 let l:=v.2.2
 bif qK t k 2 then (t,(y5 yh,true))
 else bif decide (u=zH) then (q1v t k (2,(v.1,(v.2.1,vals.reverse++l))),(numB ((vals.reverse++l).length:Int),false))
 else bif decide (u=zK) then (q1v t k (2,(v.1,(v.2.1,l++vals))),(numB ((l++vals).length:Int),false))
 else bif decide (u=q2l) then (bif decide (l=[]) then (t,(nilR,false)) else (q1v t k (2,(v.1,(v.2.1,l.drop 1))),(zI (gi l 0),false)))
 else bif decide (u=q1g) then (bif decide (l=[]) then (t,(nilR,false)) else (q1v t k (2,(v.1,(v.2.1,l.take (l.length - 1)))),(zI (gi l (l.length - 1)),false)))
 else bif decide (u=q1I) then (t,(numB (l.length:Int),false))
 else bif decide (u=zm) then (bif !(rdI (gi vals 0)).2 then (t,(y5 qO,true)) else (t,(idxR l (rdI (gi vals 0)).1,false)))
 else bif !(rdI (gi vals 0)).2 then (t,(y5 qO,true)) else bif !(rdI (gi vals 1)).2 then (t,(y5 qO,true))
 else (t,(arrB ((cutL l (bndB (rdI (gi vals 0)).1 (rdI (gi vals 1)).1 (l.length:Int))).map zI),false))
theorem q1H (s:BA):-1000000000<=(rdI s).1/\(rdI s).1<=1000000000:=by
 rcases qix s with h | ⟨n,h1,h2,_,h3⟩
 ·rw [h]; exact ⟨by decide,by decide⟩
 ·rw [h3]; exact ⟨h1,h2⟩
theorem q3C (d:DD) (s:BA) (hs:s.size<=100000000):qD d s=some ((rdI s).1,((bif !(rdI s).2 then badB d qO else d),())):=by
 rw [q3r,qe4 s hs]
 simp only [oB,q2x d qO (by decide)]
 cases (rdI s).2<;>rfl
theorem qaj:∀ (vals l:List BA),vals.foldl (fun a x=>[x]++a) l=vals.reverse++l
 | [],l=>rfl
 | x::r,l=>by rw [List.foldl_cons,qaj r]; simp
theorem qjA (k:BA) (vals:List BA) (d:DD) (n u:Int) (x:BA) (l:List BA) (hl:l.length+vals.length<=5000000) :
  yx k vals (vals.length:Int) 0 d.1 d.2.1 d.2.2 n u x l=(qg d k (n,(u,(x,vals.reverse++l)))).bind fun r13=>
   (qG ((vals.reverse++l).length:Int)).bind fun r14=>(q9 r13.2.1 r14.1).bind fun r15=>some ((),(r15.2.1,())):=by
 have:=wX (fun acc i=>yx k vals (vals.length:Int) i d.1 d.2.1 d.2.2 n u x acc) vals eB (fun a x=>[x]++a) (fun acc=>(qg d k (n,(u,(x,acc)))).bind fun r13=>
   (qG (acc.length:Int)).bind fun r14=>(q9 r13.2.1 r14.1).bind fun r15=>some ((),(r15.2.1,()))) (fun acc i=>acc.length=l.length+i)
  (fun acc i hi hI=>by
   constructor
   ·conv=>lhs; rw [q0x]
    have e1:decide ((i:Int) < (vals.length:Int))=true:=dYT (by omega)
    have e2:decide (0<=(i:Int))=true:=dYT (by omega)
    have e3:w64 ((i:Int)+1)=((i+1:Nat):Int):=qz (by omega)
    simp only [e1,e2,e3,Bool.and_self,cT,Int.toNat_natCast,qI (show (1+acc.length) * 16<=140737488355328 by omega)]
   ·show ([_]++acc).length=_
    rw [List.length_append,hI]; simp; omega)
  (fun acc hI=>by
   show yx k vals (vals.length:Int) (vals.length:Int) d.1 d.2.1 d.2.2 n u x acc=_
   rw [q0x]
   simp only [Int.lt_irrefl,decide_false,cF]) l (by simp)
 rw [qaj] at this
 exact this
theorem qdb (t:List DE) (a k:BA) (vals:List BA) (n u:Int) (x:BA) (l:List BA) (hl:l.length+vals.length<=5000000) :
  q1B t (a::k::vals) k 2 n u x l=(qE ((vals.reverse++l).length:Int)).bind fun r10=>(wC t k (n,(u,(x,vals.reverse++l))) r10.1).bind fun r11=>some (r11.1,()):=by
 have:=wX (fun acc i=>q1B t (a::k::vals) k (i+2) n u x acc) vals eB (fun a x=>[x]++a)
  (fun acc=>(qE (acc.length:Int)).bind fun r10=>(wC t k (n,(u,(x,acc))) r10.1).bind fun r11=>some (r11.1,())) (fun acc i=>acc.length=l.length+i)
  (fun acc i hi hI=>by
   have hg:(a::k::vals).getD (i+2) eB=vals.getD i eB:=rfl
   constructor
   ·conv=>lhs; rw [q7n]
    have e0:(i:Int)+2=((i+2:Nat):Int):=rfl
    have e1:decide (((i+2:Nat):Int) < ((a::k::vals).length:Int))=true:=dYT (by simp only [List.length_cons]; omega)
    have e2:decide (0<=((i+2:Nat):Int))=true:=dYT (by omega)
    have e3:w64 (((i+2:Nat):Int)+1)=((i+1:Nat):Int)+2:=by rw [show w64 (((i+2:Nat):Int)+1)=((i+2+1:Nat):Int) from qz (by omega)]; omega
    simp only [e0,e1,e2,e3,Bool.and_self,cT,Int.toNat_natCast,hg,qI (show (1+acc.length) * 16<=140737488355328 by omega)]
   ·show ([_]++acc).length=_
    rw [List.length_append,hI]; simp; omega)
  (fun acc hI=>by
   show q1B t (a::k::vals) k ((vals.length:Int)+2) n u x acc=_
   rw [q7n]
   have e1:decide ((vals.length:Int)+2 < ((a::k::vals).length:Int))=false:=dYF (by simp only [List.length_cons]; omega)
   simp only [e1,cF]) l (by simp)
 rw [qaj] at this
 exact this
def popD (d:DD) (k:BA) (v:DV) (found back:Bool):DD:=
 bif !found then sayB d nilR else bif d.2.2 then sayB d nilR else
  bif back then (q1v d.1 k (v.1,(v.2.1,(v.2.2.1,v.2.2.2.take (v.2.2.2.length - 1)))),(zI (gi v.2.2.2 (v.2.2.2.length - 1)),false))
  else (q1v d.1 k (v.1,(v.2.1,(v.2.2.1,v.2.2.2.drop 1))),(zI (gi v.2.2.2 0),false))
theorem qn6 (d:DD) (k:BA) (v:DV) (found back:Bool) (h:Bd d.1) (ha:Asc d.1) (hne:found=true->d.2.2=false->1<=v.2.2.2.length) (hl:v.2.2.2.length<=1000000) (hs:∀ s∈v.2.2.2,s.size<=1000000):wT d k v found back=some ((),(popD d k v found back,())):=by
 rw [q4e,q78]
 obtain ⟨t,q,b⟩:=d
 unfold popD
 cases found with
 | false=>simp only [Bool.not_false,cT,oB,wz]
 | true=>
  cases b with
  | true=>simp only [Bool.not_true,cF,cT,oB,wz]
  | false=>
   have hn:=hne rfl rfl
   have e1:decide ((0:Int) < (v.2.2.2.length:Int))=true:=dYT (by omega)
   have e2:decide ((1:Int)<=(v.2.2.2.length:Int))=true:=dYT (by omega)
   have e3:w64 ((v.2.2.2.length:Int) - 1)=((v.2.2.2.length - 1:Nat):Int):=by show IntKind.i64.wrap _=_; rw [ql (by omega) (by omega)]; omega
   have e4:decide ((0:Int)<=((v.2.2.2.length - 1:Nat):Int))=true:=dYT (by omega)
   have e5:decide (((v.2.2.2.length - 1:Nat):Int) < (v.2.2.2.length:Int))=true:=dYT (by omega)
   have e6:decide (((v.2.2.2.length - 1:Nat):Int)<=(v.2.2.2.length:Int))=true:=dYT (by omega)
   have s1:=hs (gi v.2.2.2 (v.2.2.2.length - 1)) (yj (by omega))
   have s2:=hs (gi v.2.2.2 0) (yj (by omega))
   have e7:(v.2.2.2.drop 1).take (v.2.2.2.length - 1)=v.2.2.2.drop 1:=List.take_of_length_le (by rw [List.length_drop]; exact Nat.le_refl _)
   simp only [Bool.not_true,cF,e1,e2,e3,e4,e5,e6,Int.le_refl,decide_true,show decide ((0:Int)<=1)=true from rfl,Bool.and_self,cT,Int.toNat_natCast,show Int.toNat 0=0 from rfl,show Int.toNat 1=1 from rfl,Nat.sub_zero,List.drop_zero,e7,qeG _ k _ h ha,oB,q2t _ (show (gi v.2.2.2 (v.2.2.2.length - 1)).size<=1000000000 by omega),q2t _ (show (gi v.2.2.2 0).size<=1000000000 by omega),wz]
   cases back<;>rfl
end Go.Den.S
