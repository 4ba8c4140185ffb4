/- PxC: equations of the functions of this seat as the executor tells them, or plain facts about them. Conditions: none here. -/
import Derived.Test.YtbgaejnkjmjkhaaGreatDoorPxB
set_option linter.all false
namespace Go.Den.S
open Go Go.Den
abbrev gi (l:List BA) (i:Nat):BA:=l.getD i eB
def itB (st:Nat) (l:List BA) (i:Nat):Bool:=
 decide ((gi l i).size<=60)&&(!(decide (0 < st)&&decide (i % st=0)&&decide (st<=i))||blt (gi l (i - st)) (gi l i))
def itsB (st:Nat) (l:List BA):Bool:=(List.range l.length).all (itB st l)
def stB (k:Int):Nat:=if k=2 then 0 else if k=3 then 2 else 1
def valB (v:DV):Bool:=
 decide (0<=v.2.1)&&decide (v.2.1<=100000) &&
  bif decide (v.1=1) then decide (v.2.2.1.size<=60)&&decide (v.2.2.2=[])
  else decide (v.1=2\/v.1=3\/v.1=4)&&decide (v.2.2.1=eB)&&decide (1<=v.2.2.2.length)&&decide (v.2.2.2.length<=24)&&(!decide (v.1=3)||decide (v.2.2.2.length % 2=0))&&itsB (stB v.1) v.2.2.2
theorem q0D (a b c:Int):jy a b c=some (decide (b<=a)&&decide (a<=c),()):=by
 rw [qeA]
 by_cases h:a>=b
 ·simp only [dYT h,cT,dYT (show b<=a from h),Bool.true_and]
 ·simp only [dYF h,cF,dYF (show ¬ b<=a from h),Bool.false_and]
theorem jW (a b c:Int):q04 a b c=some (decide (b<=a)&&decide (a<=c),()):=by
 rw [qgi]
 by_cases h:a>=b
 ·simp only [dYT h,cT,dYT (show b<=a from h),Bool.true_and]
 ·simp only [dYF h,cF,dYF (show ¬ b<=a from h),Bool.false_and]
theorem qcT (st:Nat) (hst:st<=2) (l:List BA) (hl:l.length<=100000000):zQ l (st:Int) l (l.length:Int) 0=some (itsB st l&&(decide (1<=l.length)&&decide (l.length<=24)),()):=by
 have:=qag (fun i=>zQ l (st:Int) l (l.length:Int) i) l.length (itB st l) (some (false,())) (some ((decide (1<=l.length)&&decide (l.length<=24)),()))
  (fun i hi=>by
   conv=>lhs; rw [q7u]
   have e1:decide ((i:Int) < (l.length:Int))=true:=dYT (by omega)
   have e2:decide (0<=(i:Int))=true:=dYT (by omega)
   have e3:w64 ((i:Int)+1)=((i+1:Nat):Int):=qz (by omega)
   simp only [e1,e2,e3,Bool.and_self,cT,Int.toNat_natCast]
   unfold itB
   by_cases hs:(gi l i).size<=60
   ·rw [dYF (show ¬ (((gi l i).size:Int) > 60) by omega),dYT hs]
    simp only [cF,Bool.true_and]
    by_cases h0:0 < st
    ·rw [dYT (show (st:Int) > 0 by omega),dYT h0]
     have hne:((st:Int) != 0)=true:=by simp; omega
     have hmod:(Int.tmod (i:Int) (st:Int)==0)=decide (i % st=0):=by
      rw [Int.tmod_eq_emod_of_nonneg (by omega)]
      by_cases h:i % st=0
      ·rw [dYT h]; simp only [beq_iff_eq]; omega
      ·rw [dYF h]; simp only [beq_eq_false_iff_ne,ne_eq]; omega
     simp only [hne,hmod,cT,Bool.true_and]
     by_cases hm:i % st=0
     ·rw [dYT hm]
      by_cases hge:st<=i
      ·have e4:w64 ((i:Int) - (st:Int))=((i - st:Nat):Int):=by show IntKind.i64.wrap _=_; rw [ql (by omega) (by omega)]; omega
       simp only [dYT (show (i:Int)>=(st:Int) by omega),dYT hge,e4,dYT (show (0:Int)<=((i - st:Nat):Int) by omega),dYT (show ((i - st:Nat):Int) < (l.length:Int) by omega),Bool.and_self,cT,Int.toNat_natCast,blt_eq,Bool.not_true,Bool.false_or]
       cases blt (l.getD (i - st) eB) (l.getD i eB)<;>rfl
      ·simp only [dYF (show ¬ ((i:Int)>=(st:Int)) by omega),dYF hge,cT,cF,Bool.and_false,Bool.not_false,Bool.true_or]
     ·rw [dYF hm]
      simp only [cF,cT,Bool.false_and,Bool.not_false,Bool.true_or]
    ·rw [dYF (show ¬ ((st:Int) > 0) by omega),dYF h0]
     simp only [cF,cT,Bool.false_and,Bool.not_false,Bool.true_or]
   ·rw [dYT (show (((gi l i).size:Int) > 60) by omega),dYF hs]
    rfl)
  (by
   show zQ l (st:Int) l (l.length:Int) (l.length:Int)=_
   rw [q7u]
   simp only [Int.lt_irrefl,decide_false,cF,q0D,oB]
   have e1:decide ((1:Int)<=(l.length:Int))=decide (1<=l.length):=decide_eq_decide.2 (by omega)
   have e2:decide ((l.length:Int)<=24)=decide (l.length<=24):=decide_eq_decide.2 (by omega)
   rw [e1,e2])
 rw [this]
 unfold itsB
 cases (List.range l.length).all (itB st l)<;>rfl
theorem qnq (n:Nat):(Int.tmod (n:Int) 2 != 0)=!decide (n % 2=0):=by
 rw [Int.tmod_eq_emod_of_nonneg (by omega)]
 by_cases h:n % 2=0
 ·rw [dYT h]; simp only [Bool.not_true,bne_eq_false_iff_eq]; omega
 ·rw [dYF h]; simp only [Bool.not_false,bne_iff_ne,ne_eq]; omega
theorem wL (a b:Int):(a==b)=decide (a=b):=by
 by_cases h:a=b
 ·simp [h]
 ·simp [h]
theorem qg4 (v:DV) (hl:v.2.2.2.length<=100000000):qaA v=some (valB v,()):=by
 rw [qgs]
 unfold valB
 simp only [q0D,oB,qdz,qN,wL,qnq]
 cases hu:(decide (0<=v.2.1)&&decide (v.2.1<=100000)) with
 | false=>rfl
 | true=>
  simp only [Bool.not_true,cF,Bool.true_and]
  by_cases h1:v.1=1
  ·rw [dYT h1]
   have e1:decide ((v.2.2.1.size:Int)<=60)=decide (v.2.2.1.size<=60):=decide_eq_decide.2 (by omega)
   have e2:decide ((v.2.2.2.length:Int)=0)=decide (v.2.2.2=[]):=decide_eq_decide.2 (by rw [<- List.length_eq_zero_iff]; omega)
   simp only [cT,e1,e2]
   cases decide (v.2.2.1.size<=60)<;>rfl
  ·rw [dYF h1]
   simp only [cF]
   by_cases h2:v.1=2
   ·have n3:¬ v.1=3:=by omega
    simp only [dYT h2,dYF n3,cT,show stB v.1=0 by unfold stB; rw [if_pos h2],
     dYT (show v.1=2\/v.1=3\/v.1=4 from .inl h2)]
    have:=qcT 0 (by omega) v.2.2.2 hl
    rw [show ((0:Nat):Int)=0 from rfl] at this
    rw [this]
    cases decide (v.2.2.1=eB)<;>cases itsB 0 v.2.2.2<;>cases decide (1<=v.2.2.2.length)<;>cases decide (v.2.2.2.length<=24)<;>rfl
   ·by_cases h3:v.1=3
    ·have:=qcT 2 (by omega) v.2.2.2 hl
     rw [show ((2:Nat):Int)=2 from rfl] at this
     simp only [dYF h2,dYT h3,cT,cF,show stB v.1=2 by unfold stB; rw [if_neg h2,if_pos h3],dYT (show v.1=2\/v.1=3\/v.1=4 from .inr (.inl h3)),this]
     cases decide (v.2.2.1=eB)<;>cases decide (v.2.2.2.length % 2=0)<;>cases itsB 2 v.2.2.2<;>cases decide (1<=v.2.2.2.length)<;>cases decide (v.2.2.2.length<=24)<;>rfl
    ·by_cases h4:v.1=4
     ·have:=qcT 1 (by omega) v.2.2.2 hl
      rw [show ((1:Nat):Int)=1 from rfl] at this
      simp only [dYF h2,dYF h3,dYT h4,cT,cF,show stB v.1=1 by unfold stB; rw [if_neg h2,if_neg h3],dYT (show v.1=2\/v.1=3\/v.1=4 from .inr (.inr h4)),this]
      cases decide (v.2.2.1=eB)<;>cases itsB 1 v.2.2.2<;>cases decide (1<=v.2.2.2.length)<;>cases decide (v.2.2.2.length<=24)<;>rfl
     ·simp only [dYF h2,dYF h3,dYF h4,cF,dYF (show ¬ (v.1=2\/v.1=3\/v.1=4) from fun h=>h.elim h2 fun h=>h.elim h3 h4),Bool.false_and]
theorem qlg (k u:Int) (x:BA) (l:List BA) (hk:k=2\/k=3\/k=4) (hl:l.length<=100000000):q1F 0 k u x l=some (itsB (stB k) l,()):=by
 have:=qag (fun i=>q1F i k u x l) l.length (itB (stB k) l) (some (false,())) (some (true,()))
  (fun i hi=>by
   have e1:decide ((i:Int) < (l.length:Int))=true:=dYT (by omega)
   have e2:decide (0<=(i:Int))=true:=dYT (by omega)
   have e3:w64 ((i:Int)+1)=((i+1:Nat):Int):=qz (by omega)
   conv=>lhs; rw [q8H,q5h,e1,e2]
   simp only [Bool.and_self,cT,Int.toNat_natCast]
   rw [q9H]
   simp only [q9C,q9x,q9j,e1,e2,e3,Bool.and_self,wL,blt_eq,Int.toNat_natCast,cT,cF]
   unfold itB
   by_cases hs:(gi l i).size<=60
   ·rw [dYF (show ¬ (((gi l i).size:Int) > 60) by omega),dYT hs]
    simp only [cF,Bool.true_and]
    rcases hk with rfl | rfl | rfl
    ·have f1:decide ((2:Int)=4)=false:=rfl
     have f2:decide ((2:Int)=3)=false:=rfl
     have f3:decide (0 < stB 2)=false:=rfl
     rw [f1,f2,f3]
     simp only [cF,Bool.false_and,Bool.not_false,Bool.true_or,cT]
    ·have f1:decide ((3:Int)=4)=false:=rfl
     have f2:decide ((3:Int)=3)=true:=rfl
     have f3:decide (0 < stB 3)=true:=rfl
     have f4:stB 3=2:=rfl
     rw [f1,f2,f3,f4]
     simp only [cF,cT,Bool.true_and]
     have hmod:decide (Int.tmod (i:Int) 2=0)=decide (i % 2=0):=decide_eq_decide.2 (by rw [Int.tmod_eq_emod_of_nonneg (by omega)]; omega)
     rw [hmod]
     by_cases hge:2<=i
     ·have e4:w64 ((i:Int) - 2)=((i - 2:Nat):Int):=by show IntKind.i64.wrap _=_; rw [ql (by omega) (by omega)]; omega
      simp only [dYT (show (i:Int) > 1 by omega),dYT hge,e4,dYT (show (0:Int)<=((i - 2:Nat):Int) by omega),dYT (show ((i - 2:Nat):Int) < (l.length:Int) by omega),Bool.and_self,cT,Int.toNat_natCast,Bool.and_true]
      generalize q1F ((i+1:Nat):Int) 3 u x l=Z
      cases decide (i % 2=0)<;>cases blt (l.getD (i - 2) eB) (l.getD i eB)<;>rfl
     ·simp only [dYF (show ¬ ((i:Int) > 1) by omega),dYF hge,cF,Bool.and_false,Bool.not_false,Bool.true_or,cT]
    ·have f1:decide ((4:Int)=4)=true:=rfl
     have f2:decide ((4:Int)=3)=false:=rfl
     have f3:decide (0 < stB 4)=true:=rfl
     have f4:stB 4=1:=rfl
     rw [f1,f2,f3,f4]
     simp only [cF,cT,Bool.true_and,Nat.mod_one,decide_true]
     by_cases hge:1<=i
     ·have e4:w64 ((i:Int) - 1)=((i - 1:Nat):Int):=by show IntKind.i64.wrap _=_; rw [ql (by omega) (by omega)]; omega
      simp only [dYT (show (i:Int) > 0 by omega),dYT hge,e4,dYT (show (0:Int)<=((i - 1:Nat):Int) by omega),dYT (show ((i - 1:Nat):Int) < (l.length:Int) by omega),Bool.and_self,cT,Int.toNat_natCast,Bool.not_true,Bool.false_or]
      cases blt (l.getD (i - 1) eB) (l.getD i eB)<;>rfl
     ·simp only [dYF (show ¬ ((i:Int) > 0) by omega),dYF hge,cF,Bool.not_false,Bool.true_or,cT]
   ·rw [dYT (show (((gi l i).size:Int) > 60) by omega),dYF hs]
    rfl)
  (by
   show q1F (l.length:Int) k u x l=_
   rw [q8H,q5h]
   simp only [Int.lt_irrefl,decide_false,cF]
   rw [q9u])
 rw [this]
 unfold itsB
 cases (List.range l.length).all (itB (stB k) l)<;>rfl
theorem qga (v:DV) (hl:v.2.2.2.length<=100000000):q87 v=some (valB v,()):=by
 rw [qg7,q9r]
 simp only [jW,oB,q9m,q9F,q9B,q9A,q9t,q9E,q9y,qN,wL]
 unfold valB
 by_cases h1:v.1=1
 ·have a1:decide ((1:Int)<=v.1)=true:=dYT (by omega)
  have a2:decide (v.1<=4)=true:=dYT (by omega)
  have e1:decide ((v.2.2.1.size:Int)<=60)=decide (v.2.2.1.size<=60):=decide_eq_decide.2 (by omega)
  have e2:decide ((v.2.2.2.length:Int)=0)=decide (v.2.2.2=[]):=decide_eq_decide.2 (by rw [<- List.length_eq_zero_iff]; omega)
  simp only [a1,a2,Bool.and_self,Bool.not_true,cF,cT,dYT h1,e1,e2]
  cases (decide (0<=v.2.1)&&decide (v.2.1<=100000))<;>cases decide (v.2.2.1.size<=60)<;>rfl
 ·by_cases hk:v.1=2\/v.1=3\/v.1=4
  ·have a1:decide ((1:Int)<=v.1)=true:=dYT (by omega)
   have a2:decide (v.1<=4)=true:=dYT (by omega)
   have e3:decide ((1:Int)<=(v.2.2.2.length:Int))=decide (1<=v.2.2.2.length):=decide_eq_decide.2 (by omega)
   have e4:decide ((v.2.2.2.length:Int)<=24)=decide (v.2.2.2.length<=24):=decide_eq_decide.2 (by omega)
   have e5:decide (Int.tmod (v.2.2.2.length:Int) 2=1)=!decide (v.2.2.2.length % 2=0):=by
    rw [Int.tmod_eq_emod_of_nonneg (by omega)]
    by_cases h:v.2.2.2.length % 2=0
    ·rw [dYT h,dYF (by omega)]; rfl
    ·rw [dYF h,dYT (by omega)]; rfl
   simp only [a1,a2,Bool.and_self,Bool.not_true,cF,cT,dYF h1,dYT hk,e3,e4,e5,qlg v.1 v.2.1 v.2.2.1 v.2.2.2 hk hl]
   cases (decide (0<=v.2.1)&&decide (v.2.1<=100000))<;>cases decide (v.2.2.1=eB)<;>cases decide (1<=v.2.2.2.length)<;>cases decide (v.2.2.2.length<=24)<;>cases decide (v.1=3)<;>cases decide (v.2.2.2.length % 2=0)<;>cases itsB (stB v.1) v.2.2.2<;>rfl
  ·have a0:(decide ((1:Int)<=v.1)&&decide (v.1<=4))=false:=by
    by_cases h:(1:Int)<=v.1
    ·rw [dYF (show ¬ v.1<=4 by omega),Bool.and_false]
    ·rw [dYF h,Bool.false_and]
   simp only [a0,Bool.not_false,cT,dYF h1,dYF hk,cF,Bool.false_and,Bool.and_false]
end Go.Den.S
