/- PxD: equations of the functions of this seat as the executor tells them, or plain facts about them. Conditions: none here. -/
import Derived.Test.YtbgaejnkjmjkhaaGreatDoorPxC
set_option linter.all false
namespace Go.Den.S
open Go Go.Den
abbrev ge (t:List DE) (i:Nat):DE:=t.getD i dflt
def enB (t:List DE) (i:Nat):Bool:=decide (1<=(ge t i).1.size)&&decide ((ge t i).1.size<=20)&&valB (ge t i).2&&(!decide (0 < i)||blt (ge t (i - 1)).1 (ge t i).1)
def tabB (t:List DE):Bool:=decide (t.length<=20)&&(List.range t.length).all (enB t)
theorem qlo (k:BA):qaf k=some (decide (1<=k.size)&&decide (k.size<=20),()):=by
 rw [qg5,q0D]
 have e1:decide ((1:Int)<=(k.size:Int))=decide (1<=k.size):=decide_eq_decide.2 (by omega)
 have e2:decide ((k.size:Int)<=20)=decide (k.size<=20):=decide_eq_decide.2 (by omega)
 rw [e1,e2]; rfl
theorem q5S (t:List DE) (h:Bd t):q4O t=some (tabB t,()):=by
 have hl:=h.len
 rw [qe5]
 have:=qag (fun i=>q0U t t (t.length:Int) i) t.length (enB t) (some (false,())) (some (decide (t.length<=20),()))
  (fun i hi=>by
   conv=>lhs; rw [q7t]
   have e1:decide ((i:Int) < (t.length:Int))=true:=dYT (by omega)
   have e2:decide (0<=(i:Int))=true:=dYT (by omega)
   have e3:w64 ((i:Int)+1)=((i+1:Nat):Int):=qz (by omega)
   have hm:=h.its _ (yj (d:=dflt) hi)
   simp only [e1,e2,e3,Bool.and_self,cT,Int.toNat_natCast,qlo,oB,qg4 (t.getD i dflt).2 (by omega),blt_eq]
   unfold enB
   generalize q0U t t (t.length:Int) ((i+1:Nat):Int)=Z
   by_cases h0:0 < i
   ·have e4:w64 ((i:Int) - 1)=((i - 1:Nat):Int):=by show IntKind.i64.wrap _=_; rw [ql (by omega) (by omega)]; omega
    simp only [dYT (show (i:Int) > 0 by omega),dYT h0,e4,dYT (show (0:Int)<=((i - 1:Nat):Int) by omega),dYT (show ((i - 1:Nat):Int) < (t.length:Int) by omega),Bool.and_self,cT,Int.toNat_natCast]
    cases (decide (1<=(t.getD i dflt).1.size)&&decide ((t.getD i dflt).1.size<=20))<;>cases valB (t.getD i dflt).2<;>cases blt (t.getD (i - 1) dflt).1 (t.getD i dflt).1<;>rfl
   ·simp only [dYF (show ¬ ((i:Int) > 0) by omega),dYF h0,cF]
    cases (decide (1<=(t.getD i dflt).1.size)&&decide ((t.getD i dflt).1.size<=20))<;>cases valB (t.getD i dflt).2<;>rfl)
  (by
   show q0U t t (t.length:Int) (t.length:Int)=_
   rw [q7t]
   simp only [Int.lt_irrefl,decide_false,cF]
   rw [show decide ((t.length:Int)<=20)=decide (t.length<=20) from decide_eq_decide.2 (by omega)])
 rw [this]
 unfold tabB
 cases (List.range t.length).all (enB t)<;>cases decide (t.length<=20)<;>rfl
theorem q4v (t:List DE) (h:Bd t):q3s t=some (tabB t,()):=by
 have hl:=h.len
 rw [qel]
 have:=qag (fun i=>q0R t i) t.length (enB t) (some (false,())) (some (true,()))
  (fun i hi=>by
   conv=>lhs; rw [q7w]
   have e1:decide ((i:Int) < (t.length:Int))=true:=dYT (by omega)
   have e2:decide (0<=(i:Int))=true:=dYT (by omega)
   have e3:w64 ((i:Int)+1)=((i+1:Nat):Int):=qz (by omega)
   have hm:=h.its _ (yj (d:=dflt) hi)
   have k1:decide ((1:Int)<=((t.getD i dflt).1.size:Int))=decide (1<=(t.getD i dflt).1.size):=decide_eq_decide.2 (by omega)
   have k2:decide (((t.getD i dflt).1.size:Int)<=20)=decide ((t.getD i dflt).1.size<=20):=decide_eq_decide.2 (by omega)
   simp only [e1,e2,e3,Bool.and_self,cT,Int.toNat_natCast,jW,oB,qga (t.getD i dflt).2 (by omega),blt_eq]
   unfold enB
   generalize q0R t ((i+1:Nat):Int)=Z
   by_cases h0:0 < i
   ·have e4:w64 ((i:Int) - 1)=((i - 1:Nat):Int):=by show IntKind.i64.wrap _=_; rw [ql (by omega) (by omega)]; omega
    simp only [dYT (show (i:Int) > 0 by omega),dYT h0,e4,dYT (show (0:Int)<=((i - 1:Nat):Int) by omega),dYT (show ((i - 1:Nat):Int) < (t.length:Int) by omega),Bool.and_self,cT,Int.toNat_natCast,k1,k2]
    cases (decide (1<=(t.getD i dflt).1.size)&&decide ((t.getD i dflt).1.size<=20))<;>cases valB (t.getD i dflt).2<;>cases blt (t.getD (i - 1) dflt).1 (t.getD i dflt).1<;>rfl
   ·simp only [dYF (show ¬ ((i:Int) > 0) by omega),dYF h0,cF,k1,k2]
    cases (decide (1<=(t.getD i dflt).1.size)&&decide ((t.getD i dflt).1.size<=20))<;>cases valB (t.getD i dflt).2<;>rfl)
  (by
   show q0R t (t.length:Int)=_
   rw [q7w]
   simp only [Int.lt_irrefl,decide_false,cF])
 rw [this]
 unfold tabB
 by_cases h20:t.length<=20
 ·rw [dYF (show ¬ ((t.length:Int) > 20) by omega),dYT h20]
  cases (List.range t.length).all (enB t)<;>rfl
 ·rw [dYT (show ((t.length:Int) > 20) by omega),dYF h20]; rfl
theorem qah {α:Type} (lt:α->α->Prop) (htr:∀ a b c,lt a b->lt b c->lt a c) (f:Nat->α) (n:Nat) (h:∀ i,i+1 < n->lt (f i) (f (i+1))):∀ i j,i < j->j < n->lt (f i) (f j):=by
 intro i j hij
 induction j with
 | zero=>omega
 | succ j ih=>
  intro hj
  by_cases e:i=j
  ·subst e; exact h i hj
  ·exact htr _ _ _ (ih (by omega) (by omega)) (h j hj)
def Asc (t:List DE):Prop:=t.Pairwise fun a b=>blt a.1 b.1=true
theorem qgE {t:List DE} (h:tabB t=true) {i:Nat} (hi:i < t.length):enB t i=true:=by
 unfold tabB at h
 simp only [Bool.and_eq_true,List.all_eq_true] at h
 exact h.2 i (List.mem_range.2 hi)
theorem q1x {t:List DE} (h:tabB t=true):Asc t:=by
 have:=qah (fun a b:DE=>blt a.1 b.1=true) (fun _ _ _ h k=>q4C h k) (ge t) t.length fun i hi=>by
  have:=qgE h hi
  unfold enB at this
  simp only [Bool.and_eq_true,Bool.or_eq_true,Bool.not_eq_true',decide_eq_false_iff_not,Nat.add_sub_cancel] at this
  exact this.2.resolve_left (by omega)
 unfold Asc
 rw [List.pairwise_iff_getElem]
 intro i j hi hj hij
 have:=this i j hij hj
 rwa [show ge t i=t[i] from wS hi,show ge t j=t[j] from wS hj] at this
theorem q8c {t:List DE} (h:tabB t=true) {e:DE} (he:e∈t):valB e.2=true/\e.1.size<=20:=by
 obtain ⟨i,hi,rfl⟩:=List.mem_iff_getElem.1 he
 have:=qgE h hi
 unfold enB at this
 rw [show ge t i=t[i] from wS hi] at this
 simp only [Bool.and_eq_true,decide_eq_true_eq] at this
 exact ⟨this.1.2,this.1.1.2⟩
theorem q0j {t:List DE} (h:tabB t=true):t.length<=20:=by
 unfold tabB at h
 simp only [Bool.and_eq_true,decide_eq_true_eq] at h
 exact h.1
theorem q8l {v:DV} (h:valB v=true):v.2.2.2.length<=24/\v.2.2.1.size<=60/\∀ s∈v.2.2.2,s.size<=60:=by
 unfold valB at h
 simp only [Bool.and_eq_true] at h
 obtain ⟨_,h⟩:=h
 by_cases h1:v.1=1
 ·simp only [dYT h1,cT,Bool.and_eq_true,decide_eq_true_eq] at h
  rw [h.2]
  exact ⟨by simp,h.1,fun s hs=>by cases hs⟩
 ·simp only [dYF h1,cF,Bool.and_eq_true,decide_eq_true_eq] at h
  obtain ⟨⟨⟨⟨⟨_,h2⟩,h3⟩,h4⟩,_⟩,h5⟩:=h
  refine ⟨h4,by rw [h2]; decide,fun s hs=>?_⟩
  obtain ⟨i,hi,rfl⟩:=List.mem_iff_getElem.1 hs
  unfold itsB at h5
  rw [List.all_eq_true] at h5
  have:=h5 i (List.mem_range.2 hi)
  unfold itB at this
  simp only [Bool.and_eq_true,decide_eq_true_eq] at this
  rw [show gi v.2.2.2 i=v.2.2.2[i] from wS hi] at this
  exact this.1
theorem z8 {t:List DE} (h:tabB t=true):Bd t:=by
 refine ⟨by have:=q0j h; omega,fun e he=>by have:=(q8l (q8c h he).1).1; omega,fun e he=>?_⟩
 have h1:=q8c h he
 have h2:=q8l h1.1
 exact ⟨by omega,by omega,fun s hs=>by have:=h2.2.2 s hs; omega⟩
end Go.Den.S
