/- PxT: equations of the functions of this seat as the executor tells them, or plain facts about them. Conditions: none here. -/
import Derived.Test.YtbgaejnkjmjkhaaGreatDoorPxS
set_option linter.all false
namespace Go.Den.S
open Go Go.Den
theorem qk2 (u:BA) (vals:List BA):-1000000000<=(byB u vals).1/\(byB u vals).1<=1000000000:=by
 have i0:=q1H (gi vals 0)
 unfold byB
 cases decide (u=j6)
 ·cases decide (u=jh)
  ·cases decide (u=zT)
   ·exact i0
   ·show -1000000000<=-(rdI (gi vals 0)).1/\-(rdI (gi vals 0)).1<=1000000000
    omega
  ·show -1000000000<=(-1:Int)/\(-1:Int)<=1000000000
   omega
 ·show -1000000000<=(1:Int)/\(1:Int)<=1000000000
  omega
section
variable (t:List DE) (ht:tabB t=true) (k:BA)
include ht
theorem qj0 (hk:k.size<=4194304) (by_:Int) (h1:-1000000000<=by_/\by_<=1000000000):Bd (cntD t k by_).1:=by
 have hb:=z8 ht
 obtain ⟨n1,n2,n3⟩:=jX (k:=k) ht
 unfold cntD
 have key:∀ r:Int×Bool,-1000000000<=r.1/\r.1<=1000000000->Bd (bif !r.2 then (t,(y5 qO,true)) else bif !(decide (-1000000000<=r.1+by_)&&decide (r.1+by_<=1000000000)) then (t,(y5 yG,true)) else (putB t k (1,((undB t k).1,(decB (r.1+by_),(undB t k).2.2))),(numB (r.1+by_),false)):DD).1:=fun r hr=>by
  cases r.2 with
  | false=>exact hb
  | true=>
   simp only [Bool.not_true,cF]
   cases (decide (-1000000000<=r.1+by_)&&decide (r.1+by_<=1000000000)) with
   | false=>exact hb
   | true=>exact qbb ht hk (show (undB t k).2.2.length<=_ by omega) (by show (decB (r.1+by_)).size<=_; have:=q0F (r.1+by_) (by omega) (by omega); omega) fun s hs=>by have:=n3 s hs; omega
 cases (fndB t k).2 with
 | false=>exact key (0,true) ⟨by decide,by decide⟩
 | true=>exact key _ (q1H _)
theorem qi1 (hk:k.size<=4194304) (by_:Int) (h1:-1000000000<=by_/\by_<=1000000000) (hw:qK t k 1=false):q5v t k by_=some (zJ (cntD t k by_) t,()):=by
 have hb:=z8 ht
 have hcb:=qj0 t ht k hk by_ h1
 obtain ⟨n1,n2,n3⟩:=jX (k:=k) ht
 have hT:∀ r,zJ (t,(r,true)) t=(t,(r,true)):=fun _=>rfl
 rw [qd6,q2e t k hb]
 unfold cntD at hcb ⊢
 simp only [oB]
 cases hf:(fndB t k).2 with
 | false=>
  have hu:(fndB t k).1=(0,undB t k):=by
   unfold undB
   unfold fndB at hf ⊢
   cases hx:t.find? fun e=>decide (e.1=k) with
   | none=>rfl
   | some e=>rw [hx] at hf; cases hf
  rw [hf] at hcb
  have w1:w64 ((0:Int)+by_)=0+by_:=ql (by omega) (by omega)
  simp only [cF,Bool.not_true] at hcb
  simp only [cF,hu,w1,jW,oB,q68 t yG hb (by decide),jH (0+by_) (by omega) (by omega),q0Q t k _ hb,qW (0+by_) (by omega) (by omega),show decide ((1:Int)=0)=false from rfl,Bool.not_true]
  cases hr:(decide (-1000000000<=0+by_)&&decide (0+by_<=1000000000)) with
  | false=>rfl
  | true=>
   rw [hr] at hcb
   simp only [Bool.not_true,cF] at hcb ⊢
   rw [q5I t _ _ hb hcb]
   rfl
 | true=>
  rw [hf] at hcb
  have i0:=q1H (undB t k).2.1
  have w1:w64 ((rdI (undB t k).2.1).1+by_)=(rdI (undB t k).2.1).1+by_:=ql (by omega) (by omega)
  simp only [cT] at hcb ⊢
  show ((q0Y (undB t k).2.1).bind _)=_
  rw [q1C _ (by omega)]
  simp only [w1,jW,oB,q68 t yG hb (by decide),q68 t qO hb (by decide),jH ((rdI (undB t k).2.1).1+by_) (by omega) (by omega),q0Q t k _ hb,qW ((rdI (undB t k).2.1).1+by_) (by omega) (by omega),show decide ((1:Int)=0)=false from rfl]
  cases h2:(rdI (undB t k).2.1).2 with
  | false=>rfl
  | true=>
   rw [h2] at hcb
   simp only [Bool.not_true,cF] at hcb ⊢
   cases hr:(decide (-1000000000<=(rdI (undB t k).2.1).1+by_)&&decide ((rdI (undB t k).2.1).1+by_<=1000000000)) with
   | false=>rfl
   | true=>
    rw [hr] at hcb
    simp only [Bool.not_true,cF] at hcb ⊢
    have hd:=q5I t (putB t k (1,((undB t k).1,(decB ((rdI (undB t k).2.1).1+by_),(undB t k).2.2)))) (numB ((rdI (undB t k).2.1).1+by_)) hb hcb
    show ((yA t (putB t k (1,((undB t k).1,(decB ((rdI (undB t k).2.1).1+by_),(undB t k).2.2)))) (numB ((rdI (undB t k).2.1).1+by_))).bind _)=_
    rw [hd]
    rfl
end
end Go.Den.S
