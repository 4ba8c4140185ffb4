/- PzD: equations of the functions of this seat as the executor tells them, or plain facts about them. Conditions: none here. -/
import Derived.Test.YtbgaejnkjmjkhaaGreatDoorPzC
set_option linter.all false
namespace Go.Den.S
open Go Go.Den
theorem q0P (s:BA):(y5 s).size=s.size+3:=by
 unfold y5
 have e1:(zW:BA).size=1:=rfl
 have e2:(qA:BA).size=2:=rfl
 simp only [ByteArray.size_append,e1,e2]; omega
theorem q6v (s:BA):(jV s).size=s.size+3:=by
 unfold jV
 have e1:(q0h:BA).size=1:=rfl
 have e2:(qA:BA).size=2:=rfl
 simp only [ByteArray.size_append,e1,e2]; omega
theorem zo (n:Int) (h0:-9000000000000000000<=n) (h1:n<=9000000000000000000):(numB n).size<=23:=by
 unfold numB
 have e1:(q1X:BA).size=1:=rfl
 have e2:(qA:BA).size=2:=rfl
 have:=q0F n (by omega) (by omega)
 simp only [ByteArray.size_append,e1,e2]; omega
theorem qhW (xs:List Int):(q4G xs).size=xs.length:=by
 show (xs.map _).toArray.size=_
 simp
theorem qfw (l:List BA) (hl:l.length<=1000000000000):(arrB l).size<=23+(l.map ByteArray.size).sum:=by
 unfold arrB
 have e1:(q1b:BA).size=1:=rfl
 have e2:(qA:BA).size=2:=rfl
 have:=q0F (l.length:Int) (by omega) (by omega)
 rw [qhW,List.length_append,q7D,qlk]
 simp only [ByteArray.size_append,e1,e2]; omega
theorem qkf (l:List BA) (n:Nat) (h:∀ s∈l,s.size<=n):(l.map ByteArray.size).sum<=n * l.length:=by
 induction l with
 | nil=>simp
 | cons x r ih=>
  have h1:=h x (List.mem_cons_self ..)
  have h2:=ih fun s hs=>h s (List.mem_cons_of_mem _ hs)
  simp only [List.map_cons,List.sum_cons,List.length_cons,Nat.mul_add,Nat.mul_one]; omega
theorem q6h (l:List BA) (n:Nat) (hl:l.length<=10000000) (hn:n<=90) (h:∀ s∈l,s.size<=n):(arrB (l.map zI)).size<=23+120 * l.length:=by
 have h1:=qfw (l.map zI) (by rw [List.length_map]; omega)
 have h2:=qkf (l.map zI) 120 fun s hs=>by
  obtain ⟨x,hx,rfl⟩:=List.mem_map.1 hs
  have:=q4V x (by have:=h x hx; omega)
  have:=h x hx
  omega
 rw [List.length_map] at h2
 omega
theorem qjx:(y5 yG).size<=30:=by rw [q0P]; decide
theorem q7z (d:DD) (t:List DE) (n:Nat) (hn:30<=n) (h:d.2.1.size<=n):(zJ d t).2.1.size<=n:=by
 unfold zJ
 have:=qjx
 cases d.2.2 with
 | true=>exact h
 | false=>
  cases tabB d.1 with
  | true=>exact h
  | false=>
   simp only [cF]
   omega
theorem q8W (d:DD) (t:List DE):(zJ d t).2.2=true:=by
 unfold zJ
 cases d.2.2 with
 | true=>rfl
 | false=>cases tabB d.1<;>rfl
theorem qfg {l:List BA} {n:Nat} (h:∀ s∈l,s.size<=n) (i:Nat):(gi l i).size<=n:=by
 by_cases hlt:i < l.length
 ·exact h _ (yj hlt)
 ·rw [show gi l i=eB from by unfold gi; rw [List.getD_eq_getElem?_getD,List.getElem?_eq_none (by omega)]; rfl]
  exact Nat.zero_le _
section
variable (t:List DE) (ht:tabB t=true) (k:BA) (vals:List BA) (hv:vals.length<=2097152)
include ht hv
theorem qkW (u:BA) (hw4:qK t k 4=false->True):(setD t u k vals).2.1.size<=100000:=by
 obtain ⟨b1,b2,b3⟩:=jX (k:=k) ht
 unfold setD
 cases hw:qK t k 4 with
 | true=>simp only [cT]; rw [q0P]; decide
 | false=>
  have ha:=qbR ht hw
  obtain ⟨_,c1,c2⟩:=@q55 [] vals _ ha
  have c3:=qbI (undB t k).2.2 vals
  simp only [cF]
  cases decide (u=jN) with
  | true=>simp only [cT]; have:=zo (((jf (undB t k).2.2 vals).length:Int) - ((undB t k).2.2.length:Int)) (by omega) (by omega); omega
  | false=>
   simp only [cF]
   cases decide (u=q08) with
   | true=>simp only [cT]; have:=zo (((undB t k).2.2.length:Int) - ((q12 (undB t k).2.2 vals).length:Int)) (by omega) (by omega); omega
   | false=>
    simp only [cF]
    cases decide (u=wu) with
    | true=>
     simp only [cT]
     have:(numB (bif memB (gi vals 0) (undB t k).2.2 then 1 else 0)).size<=23:=by
      cases memB (gi vals 0) (undB t k).2.2<;>exact zo _ (by decide) (by decide)
     omega
    | false=>
     simp only [cF]
     cases decide (u=q06) with
     | true=>simp only [cT]; have:=zo ((undB t k).2.2.length:Int) (by omega) (by omega); omega
     | false=>simp only [cF]; have:=q6h (undB t k).2.2 60 (by omega) (by omega) b3; omega
theorem qkT (u:BA):(fldD t u k vals).2.1.size<=100000:=by
 obtain ⟨b1,b2,b3⟩:=jX (k:=k) ht
 unfold fldD
 cases hw:qK t k 3 with
 | true=>simp only [cT]; rw [q0P]; decide
 | false=>
  obtain ⟨P,hP,hA,hp⟩:=q7Y ht hw
  have c3:=(q2O vals hA).2
  simp only [cF,hP,q6p]
  rw [hP] at b1 b3
  cases decide (u=jm) with
  | true=>
   simp only [cT]
   have:(numB (bif hasF P (gi vals 0) then 0 else 1)).size<=23:=by
    cases hasF P (gi vals 0)<;>exact zo _ (by decide) (by decide)
   omega
  | false=>
   simp only [cF]
   cases decide (u=jL) with
   | true=>
    simp only [cT]
    have hn:(nilR:BA).size<=100000:=by decide
    cases hasF P (gi vals 0) with
    | false=>exact hn
    | true=>
     simp only [cT]
     have hz:(gi (qx P) (posF P (gi vals 0) * 2+1)).size<=60:=qfg b3 _
     have:=q4V (gi (qx P) (posF P (gi vals 0) * 2+1)) (by omega)
     omega
   | false=>
    simp only [cF]
    cases decide (u=q0I) with
    | true=>simp only [cT]; have:=zo ((P.length:Int) - ((q0E P vals).length:Int)) (by omega) (by omega); omega
    | false=>
     simp only [cF]
     cases decide (u=q1M) with
     | true=>simp only [cT]; have:=zo (P.length:Int) (by omega) (by omega); omega
     | false=>
      simp only [cF]
      cases decide (u=jD) with
      | true=>simp only [cT]; have:=q6h (qx P) 60 (by omega) (by omega) b3; omega
      | false=>
       simp only [cF]
       have hk:(q0M P).length=P.length:=List.length_map ..
       have:=q6h (q0M P) 60 (by omega) (by omega) (fun s hs=>b3 s (qbw hs))
       omega
theorem qkj (u:BA):(lstD t u k vals).2.1.size<=100000:=by
 obtain ⟨b1,b2,b3⟩:=jX (k:=k) ht
 have b4:∀ i,(zI (gi (undB t k).2.2 i)).size<=90:=fun i=>by
  have h1:=qfg b3 i
  have:=q4V (gi (undB t k).2.2 i) (by omega)
  omega
 have hn:(nilR:BA).size<=90:=by decide
 have hf:∀ c:BA,c.size<=100->(y5 c).size<=103:=fun c h=>by rw [q0P]; omega
 unfold lstD
 cases hw:qK t k 2 with
 | true=>simp only [cT]; have:=hf yh (by decide); omega
 | false=>
  simp only [cF]
  cases decide (u=zH) with
  | true=>simp only [cT]; have:=zo (((vals.reverse++(undB t k).2.2).length:Nat):Int) (by omega) (by simp only [List.length_append,List.length_reverse]; omega); omega
  | false=>
   simp only [cF]
   cases decide (u=zK) with
   | true=>simp only [cT]; have:=zo ((((undB t k).2.2++vals).length:Nat):Int) (by omega) (by simp only [List.length_append]; omega); omega
   | false=>
    simp only [cF]
    cases decide (u=q2l) with
    | true=>
     simp only [cT]
     have:=b4 0
     cases decide ((undB t k).2.2=[])<;>simp only [cT,cF]<;>omega
    | false=>
     simp only [cF]
     cases decide (u=q1g) with
     | true=>
      simp only [cT]
      have:=b4 ((undB t k).2.2.length - 1)
      cases decide ((undB t k).2.2=[])<;>simp only [cT,cF]<;>omega
     | false=>
      simp only [cF]
      cases decide (u=q1I) with
      | true=>simp only [cT]; have:=zo ((undB t k).2.2.length:Int) (by omega) (by omega); omega
      | false=>
       simp only [cF]
       have hi:=hf qO (by decide)
       cases decide (u=zm) with
       | true=>
        simp only [cT]
        cases (rdI (gi vals 0)).2 with
        | false=>simp only [Bool.not_false,cT]; omega
        | true=>
         simp only [Bool.not_true,cF]
         unfold idxR
         dsimp only
         generalize (if (rdI (gi vals 0)).1 < 0 then (rdI (gi vals 0)).1+((undB t k).2.2.length:Int) else (rdI (gi vals 0)).1)=i
         split
         ·have:=b4 i.toNat; omega
         ·omega
       | false=>
        simp only [cF]
        cases (rdI (gi vals 0)).2 with
        | false=>simp only [Bool.not_false,cT]; omega
        | true=>
         simp only [Bool.not_true,cF]
         cases (rdI (gi vals 1)).2 with
         | false=>simp only [Bool.not_false,cT]; omega
         | true=>
          simp only [Bool.not_true,cF]
          have hl:∀ p,(cutL (undB t k).2.2 p).length<=24:=fun p=>by unfold cutL; rw [List.length_take,List.length_drop]; omega
          have hl':=hl (bndB (rdI (gi vals 0)).1 (rdI (gi vals 1)).1 ((undB t k).2.2.length:Int))
          have:=q6h (cutL (undB t k).2.2 (bndB (rdI (gi vals 0)).1 (rdI (gi vals 1)).1 ((undB t k).2.2.length:Int))) 60 (by omega) (by omega) (fun s hs=>b3 s (by unfold cutL at hs; exact List.mem_of_mem_drop (List.mem_of_mem_take hs)))
          omega
theorem qkC (by_:Int) (h1:-1000000000<=by_/\by_<=1000000000):(cntD t k by_).2.1.size<=1000:=by
 have hf:∀ c:BA,c.size<=100->(y5 c).size<=103:=fun c h=>by rw [q0P]; omega
 have hi:=hf qO (by decide)
 have hm:=hf yG (by decide)
 unfold cntD
 dsimp only
 generalize (bif (fndB t k).2 then rdI (undB t k).2.1 else (0,true))=r
 cases r.2 with
 | false=>simp only [Bool.not_false,cT]; omega
 | true=>
  simp only [Bool.not_true,cF]
  cases hin:(decide (-1000000000<=r.1+by_)&&decide (r.1+by_<=1000000000)) with
  | false=>simp only [Bool.not_false,cT]; omega
  | true=>
   simp only [Bool.and_eq_true,decide_eq_true_eq] at hin
   simp only [Bool.not_true,cF]
   have:=zo (r.1+by_) (by omega) (by omega)
   omega
theorem qlc (u:BA) (hs:∀ s∈vals,s.size<=4194304):(txtD t u k vals).2.1.size<=100000:=by
 obtain ⟨b1,b2,b3⟩:=jX (k:=k) ht
 have hf:∀ c:BA,c.size<=100->(y5 c).size<=103:=fun c h=>by rw [q0P]; omega
 have hw':=hf yh (by decide)
 have hi:=hf qO (by decide)
 have hok:(jV c_OK).size<=100:=by rw [q6v]; decide
 have hr:=qfA (fndB t k).1 (fndB t k).2 (qjF t ht k)
 unfold txtD
 cases decide (u=q0s) with
 | true=>simp only [cT]; omega
 | false=>
  simp only [cF]
  cases decide (u=zV) with
  | true=>
   simp only [cT]
   have n0:=zo 0 (by decide) (by decide)
   have n1:=zo 1 (by decide) (by decide)
   cases (fndB t k).2<;>simp only [cT,cF]<;>omega
  | false=>
   simp only [cF]
   cases qK t k 1 with
   | true=>simp only [cT]; omega
   | false=>
    simp only [cF]
    cases decide (u=jk) with
    | true=>simp only [cT]; omega
    | false=>
     simp only [cF]
     cases decide (u=zl) with
     | true=>simp only [cT]; omega
     | false=>
      simp only [cF]
      cases decide (u=zi) with
      | true=>
       simp only [cT]
       have:=qfg hs 0
       have:=zo (((undB t k).2.1++gi vals 0).size:Int) (by omega) (by rw [ByteArray.size_append]; omega)
       omega
      | false=>
       simp only [cF]
       cases decide (u=yP) with
       | true=>simp only [cT]; have:=zo ((undB t k).2.1.size:Int) (by omega) (by omega); omega
       | false=>
        simp only [cF]
        cases (byB u vals).2 with
        | false=>simp only [Bool.not_false,cT]; omega
        | true=>
         simp only [Bool.not_true,cF]
         have:=qkC t ht k vals hv (byB u vals).1 (qk2 u vals)
         omega
theorem qku (now:Int) (hnow:0<=now/\now<=100000) (u:BA) (hk:k.size<=4194304):(keyD t now u k vals).2.1.size<=10000000:=by
 have hf:∀ c:BA,c.size<=100->(y5 c).size<=103:=fun c h=>by rw [q0P]; omega
 have hi:=hf qO (by decide)
 have hm:=hf yG (by decide)
 have n0:=zo 0 (by decide) (by decide)
 have n1:=zo 1 (by decide) (by decide)
 have ok2:Ok2 t:=⟨z8 ht,q1x ht⟩
 unfold keyD
 dsimp only
 cases decide (u=jc) with
 | true=>simp only [cT]; have:=q4V k (by omega); omega
 | false=>
  simp only [cF]
  cases decide (u=wQ) with
  | true=>
   simp only [cT]
   obtain ⟨q1,q2,_⟩:=q52 true (k::vals) (0,t) ok2
   simp only [List.length_cons] at q1 q2
   have:=zo ((k::vals).foldl (cntK true) (0,t)).1 (by omega) (by omega)
   omega
  | false=>
   simp only [cF]
   cases decide (u=yN) with
   | true=>
    simp only [cT]
    obtain ⟨q1,q2,_⟩:=q52 false (k::vals) (0,t) ok2
    simp only [List.length_cons] at q1 q2
    have:=zo ((k::vals).foldl (cntK false) (0,t)).1 (by omega) (by omega)
    omega
   | false=>
    simp only [cF]
    cases decide (u=q02) with
    | true=>simp only [cT]; rw [q6v]; have:=qdd (fndB t k).1.1; omega
    | false=>
     simp only [cF]
     cases decide (u=zy) with
     | true=>
      simp only [cT]
      cases (rdI (gi vals 0)).2<;>simp only [Bool.not_true,Bool.not_false,cT,cF]<;>try omega
      cases (fndB t k).2<;>simp only [Bool.not_true,Bool.not_false,cT,cF]<;>try omega
      cases decide ((rdI (gi vals 0)).1<=0)<;>simp only [cT,cF]<;>try omega
      cases decide (now+(rdI (gi vals 0)).1 > 100000)<;>simp only [cT,cF]<;>omega
     | false=>
      simp only [cF]
      cases decide (u=q1Q) with
      | true=>
       simp only [cT]
       have hl:-1000000<=q6u (fndB t k).1 (fndB t k).2 now/\q6u (fndB t k).1 (fndB t k).2 now<=1000000:=by
        unfold q6u
        cases hfd:(fndB t k).2 with
        | false=>simp only [Bool.not_false,cT]; omega
        | true=>
         obtain ⟨v1,_⟩:=q5N ht hfd
         obtain ⟨_,v2,v3⟩:=q8I v1
         simp only [Bool.not_true,cF]
         cases decide ((fndB t k).1.2.1=0)<;>simp only [cT,cF]<;>omega
       have:=zo (q6u (fndB t k).1 (fndB t k).2 now) (by omega) (by omega)
       omega
      | false=>
       simp only [cF]
       cases decide ((fndB t k).1.2.1=0)<;>simp only [cT,cF]<;>omega
end
theorem qie (t:List DE) (args:List BA) (ha:wB args<=1048576):(q0i t args).2.1.size<=1000000000:=by
 have hl:args.length<=1048576:=q0q ha
 unfold q0i
 cases hp:isB t args setN with
 | false=>exact Nat.zero_le _
 | true=>
  unfold isB at hp
  simp only [Bool.and_eq_true] at hp
  refine q7z _ _ _ (by omega) ?_
  match args with
  | a::k::vals=>simp only [List.length_cons] at hl; have:=qkW t hp.1 k vals (by omega) (upB a) (fun _=>trivial); show (setD t (upB a) k vals).2.1.size<=_; omega
  | []=>exact Nat.zero_le _
  | [a]=>exact Nat.zero_le _
theorem qgl (t:List DE) (args:List BA) (ha:wB args<=1048576):(zX t args).2.1.size<=1000000000:=by
 have hl:args.length<=1048576:=q0q ha
 unfold zX
 cases hp:isB t args fldN with
 | false=>exact Nat.zero_le _
 | true=>
  unfold isB at hp
  simp only [Bool.and_eq_true] at hp
  refine q7z _ _ _ (by omega) ?_
  match args with
  | a::k::vals=>simp only [List.length_cons] at hl; have:=qkT t hp.1 k vals (by omega) (upB a); show (fldD t (upB a) k vals).2.1.size<=_; omega
  | []=>exact Nat.zero_le _
  | [a]=>exact Nat.zero_le _
theorem qhH (t:List DE) (args:List BA) (ha:wB args<=1048576):(jE t args).2.1.size<=1000000000:=by
 have hl:args.length<=1048576:=q0q ha
 unfold jE
 cases hp:isB t args lstN with
 | false=>exact Nat.zero_le _
 | true=>
  unfold isB at hp
  simp only [Bool.and_eq_true] at hp
  refine q7z _ _ _ (by omega) ?_
  match args with
  | a::k::vals=>simp only [List.length_cons] at hl; have:=qkj t hp.1 k vals (by omega) (upB a); show (lstD t (upB a) k vals).2.1.size<=_; omega
  | []=>exact Nat.zero_le _
  | [a]=>exact Nat.zero_le _
theorem qhu (t:List DE) (args:List BA) (ha:wB args<=1048576):(jF t args).2.1.size<=1000000000:=by
 have hl:args.length<=1048576:=q0q ha
 have hs:∀ s∈args,s.size<=1048576:=fun s hs=>q2p ha hs
 unfold jF
 cases hp:isB t args txtN with
 | false=>exact Nat.zero_le _
 | true=>
  unfold isB at hp
  simp only [Bool.and_eq_true] at hp
  refine q7z _ _ _ (by omega) ?_
  match args with
  | []=>exact Nat.zero_le _
  | a::r=>
   simp only [List.length_cons] at hl
   dsimp only
   cases decide (upB a=wV) with
   | true=>
    have h1:=qhb t hp.1 r (by omega)
    have h2:(q2C t r).length<=100000000:=q0q h1
    have h3:((q2C t r).map ByteArray.size).sum<=100000000:=by unfold wB wl at h1; omega
    have:=qfw (q2C t r) (by omega)
    show (arrB (q2C t r)).size<=_
    omega
   | false=>
    cases decide (upB a=yX) with
    | true=>show (jV c_OK).size<=_; rw [q6v]; decide
    | false=>
     match r with
     | []=>exact Nat.zero_le _
     | k::vals=>simp only [List.length_cons] at hl; have:=qlc t hp.1 k vals (by omega) (upB a) (fun s h=>by have:=hs s (List.mem_cons_of_mem _ (List.mem_cons_of_mem _ h)); omega); show (txtD t (upB a) k vals).2.1.size<=_; omega
theorem qhX (t:List DE) (now:Int) (args:List BA) (ha:wB args<=1048576):(q4o t now args).2.1.size<=1000000000:=by
 have hl:args.length<=1048576:=q0q ha
 have hs:∀ s∈args,s.size<=1048576:=fun s hs=>q2p ha hs
 unfold q4o
 cases hp:((decide (0<=now)&&decide (now<=100000))&&isB t args keyN) with
 | false=>exact Nat.zero_le _
 | true=>
  unfold isB at hp
  simp only [Bool.and_eq_true,decide_eq_true_eq] at hp
  refine q7z _ _ _ (by omega) ?_
  match args with
  | []=>exact Nat.zero_le _
  | a::r=>
   simp only [List.length_cons] at hl
   obtain ⟨z1,z2⟩:=qcI hp.2.1
   have hlt:=q0j hp.2.1
   dsimp only
   cases decide (upB a=zf) with
   | true=>show (jV q5j).size<=_; rw [q6v]; decide
   | false=>
    cases decide (upB a=zn) with
    | true=>have:=q6h (q31 t) 60 (by omega) (by omega) z2; show (arrB ((q31 t).map zI)).size<=_; omega
    | false=>
     cases decide (upB a=yT) with
     | true=>have:=zo (t.length:Int) (by omega) (by omega); show (numB (t.length:Int)).size<=_; omega
     | false=>
      cases decide (upB a=yD) with
      | true=>show (jV c_OK).size<=_; rw [q6v]; decide
      | false=>
       match r with
       | []=>exact Nat.zero_le _
       | k::vals=>
        simp only [List.length_cons] at hl
        have:=qku t hp.2.1 k vals (by omega) now hp.1 (upB a) (by have:=hs k (List.mem_cons_of_mem _ (List.mem_cons_self ..)); omega)
        show (keyD t now (upB a) k vals).2.1.size<=_
        omega
end Go.Den.S
