/- PxI: equations of the functions of this seat as the executor tells them, or plain facts about them. Conditions: none here. -/
import Derived.Test.YtbgaejnkjmjkhaaGreatDoorPxH
set_option linter.all false
namespace Go.Den.S
open Go Go.Den
def qK (t:List DE) (k:BA) (n:Int):Bool:=(fndB t k).2&&!(decide ((fndB t k).1.1=n))
def undB (t:List DE) (k:BA):Int×BA×List BA:=(fndB t k).1.2
theorem qam {t:List DE} {k:BA} {n:Int} (hw:qK t k n=false):q8J t k n=((n,undB t k),true):=by
 unfold qK at hw
 unfold q8J undB
 cases hf:(fndB t k).2 with
 | false=>
  have:(fndB t k).1=(0,(0,(eB,[]))):=by
   unfold fndB at hf ⊢
   cases hx:t.find? fun e=>decide (e.1=k) with
   | none=>rfl
   | some e=>rw [hx] at hf; cases hf
  rw [this]; rfl
 | true=>
  rw [hf] at hw
  simp only [Bool.true_and,Bool.not_eq_false',decide_eq_true_eq] at hw
  simp only [Bool.not_true,cF,dYT hw]
  rw [<- hw]
theorem q9n {t:List DE} {k:BA} {n:Int} (hw:qK t k n=true):(q8J t k n).2=false:=by
 unfold qK at hw
 unfold q8J
 simp only [Bool.and_eq_true,Bool.not_eq_true'] at hw
 rw [hw.1]
 exact hw.2
theorem q57 (t:List DE) (k:BA) (n:Int) (h:Bd t):qF (t,(eB,false)) k n=some ((((fndB t k).1.1,undB t k),(fndB t k).2),((bif qK t k n then (t,(y5 yh,true)) else (t,(eB,false))),())):=
 (qca (t,(eB,false)) k n h).trans rfl
theorem jX {t:List DE} {k:BA} (h:tabB t=true):(undB t k).2.2.length<=24/\(undB t k).2.1.size<=60/\∀ s∈(undB t k).2.2,s.size<=60:=by
 unfold undB
 cases hf:(fndB t k).2 with
 | true=>exact q8l (q5N h hf).1
 | false=>
  have:(fndB t k).1=(0,(0,(eB,[]))):=by
   unfold fndB at hf ⊢
   cases hx:t.find? fun e=>decide (e.1=k) with
   | none=>rfl
   | some e=>rw [hx] at hf; cases hf
  rw [this]
  exact ⟨by simp,by decide,fun s hs=>by cases hs⟩
theorem qiC {t:List DE} {k:BA} {n:Int} (h:tabB t=true) (hw:qK t k n=false):(undB t k).2.2=[]\/valB (n,undB t k)=true:=by
 have he:=qam hw
 unfold q8J at he
 cases hf:(fndB t k).2 with
 | true=>
  right
  rw [hf] at he
  simp only [Bool.not_true,cF,Prod.mk.injEq] at he
  rw [<- he.1]
  exact (q5N h hf).1
 | false=>
  left
  have:(fndB t k).1=(0,(0,(eB,[]))):=by
   unfold fndB at hf ⊢
   cases hx:t.find? fun e=>decide (e.1=k) with
   | none=>rfl
   | some e=>rw [hx] at hf; cases hf
  unfold undB
  rw [this]
theorem qbR {t:List DE} {k:BA} (h:tabB t=true) (hw:qK t k 4=false):AscS (undB t k).2.2:=by
 rcases qiC h hw with h | h
 ·rw [h]; exact List.Pairwise.nil
 ·exact qmG (v:=(4,undB t k)) h rfl
theorem qgx {t:List DE} {k:BA} (h:tabB t=true):wB (undB t k).2.2<=2097152:=by
 obtain ⟨h1,_,h2⟩:=jX (k:=k) h
 have:∀ r:List BA,(∀ s∈r,s.size<=60)->(r.map ByteArray.size).sum<=60 * r.length:=by
  intro r
  induction r with
  | nil=>intro _; simp
  | cons x r ih=>
   intro hr
   have h1:=hr x (List.mem_cons_self ..)
   have h2:=ih fun s hs=>hr s (List.mem_cons_of_mem _ hs)
   simp only [List.map_cons,List.sum_cons,List.length_cons]; omega
 have:=this _ h2
 unfold wB wl
 omega
def setD (t:List DE) (u k:BA) (vals:List BA):DD:=
 let v:=undB t k
 let l:=v.2.2
 bif qK t k 4 then (t,(y5 yh,true))
 else bif decide (u=jN) then (q1v t k (4,(v.1,(v.2.1,jf l vals))),(numB (((jf l vals).length:Int) - (l.length:Int)),false))
 else bif decide (u=q08) then (q1v t k (4,(v.1,(v.2.1,q12 l vals))),(numB ((l.length:Int) - ((q12 l vals).length:Int)),false))
 else bif decide (u=wu) then (t,(numB (bif memB (gi vals 0) l then 1 else 0),false))
 else bif decide (u=q06) then (t,(numB (l.length:Int),false))
 else (t,(arrB (l.map zI),false))
theorem qkM {l vals:List BA} (hl:AscS l) (h:0 < vals.length):jf l vals≠[]:=by
 match vals,h with
 | x::r,_=>
  obtain ⟨_,_,_,_,_,_,_,_,h7⟩:=q7r hl x
  have:=(q55 (l:=addS l x) r h7).2.1
  have h2:=q8P l x hl
  intro e
  have e:jf (addS l x) r=[]:=e
  rw [e] at this
  simp only [List.length_nil,Nat.le_zero] at this
  rw [this] at h2
  cases hm:memB x l with
  | true=>
   have:=wO.1 hm
   have:0 < l.length:=List.length_pos_of_mem this
   omega
  | false=>rw [hm] at h2; simp at h2
theorem qgQ (n:Int) (h0:-5000000000<=n) (h1:n<=5000000000):qG (w64 n)=some (numB n,()):=by
 rw [show w64 n=n from ql (by omega) (by omega)]
 exact qP n (by omega) (by omega)
section
variable (t:List DE) (ht:tabB t=true) (k:BA) (vals:List BA) (hv:vals.length<=2097152)
include ht hv
theorem qij (u:BA) (hu:u∈setN) (h2:0 < vals.length\/u=q06\/u=q0w):q00 (t,(eB,false)) u k vals=some ((),(setD t u k vals,())):=by
 have hb:=z8 ht
 have has:=q1x ht
 obtain ⟨n1,n2,n3⟩:=jX (k:=k) ht
 rw [q4l,q57 t k 4 hb]
 simp only [oB]
 unfold setD
 cases hw:qK t k 4 with
 | true=>simp only [cT]
 | false=>
  simp only [cF,qN]
  have hasc:=qbR ht hw
  show (bif decide (u=jN) then qZ k ((undB t k).2.2.length:Int) vals (vals.length:Int) 0 t eB false 4 (undB t k).1 (undB t k).2.1 (undB t k).2.2 else _)=_
  by_cases e1:u=jN
  ·simp only [dYT e1,cT]
   have hpos:0 < vals.length:=by
    rcases h2 with h | h | h
    ·exact h
    ·rw [h] at e1; exact absurd e1 (by decide +kernel)
    ·rw [h] at e1; exact absurd e1 (by decide +kernel)
   obtain ⟨_,k2,k3⟩:=q55 (l:=(undB t k).2.2) vals hasc
   have:=ql9 k vals (t,(eB,false)) 4 (undB t k).1 (undB t k).2.1 (undB t k).2.2 ((undB t k).2.2.length:Int) hasc (by omega)
   rw [this,yZ _ k _ hb has]
   unfold q1v
   simp only [oB,cF,qgQ (((jf (undB t k).2.2 vals).length:Int) - ((undB t k).2.2.length:Int)) (by omega) (by omega),wz,dYF (qkM hasc hpos)]
   rfl
  ·simp only [dYF e1,cF]
   by_cases e2:u=q08
   ·simp only [dYT e2,cT]
    have hr:=qbI (undB t k).2.2 vals
    show (zY (undB t k).2.2 (vals,())).bind _=_
    rw [qg9 _ vals (by omega) hv]
    simp only [oB]
    rw [qeG _ k _ hb has]
    simp only [oB,cF]
    show (qG (w64 (((undB t k).2.2.length:Int) - ((q12 (undB t k).2.2 vals).length:Int)))).bind _=_
    rw [qgQ _ (by omega) (by omega)]
    simp only [oB,wz]
    rfl
   ·simp only [dYF e2,cF]
    by_cases e3:u=wu
    ·simp only [dYT e3,cT]
     have hpos:0 < vals.length:=by
      rcases h2 with h | h | h
      ·exact h
      ·rw [h] at e3; exact absurd e3 (by decide +kernel)
      ·rw [h] at e3; exact absurd e3 (by decide +kernel)
     simp only [Int.le_refl,decide_true,dYT (show (0:Int) < (vals.length:Int) by omega),Bool.and_self,cT]
     show (wP (undB t k).2.2 (gi vals 0)).bind _=_
     rw [q9G _ _ (by omega)]
     simp only [oB,qP 1 (by omega) (by omega),qP 0 (by omega) (by omega),wz]
     cases memB (gi vals 0) (undB t k).2.2<;>rfl
    ·simp only [dYF e3,cF]
     by_cases e4:u=q06
     ·simp only [dYT e4,cT]
      show (qG ((undB t k).2.2.length:Int)).bind _=_
      rw [qP _ (by omega) (by omega)]
      simp only [oB,wz]
      rfl
     ·simp only [dYF e4,cF]
      show (q0W (undB t k).2.2).bind _=_
      rw [q4a _ (by omega) (fun s hs=>by have:=n3 s hs; omega)]
      simp only [oB,q2F _ (q8f _ (qgx ht)),wz]
      rfl
theorem qmH (u:BA) (hk:k.size<=4194304) (hs:∀ s∈vals,s.size<=4194304):Bd (setD t u k vals).1:=by
 have hb:=z8 ht
 obtain ⟨n1,n2,n3⟩:=jX (k:=k) ht
 unfold setD
 cases hw:qK t k 4 with
 | true=>exact hb
 | false=>
  simp only [cF]
  obtain ⟨_,k2,k3⟩:=q55 (l:=(undB t k).2.2) vals (qbR ht hw)
  have hr:=qbI (undB t k).2.2 vals
  by_cases e1:u=jN
  ·simp only [dYT e1,cT]
   exact q5P ht hk (show (jf (undB t k).2.2 vals).length<=_ by omega) (by show (undB t k).2.1.size<=_; omega) fun s hs'=>by
    rcases qaC vals _ s hs' with h | h
    ·have:=n3 s h; omega
    ·exact hs s h
  ·simp only [dYF e1,cF]
   by_cases e2:u=q08
   ·simp only [dYT e2,cT]
    exact q5P ht hk (show (q12 (undB t k).2.2 vals).length<=_ by omega) (by show (undB t k).2.1.size<=_; omega) fun s hs'=>by have:=n3 s (List.mem_filter.1 hs').1; omega
   ·simp only [dYF e2,cF]
    cases decide (u=wu)
    ·cases decide (u=q06)<;>exact hb
    ·exact hb
theorem yR (r:BA):zJ (t,(r,false)) t=(t,(r,true)):=by
 unfold zJ
 simp only [cF,ht,cT]
theorem q9W (a:BA) (hu:upB a∈setN) (hp:isB t (a::k::vals) setN=true) (hk:k.size<=4194304) (hal:∀ s∈(a::k::vals),s.size<=2097152) (h2:0 < vals.length\/upB a=q06\/upB a=q0w) (hl2:(a::k::vals).length<=2097152) :
  q1V t (a::k::vals)=some (zJ (setD t (upB a) k vals) t,()):=by
 have hb:=z8 ht
 have hs:∀ s∈vals,s.size<=4194304:=fun s hs=>by have:=hal s (List.mem_cons_of_mem _ (List.mem_cons_of_mem _ hs)); omega
 obtain ⟨n1,n2,n3⟩:=jX (k:=k) ht
 have k1:(decide ((0:Int)<=1)&&decide ((1:Int) < ((a::k::vals).length:Int)))=true:=by rw [dYT (show (1:Int) < ((a::k::vals).length:Int) by simp only [List.length_cons]; omega)]; rfl
 have k0:(decide ((0:Int)<=0)&&decide ((0:Int) < ((a::k::vals).length:Int)))=true:=by rw [dYT (show (0:Int) < ((a::k::vals).length:Int) by simp only [List.length_cons]; omega)]; rfl
 have g1:List.getD (a::k::vals) (Int.toNat 1) eB=k:=rfl
 have g0:yC (List.getD (a::k::vals) (Int.toNat 0) eB)=some (upB a,()):=zx a (by have:=hal a (List.mem_cons_self ..); omega)
 rw [q6W,show yS t (a::k::vals) [jN,q08,wu,q06,q0w]=some (isB t (a::k::vals) setN,()) from zh t _ _ hb hl2 hal (by decide),hp]
 simp only [oB,Bool.not_true,cF,k1,k0,cT,g1,g0,qcQ t k 4 hb,qN,q68 t yh hb (by decide)]
 unfold setD
 cases hw:qK t k 4 with
 | true=>
  simp only [q9n hw,Bool.not_false,cT]
  rfl
 | false=>
  have hasc:=qbR ht hw
  obtain ⟨_,q2,q3⟩:=q55 (l:=(undB t k).2.2) vals hasc
  have hr:=qbI (undB t k).2.2 vals
  simp only [qam hw,Bool.not_true,cF]
  by_cases e1:upB a=jN
  ·simp only [dYT e1,cT,qdu t a k vals 4 (undB t k).1 (undB t k).2.1 (undB t k).2.2 hasc (by omega),qW (((jf (undB t k).2.2 vals).length:Int) - ((undB t k).2.2.length:Int)) (by omega) (by omega),oB]
   rw [q4N t k (4,((undB t k).1,((undB t k).2.1,jf (undB t k).2.2 vals))) _ ht (show (4:Int)≠0 by decide) hk (show (jf (undB t k).2.2 vals).length<=_ by omega) (show (undB t k).2.1.size<=_ by omega) fun s hs'=>by
    rcases qaC vals _ s hs' with h | h
    ·have:=n3 s h; omega
    ·exact hs s h]
   rfl
  ·simp only [dYF e1,cF]
   by_cases e2:upB a=q08
   ·simp only [dYT e2,cT,qdR t a k vals 4 (undB t k).1 (undB t k).2.1 (undB t k).2.2 hasc (by omega),qW (((undB t k).2.2.length:Int) - ((q12 (undB t k).2.2 vals).length:Int)) (by omega) (by omega),oB]
    rw [q4N t k (4,((undB t k).1,((undB t k).2.1,q12 (undB t k).2.2 vals))) _ ht (show (4:Int)≠0 by decide) hk (show (q12 (undB t k).2.2 vals).length<=_ by omega) (show (undB t k).2.1.size<=_ by omega) fun s hs'=>by have:=n3 s (List.mem_filter.1 hs').1; omega]
    rfl
   ·simp only [dYF e2,cF,yw t hb,oB]
    by_cases e3:upB a=wu
    ·have hpos:0 < vals.length:=by
      rcases h2 with h | h | h
      ·exact h
      ·rw [h] at e3; exact absurd e3 (by decide +kernel)
      ·rw [h] at e3; exact absurd e3 (by decide +kernel)
     have g2:List.getD (a::k::vals) (Int.toNat 2) eB=gi vals 0:=rfl
     obtain ⟨m,_,m2,_⟩:=qdx (undB t k).2.2 (gi vals 0) hasc (by omega)
     simp only [dYT e3,cT,show decide ((0:Int)<=2)=true from rfl,dYT (show (2:Int) < ((a::k::vals).length:Int) by simp only [List.length_cons]; omega),Bool.and_self,g2,m2,oB,qW 1 (by omega) (by omega),qW 0 (by omega) (by omega),yR t ht vals hv]
     cases memB (gi vals 0) (undB t k).2.2<;>rfl
    ·simp only [dYF e3,cF]
     by_cases e4:upB a=q06
     ·simp only [dYT e4,cT,qW ((undB t k).2.2.length:Int) (by omega) (by omega),oB,yR t ht vals hv]
     ·simp only [dYF e4,cF,q2f _ (qgx ht),oB,yR t ht vals hv]
end
theorem q56:tabB []=true:=rfl
def Back (t:List DE) (r:RS):Prop:=(r.1=t\/tabB r.1=true)
theorem q3B (d:DD) (t:List DE):Back t (zJ d t):=by
 unfold Back zJ
 cases d.2.2 with
 | true=>exact .inl rfl
 | false=>
  cases h:tabB d.1 with
  | true=>exact .inr h
  | false=>exact .inl rfl
theorem qnm:(setN.all fun u=>bif decide (u=jN)||decide (u=q08) then !(memB u ar0)&&(!(memB u ar1)&&(!(memB u ar2)&&(!(memB u ar3)&&(!(memB u ar4)&&memB u ar5)))) else bif decide (u=wu) then !(memB u ar0)&&(!(memB u ar1)&&memB u ar2) else !(memB u ar0)&&memB u ar1)=true:=by decide +kernel
theorem qcC {a:BA} {r:List BA} (hu:upB a∈setN) (h:jo (a::r)=true):∃ k vals,r=k::vals/\(0 < vals.length\/upB a=q06\/upB a=q0w):=by
 have h1:=List.all_eq_true.1 qnm _ hu
 unfold jo at h
 simp only [Bool.and_eq_true] at h
 have h:=h.2
 unfold arB at h
 have key:∀ n:Nat,r.length=n+1->∃ k vals,r=k::vals/\vals.length=n:=fun n hn=>by
  match r,hn with
  | k::vals,hn=>exact ⟨k,vals,rfl,by simpa using hn⟩
 by_cases e1:upB a=jN\/upB a=q08
 ·have e1':(decide (upB a=jN)||decide (upB a=q08))=true:=by simpa using e1
  rw [e1'] at h1
  simp only [cT,Bool.and_eq_true,Bool.not_eq_true'] at h1
  obtain ⟨h10,h11,h12,h13,h14,h15⟩:=h1
  simp only [h10,h11,h12,h13,h14,h15,cT,cF,decide_eq_true_eq] at h
  obtain ⟨k,vals,e,hl⟩:=key (r.length - 1) (by omega)
  exact ⟨k,vals,e,.inl (by omega)⟩
 ·have e1':(decide (upB a=jN)||decide (upB a=q08))=false:=by simpa using e1
  rw [e1'] at h1
  simp only [cF] at h1
  by_cases e3:upB a=wu
  ·rw [dYT e3] at h1
   simp only [cT,Bool.and_eq_true,Bool.not_eq_true'] at h1
   obtain ⟨h10,h11,h12⟩:=h1
   simp only [h10,h11,h12,cT,cF,beq_iff_eq] at h
   obtain ⟨k,vals,e,hl⟩:=key 1 (by omega)
   exact ⟨k,vals,e,.inl (by omega)⟩
  ·rw [dYF e3] at h1
   simp only [cF,Bool.and_eq_true,Bool.not_eq_true'] at h1
   obtain ⟨h10,h11⟩:=h1
   simp only [h10,h11,cT,cF,beq_iff_eq] at h
   obtain ⟨k,vals,e,hl⟩:=key 0 (by omega)
   refine ⟨k,vals,e,.inr ?_⟩
   unfold setN at hu
   simp only [List.mem_cons,List.not_mem_nil,or_false] at hu
   rcases hu with h | h | h | h | h
   ·exact absurd (.inl h) e1
   ·exact absurd (.inr h) e1
   ·exact absurd h e3
   ·exact .inl h
   ·exact .inr h
theorem qle (t:List DE) (args:List BA) (h:Bd t) (ha:wB args<=1048576):∃ r:RS,Back t r/\q1V t args=some (r,())/\q7a t args=some (r,()):=by
 have hl:args.length<=1048576:=q0q ha
 have hs:∀ s∈args,s.size<=1048576:=fun s hs=>q2p ha hs
 have hi:=q4g t args q2o setN h (by omega) (fun s h=>by have:=hs s h; omega) qnC (by decide)
 rw [qeK,hi]
 cases hp:isB t args setN with
 | false=>
  refine ⟨([],(eB,false)),.inr q56,?_,rfl⟩
  rw [q6W,show yS t args [jN,q08,wu,q06,q0w]=some (isB t args setN,()) from zh t _ _ h (by omega) (fun s h=>by have:=hs s h; omega) (by decide),hp]
  rfl
 | true=>
  have hp':=hp
  unfold isB at hp'
  simp only [Bool.and_eq_true] at hp'
  obtain ⟨ht,hm,har⟩:=hp'
  match args,hl,hs,hp,hm,har with
  | a::r,hl,hs,hp,hm,har=>
   obtain ⟨k,vals,rfl,h2⟩:=qcC (wO.1 hm) har
   have hlen:(a::k::vals).length=vals.length+2:=rfl
   have hv:vals.length<=2097152:=by omega
   have hks:k.size<=4194304:=by have:=hs k (List.mem_cons_of_mem _ (List.mem_cons_self ..)); omega
   refine ⟨zJ (setD t (upB a) k vals) t,q3B _ _,q9W t ht k vals hv a (wO.1 hm) hp hks (fun s h=>by have:=hs s h; omega) h2 (by omega),?_⟩
   have k1:(decide ((0:Int)<=1)&&decide ((1:Int) < ((a::k::vals).length:Int)))=true:=by rw [dYT (show (1:Int) < ((a::k::vals).length:Int) by omega)]; rfl
   have k0:(decide ((0:Int)<=0)&&decide ((0:Int) < ((a::k::vals).length:Int)))=true:=by rw [dYT (show (0:Int) < ((a::k::vals).length:Int) by omega)]; rfl
   have k2:(decide ((0:Int)<=2)&&(decide ((2:Int)<=((a::k::vals).length:Int))&&decide (((a::k::vals).length:Int)<=((a::k::vals).length:Int))))=true:=by rw [dYT (show (2:Int)<=((a::k::vals).length:Int) by omega),dYT (Int.le_refl _)]; rfl
   have g0:zA (List.getD (a::k::vals) (Int.toNat 0) eB)=some (upB a,()):=q2I a (by have:=hs a (List.mem_cons_self ..); omega)
   have g1:List.getD (a::k::vals) (Int.toNat 1) eB=k:=rfl
   have g2:List.take ((Int.toNat ((a::k::vals).length:Int)) - (Int.toNat 2)) (List.drop (Int.toNat 2) (a::k::vals))=vals:=by
    rw [Int.toNat_natCast]
    exact List.take_of_length_le (by show vals.length<=(a::k::vals).length - 2; omega)
   obtain ⟨d',ho⟩:=q4n (setD t (upB a) k vals) t h (qmH t ht k vals hv (upB a) hks (fun s hs'=>by have:=hs s (List.mem_cons_of_mem _ (List.mem_cons_of_mem _ hs')); omega))
   simp only [oB,cT,Bool.not_true,cF,k0,k1,k2,g0,g1,g2,qij t ht k vals hv (upB a) (wO.1 hm) h2,ho]
end Go.Den.S
