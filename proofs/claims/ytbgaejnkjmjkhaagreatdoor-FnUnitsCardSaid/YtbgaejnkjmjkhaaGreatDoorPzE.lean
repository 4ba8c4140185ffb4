/- PzE: equations of the functions of this seat as the executor tells them, or plain facts about them. Conditions: none here. -/
import Derived.Test.YtbgaejnkjmjkhaaGreatDoorPzD
set_option linter.all false
namespace Go.Den.S
open Go Go.Den
def exeB (t:List DE) (now:Int) (args:List BA):List DE×BA:=
 bif !(tabB t&&(decide (0<=now)&&decide (now<=100000))) then (t,y5 q23)
 else bif !(decide (unkB args=eB)) then (t,unkB args)
 else bif (jF (wG t now) args).2.2 then ((jF (wG t now) args).1,(jF (wG t now) args).2.1)
 else bif (jE (wG t now) args).2.2 then ((jE (wG t now) args).1,(jE (wG t now) args).2.1)
 else bif (zX (wG t now) args).2.2 then ((zX (wG t now) args).1,(zX (wG t now) args).2.1)
 else bif (q0i (wG t now) args).2.2 then ((q0i (wG t now) args).1,(q0i (wG t now) args).2.1)
 else ((q4o (wG t now) now args).1,(q4o (wG t now) now args).2.1)
theorem q8o (t:List DE) (c:Bool) (d:DD):Back t (bif c then zJ d t else noR):=by
 cases c with
 | true=>exact q3B d t
 | false=>exact .inr q56
theorem qbD (t:List DE) (now:Int) (args:List BA):(exeB t now args).1=t\/tabB (exeB t now args).1=true:=by
 unfold exeB
 cases h1:(tabB t&&(decide (0<=now)&&decide (now<=100000))) with
 | false=>exact .inl rfl
 | true=>
  simp only [Bool.and_eq_true] at h1
  have hl:=qa3 h1.1 now
  have fin:∀ r:RS,Back (wG t now) r->tabB r.1=true:=fun r h=>h.elim (fun e=>e▸hl) id
  simp only [Bool.not_true,cF]
  cases decide (unkB args=eB) with
  | false=>exact .inl rfl
  | true=>
   right
   simp only [Bool.not_true,cF]
   cases (jF (wG t now) args).2.2 with
   | true=>exact fin _ (q8o _ _ _)
   | false=>
    simp only [cF]
    cases (jE (wG t now) args).2.2 with
    | true=>exact fin _ (q8o _ _ _)
    | false=>
     simp only [cF]
     cases (zX (wG t now) args).2.2 with
     | true=>exact fin _ (q8o _ _ _)
     | false=>
      simp only [cF]
      cases (q0i (wG t now) args).2.2 with
      | true=>exact fin _ (q8o _ _ _)
      | false=>exact fin _ (q8o _ _ _)
theorem qlD (args:List BA):(unkB args).size<=100:=by
 have h1:(y5 q03).size<=100:=by rw [q0P]; decide
 have h2:(y5 q1w).size<=100:=by rw [q0P]; decide
 unfold unkB
 split
 ·exact h1
 ·cases memB (upB _) cmds with
  | false=>exact h1
  | true=>cases jo _ with
   | true=>exact Nat.zero_le _
   | false=>exact h2
theorem qlP (t:List DE) (now:Int) (args:List BA) (ha:wB args<=1048576):(exeB t now args).2.size<=1000000000:=by
 unfold exeB
 cases (tabB t&&(decide (0<=now)&&decide (now<=100000))) with
 | false=>show (y5 q23).size<=_; rw [q0P]; decide
 | true=>
  simp only [Bool.not_true,cF]
  cases decide (unkB args=eB) with
  | false=>have:=qlD args; show (unkB args).size<=_; omega
  | true=>
   simp only [Bool.not_true,cF]
   cases (jF (wG t now) args).2.2 with
   | true=>exact qhu _ _ ha
   | false=>
    simp only [cF]
    cases (jE (wG t now) args).2.2 with
    | true=>exact qhH _ _ ha
    | false=>
     simp only [cF]
     cases (zX (wG t now) args).2.2 with
     | true=>exact qgl _ _ ha
     | false=>
      simp only [cF]
      cases (q0i (wG t now) args).2.2 with
      | true=>exact qie _ _ ha
      | false=>exact qhX _ _ _ ha
theorem qa7 (t:List DE) (now:Int) (args:List BA) (h:Bd t) (ha:wB args<=1048576):q67 t now args=some (exeB t now args,())/\q5V t now args=some (exeB t now args,()):=by
 have hl:args.length<=1048576:=q0q ha
 have hs:∀ s∈args,s.size<=1048576:=fun s hs=>q2p ha hs
 rw [qdF,qdP,q4v t h,q5S t h]
 simp only [oB,jW,q0D,yw t h,q17 t h,q2G q23 (by decide),q4k q23 (by decide),qdN args (by omega) (fun s h=>by have:=hs s h; omega),q91 args (by omega) (fun s h=>by have:=hs s h; omega),qN]
 unfold exeB
 cases ht:tabB t with
 | false=>exact ⟨rfl,rfl⟩
 | true=>
  simp only [Bool.not_true,cF,Bool.true_and]
  cases hn:(decide (0<=now)&&decide (now<=100000)) with
  | false=>exact ⟨rfl,rfl⟩
  | true=>
   simp only [Bool.not_true,cF]
   cases hu:decide (unkB args=eB) with
   | false=>exact ⟨rfl,rfl⟩
   | true=>
    have hb:=z8 (qa3 ht now)
    obtain ⟨s1,i1⟩:=qjJ (wG t now) args hb ha
    obtain ⟨s2,i2⟩:=qjY (wG t now) args hb ha
    obtain ⟨s3,i3⟩:=qic (wG t now) args hb ha
    obtain ⟨s4,i4⟩:=ql0 (wG t now) args hb ha
    obtain ⟨s5,i5⟩:=qkG (wG t now) now args hb ha
    simp only [Bool.not_true,cF,qbf t now h,qhk t now h,oB,s1,i1,s2,i2,s3,i3,s4,i4,s5,i5]
    cases (jF (wG t now) args).2.2 with
    | true=>exact ⟨rfl,rfl⟩
    | false=>
     simp only [Bool.not_false,cT,cF]
     cases (jE (wG t now) args).2.2 with
     | true=>exact ⟨rfl,rfl⟩
     | false=>
      simp only [Bool.not_false,cT,cF]
      cases (zX (wG t now) args).2.2 with
      | true=>exact ⟨rfl,rfl⟩
      | false=>
       simp only [Bool.not_false,cT,cF]
       cases (q0i (wG t now) args).2.2 with
       | true=>exact ⟨rfl,rfl⟩
       | false=>exact ⟨rfl,rfl⟩
def wZ (now:Int):List (List BA)->List DE->List DE×List BA
 | [],t=>(t,[])
 | a::r,t=>((wZ now r (exeB t now a).1).1,(exeB t now a).2::(wZ now r (exeB t now a).1).2)
theorem q72 (now:Int):∀ (l:List (List BA)) (t:List DE),(wZ now l t).2.length=l.length
 | [],_=>rfl
 | a::r,t=>by unfold wZ; simp only [List.length_cons,q72 now r]
theorem qhT (now:Int):∀ (l:List (List BA)) (t:List DE),(wZ now l t).1=t\/tabB (wZ now l t).1=true
 | [],_=>.inl rfl
 | a::r,t=>by
  unfold wZ
  rcases qhT now r (exeB t now a).1 with h | h
  ·rcases qbD t now a with k | k
   ·left; dsimp only; rw [h,k]
   ·right; dsimp only; rw [h]; exact k
  ·right; exact h
theorem qfD (now:Int):∀ (l:List (List BA)) (t:List DE),(∀ a∈l,wB a<=1048576)->∀ s∈(wZ now l t).2,s.size<=1000000000
 | [],_,_,s,hs=>by cases hs
 | a::r,t,h,s,hs=>by
  unfold wZ at hs
  rcases List.mem_cons.1 hs with rfl | hs
  ·exact qlP _ _ _ (h a (List.mem_cons_self ..))
  ·exact qfD now r _ (fun a h'=>h a (List.mem_cons_of_mem _ h')) s hs
theorem qm7 {t t':List DE} (h:Bd t) (k:t'=t\/tabB t'=true):Bd t':=k.elim (fun e=>e▸h) z8
theorem qcS {R:Type} (F:List DE->List BA->Int->Option R) (fin:List DE×List BA->Option R) (now:Int) (list:List (List BA))
  (hF:∀ (x:List DE) (acc:List BA) (i:Nat) (hi:i < list.length),i < 50->Bd x->acc.length=i->F x acc (i:Int)=F (exeB x now (list[i])).1 (acc++[(exeB x now (list[i])).2]) ((i+1:Nat):Int))
  (hE:∀ (x:List DE) (acc:List BA) (i:Nat),(list.length<=i\/50<=i)->F x acc (i:Int)=fin (x,acc)) :
  ∀ (n i:Nat) (x:List DE) (acc:List BA),n+i=50->acc.length=i->Bd x->F x acc (i:Int)=fin ((wZ now ((list.drop i).take n) x).1,acc++(wZ now ((list.drop i).take n) x).2)
 | 0,i,x,acc,hn,ha,hx=>by
  rw [hE x acc i (by omega)]
  simp [wZ]
 | n+1,i,x,acc,hn,ha,hx=>by
  by_cases hi:i < list.length
  ·rw [hF x acc i hi (by omega) hx ha,qcS F fin now list hF hE n (i+1) _ _ (by omega) (by simp [ha]) (qm7 hx (qbD _ _ _)),List.drop_eq_getElem_cons hi,List.take_succ_cons]
   simp only [wZ,List.append_assoc,List.singleton_append]
  ·rw [hE x acc i (by omega),List.drop_eq_nil_of_le (by omega)]
   simp [wZ]
theorem q9L (t:List DE) (now:Int) (list:List (List BA)) (h:Bd t) (ha:∀ a∈list,wB a<=1048576) (hl:list.length<=100000000):q9h t now list=some (wZ now (list.take 50) t,())/\q5J t now list=some (wZ now (list.take 50) t,()):=by
 rw [qgG,qhq,yw t h,q17 t h]
 simp only [oB]
 constructor
 ·have:=qcS (fun x acc i=>q6s now list x acc i) (fun r=>some (r,())) now list
   (fun x acc i hi h50 hx hacc=>by
    conv=>lhs; rw [q99]
    simp only [dYT (show (i:Int) < (list.length:Int) by omega),dYT (show (i:Int) < 50 by omega),dYT (show (0:Int)<=(i:Int) by omega),Bool.and_self,cT,Int.toNat_natCast,wS hi,(qa7 x now list[i] hx (ha _ (List.getElem_mem hi))).1,oB,qI (show (acc.length+1) * 16<=140737488355328 by omega),show w64 ((i:Int)+1)=((i+1:Nat):Int) from qz (by omega)])
   (fun x acc i hi=>by
    rw [q99]
    rcases hi with hi | hi
    ·simp only [dYF (show ¬ (i:Int) < (list.length:Int) by omega),cF]
    ·simp only [dYF (show ¬ (i:Int) < 50 by omega),cF]
     cases decide ((i:Int) < (list.length:Int))<;>rfl) 50 0 t [] rfl rfl h
  exact this
 ·have:=qcS (fun x acc i=>q6a now list x acc i) (fun r=>some (r,())) now list
   (fun x acc i hi h50 hx hacc=>by
    conv=>lhs; rw [q90]
    have hm:decide ((i:Int) < (bif (decide (50 < (list.length:Int))) then 50 else (list.length:Int)))=true:=by
     cases hc:decide (50 < (list.length:Int)) with
     | true=>exact dYT (by rw [cT]; omega)
     | false=>exact dYT (by rw [cF]; omega)
    simp only [hm,dYT (show (i:Int) < (list.length:Int) by omega),dYT (show (0:Int)<=(i:Int) by omega),Bool.and_self,cT,Int.toNat_natCast,wS hi,(qa7 x now list[i] hx (ha _ (List.getElem_mem hi))).2,oB,qI (show (acc.length+1) * 16<=140737488355328 by omega),show w64 ((i:Int)+1)=((i+1:Nat):Int) from qz (by omega)])
   (fun x acc i hi=>by
    rw [q90]
    have hm:decide ((i:Int) < (bif (decide (50 < (list.length:Int))) then 50 else (list.length:Int)))=false:=by
     cases hc:decide (50 < (list.length:Int)) with
     | true=>exact dYF (by rw [cT]; have:=of_decide_eq_true hc; omega)
     | false=>exact dYF (by rw [cF]; have:=of_decide_eq_false hc; omega)
    simp only [hm,cF]) 50 0 t [] rfl rfl h
  exact this
def doB (t:List DE) (now:Int) (list:List (List BA)) (all:Bool):List DE×BA:=
 ((wZ now (list.take 50) t).1,bif all then arrB (wZ now (list.take 50) t).2 else gi (wZ now (list.take 50) t).2 0)
theorem qkD (t:List DE) (now:Int) (list:List (List BA)) (ha:∀ a∈list,wB a<=1048576):wB (wZ now (list.take 50) t).2<=10000000000000:=by
 have h1:=q72 now (list.take 50) t
 have h2:=qkf _ 1000000000 (qfD now (list.take 50) t fun a h=>ha a (List.mem_of_mem_take h))
 have h3:(list.take 50).length<=50:=by rw [List.length_take]; omega
 unfold wB wl
 omega
theorem qkA (t:List DE) (now:Int) (list:List (List BA)) (all:Bool) (h:Bd t) (ha:∀ a∈list,wB a<=1048576) (hl:list.length<=100000000):q9q t now list all=some (doB t now list all,()):=by
 obtain ⟨s1,i1⟩:=q9L t now list h ha hl
 have hw:=qkD t now list ha
 rw [qeN,i1]
 simp only [oB,q9U _ hw]
 unfold doB
 cases all with
 | true=>rfl
 | false=>
  cases hz:(wZ now (list.take 50) t).2 with
  | nil=>rfl
  | cons x r=>
   have e1:(((x::r).length:Int)==0)=false:=by rw [wL]; exact dYF (by simp only [List.length_cons]; omega)
   have e2:decide ((0:Int) < ((x::r).length:Int))=true:=dYT (by simp only [List.length_cons]; omega)
   simp only [cF,e1,e2,cT,Int.le_refl,decide_true,Bool.and_self]
   rfl
end Go.Den.S
