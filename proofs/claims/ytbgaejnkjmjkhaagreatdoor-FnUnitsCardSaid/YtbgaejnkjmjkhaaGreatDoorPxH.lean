/- PxH: equations of the functions of this seat as the executor tells them, or plain facts about them. Conditions: none here. -/
import Derived.Test.YtbgaejnkjmjkhaaGreatDoorPxG
set_option linter.all false
namespace Go.Den.S
open Go Go.Den
def setN:List BA:=[jN,q08,wu,q06,q0w]
theorem qnC:strings_Fields q2o=some (setN,()):=(wH _).trans (by kernel_rfl)
theorem qdx (l:List BA) (x:BA) (h:AscS l) (hl:l.length<=10000000) :
  ∃ n:Nat,zR l x=some (((n:Int),memB x l),())/\q0u l 1 x=some (((n:Int),memB x l),()) /\
   (memB x l=false->wF l (n:Int) [x]=some (addS l x,())/\q2Q l (n:Int) [x]=some (addS l x,()))/\(memB x l=true->q3a l (n:Int) 1=some (delS l x,())):=by
 obtain ⟨A,B,h1,h2,h3,h4,h5,h6,h7⟩:=q7r h x
 have hlen:l.length=A.length+B.length:=by rw [h1,List.length_append]
 have e1:l.take A.length=A:=by rw [h1]; simp
 have e2:l.drop A.length=B:=by rw [h1]; simp
 refine ⟨A.length,by rw [qnu l x (by omega) h1 h2 h3,h4],by rw [qkd l x (by omega) h1 h2 h3,h4],fun hm=>⟨?_,?_⟩,fun hm=>?_⟩
 ·rw [qfB l [x] A.length (by omega) (by simp) (by simp; omega),e1,e2,h5 (h4.trans hm)]
 ·rw [qd3 l [x] A.length (by omega) (by simp; omega),e1,e2,h5 (h4.trans hm)]
 ·obtain ⟨C,hC,_,h8⟩:=h6 (h4.trans hm)
  have:=qfX l A.length 1 (by rw [hC] at hlen; simp at hlen; omega) (by omega)
  rw [show ((1:Nat):Int)=1 from rfl] at this
  rw [this,e1,<- List.drop_drop,e2,hC]
  unfold delS
  rw [h8]; rfl
theorem qfE {l:List BA} {x:BA} (h:memB x l=false):delS l x=l:=List.filter_eq_self.2 fun s hs=>by
 rw [dYF (fun e:s=x=>(q5Z.1 h) (by rw [<- e]; exact hs))]; rfl
theorem qgS {l:List BA} (x:BA) (h:AscS l):AscS (delS l x):=List.Pairwise.filter _ h
theorem qlx {l:List BA} {x:BA} (h:AscS l) (hm:memB x l=true):(delS l x).length+1=l.length:=by
 obtain ⟨A,B,h1,h2,h3,h4,h5,h6,h7⟩:=q7r h x
 obtain ⟨C,hC,_,h8⟩:=h6 (h4.trans hm)
 unfold delS
 rw [h8]
 conv=>rhs; rw [h1,hC]
 simp only [List.length_append,List.length_cons]; omega
theorem ql9 (k:BA) (vals:List BA) (d:DD) (n u:Int) (x:BA) (l:List BA) (x10:Int) (h:AscS l) (hl:l.length+vals.length<=5000000) :
  qZ k x10 vals (vals.length:Int) 0 d.1 d.2.1 d.2.2 n u x l=(qg d k (n,(u,(x,jf l vals)))).bind fun r14=>
   (qG (w64 (((jf l vals).length:Int) - x10))).bind fun r15=>(q9 r14.2.1 r15.1).bind fun r16=>some ((),(r16.2.1,())):=
 wX (fun acc i=>qZ k x10 vals (vals.length:Int) i d.1 d.2.1 d.2.2 n u x acc) vals eB addS (fun acc=>(qg d k (n,(u,(x,acc)))).bind fun r14=>
   (qG (w64 ((acc.length:Int) - x10))).bind fun r15=>(q9 r14.2.1 r15.1).bind fun r16=>some ((),(r16.2.1,()))) (fun acc i=>AscS acc/\acc.length<=l.length+i)
  (fun acc i hi hI=>by
   obtain ⟨m,k1,_,k3,_⟩:=qdx acc (vals.getD i eB) hI.1 (by omega)
   obtain ⟨_,_,_,_,_,_,_,_,h7⟩:=q7r hI.1 (vals.getD i eB)
   have hlen:=q8P acc (vals.getD i eB) hI.1
   constructor
   ·conv=>lhs; rw [q0G]
    have e1:decide ((i:Int) < (vals.length:Int))=true:=dYT (by omega)
    have e2:decide (0<=(i:Int))=true:=dYT (by omega)
    have e3:w64 ((i:Int)+1)=((i+1:Nat):Int):=qz (by omega)
    simp only [e1,e2,e3,Bool.and_self,cT,Int.toNat_natCast,k1,oB]
    cases hm:memB (vals.getD i eB) acc with
    | true=>
     simp only [Bool.not_true,cF]
     have:addS acc (vals.getD i eB)=acc:=by unfold addS; rw [hm,cT]
     rw [this]
    | false=>
     simp only [Bool.not_false,cT,(k3 hm).1,oB]
   ·refine ⟨h7,?_⟩
    rw [hlen]
    have:(bif memB (vals.getD i eB) acc then 0 else 1)<=1:=by cases memB (vals.getD i eB) acc<;>decide
    omega)
  (fun acc hI=>by
   show qZ k x10 vals (vals.length:Int) (vals.length:Int) d.1 d.2.1 d.2.2 n u x acc=_
   rw [q0G]
   simp only [Int.lt_irrefl,decide_false,cF]) l ⟨h,by omega⟩
theorem qkL (vals:List BA):∀ (c:Int) (l:List BA),AscS l->vals.foldl (fun (p:Int×List BA) x=>(bif memB x p.2 then p.1 else p.1+1,addS p.2 x)) (c,l)=(c+(((jf l vals).length:Int) - (l.length:Int)),jf l vals):=by
 induction vals with
 | nil=>intro c l h; simp [jf]
 | cons x r ih=>
  intro c l h
  obtain ⟨_,_,_,_,_,_,_,_,h7⟩:=q7r h x
  have hlen:=q8P l x h
  rw [List.foldl_cons,ih _ _ h7]
  have e:jf (addS l x) r=jf l (x::r):=rfl
  rw [e]
  congr 1
  cases hm:memB x l with
  | true=>rw [hm] at hlen; simp only [cT,Nat.add_zero] at hlen ⊢; omega
  | false=>rw [hm] at hlen; simp only [cF] at hlen ⊢; omega
theorem qdu (t:List DE) (a k:BA) (vals:List BA) (n u:Int) (x:BA) (l:List BA) (h:AscS l) (hl:l.length+vals.length<=5000000) :
  q1l t (a::k::vals) k 0 2 n u x l=(qE (((jf l vals).length:Int) - (l.length:Int))).bind fun r11=>(wC t k (n,(u,(x,jf l vals))) r11.1).bind fun r12=>some (r12.1,()):=by
 have:=wX (fun (acc:Int×List BA) i=>q1l t (a::k::vals) k acc.1 (i+2) n u x acc.2) vals eB (fun (p:Int×List BA) x=>(bif memB x p.2 then p.1 else p.1+1,addS p.2 x))
  (fun acc=>(qE acc.1).bind fun r11=>(wC t k (n,(u,(x,acc.2))) r11.1).bind fun r12=>some (r12.1,())) (fun acc i=>AscS acc.2/\acc.2.length<=l.length+i/\0<=acc.1/\acc.1<=i)
  (fun acc i hi hI=>by
   obtain ⟨m,_,k2,k3,_⟩:=qdx acc.2 (vals.getD i eB) hI.1 (by omega)
   obtain ⟨_,_,_,_,_,_,_,_,h7⟩:=q7r hI.1 (vals.getD i eB)
   have hlen:=q8P acc.2 (vals.getD i eB) hI.1
   have hg:(a::k::vals).getD (i+2) eB=vals.getD i eB:=rfl
   constructor
   ·conv=>lhs; rw [q7T]
    have e0:(i:Int)+2=((i+2:Nat):Int):=rfl
    have e1:decide (((i+2:Nat):Int) < ((a::k::vals).length:Int))=true:=dYT (by simp only [List.length_cons]; omega)
    have e2:decide (0<=((i+2:Nat):Int))=true:=dYT (by omega)
    have e3:w64 (((i+2:Nat):Int)+1)=((i+1:Nat):Int)+2:=by rw [show w64 (((i+2:Nat):Int)+1)=((i+2+1:Nat):Int) from qz (by omega)]; omega
    have e4:w64 (acc.1+1)=acc.1+1:=ql (by omega) (by omega)
    simp only [e0,e1,e2,e3,e4,Bool.and_self,cT,Int.toNat_natCast,hg,k2,oB]
    cases hm:memB (vals.getD i eB) acc.2 with
    | true=>
     simp only [Bool.not_true,cF,cT]
     have:addS acc.2 (vals.getD i eB)=acc.2:=by unfold addS; rw [hm,cT]
     rw [this]
    | false=>
     simp only [Bool.not_false,cT,cF,(k3 hm).2,oB]
   ·refine ⟨h7,?_,?_,?_⟩
    ·show (addS acc.2 _).length<=_
     rw [hlen]
     have:(bif memB (vals.getD i eB) acc.2 then 0 else 1)<=1:=by cases memB (vals.getD i eB) acc.2<;>decide
     omega
    ·show 0<=(bif memB (vals.getD i eB) acc.2 then acc.1 else acc.1+1)
     cases memB (vals.getD i eB) acc.2<;>simp only [cT,cF]<;>omega
    ·show (bif memB (vals.getD i eB) acc.2 then acc.1 else acc.1+1)<=_
     cases memB (vals.getD i eB) acc.2<;>simp only [cT,cF]<;>omega)
  (fun acc hI=>by
   show q1l t (a::k::vals) k acc.1 ((vals.length:Int)+2) n u x acc.2=_
   rw [q7T]
   have e1:decide ((vals.length:Int)+2 < ((a::k::vals).length:Int))=false:=dYF (by simp only [List.length_cons]; omega)
   simp only [e1,cF]) (0,l) ⟨h,by simp,by simp,by simp⟩
 rw [qkL vals 0 l h] at this
 simp only [Int.zero_add] at this
 exact this
theorem qkP (vals:List BA):∀ (c:Int) (l:List BA),AscS l->vals.foldl (fun (p:Int×List BA) x=>(bif memB x p.2 then p.1+1 else p.1,delS p.2 x)) (c,l)=(c+((l.length:Int) - ((q12 l vals).length:Int)),q12 l vals):=by
 induction vals with
 | nil=>
  intro c l h
  have:q12 l []=l:=List.filter_eq_self.2 fun s _=>rfl
  rw [this]; simp
 | cons x r ih=>
  intro c l h
  rw [List.foldl_cons,ih _ _ (qgS x h),qi0]
  congr 1
  cases hm:memB x l with
  | true=>have:=qlx h hm; simp only [cT]; omega
  | false=>rw [qfE hm]; rfl
theorem qbI (l vals:List BA):(q12 l vals).length<=l.length:=List.length_filter_le _ _
theorem qdR (t:List DE) (a k:BA) (vals:List BA) (n u:Int) (x:BA) (l:List BA) (h:AscS l) (hl:l.length+vals.length<=5000000) :
  q1i t (a::k::vals) k 0 2 n u x l=(qE ((l.length:Int) - ((q12 l vals).length:Int))).bind fun r11=>(wC t k (n,(u,(x,q12 l vals))) r11.1).bind fun r12=>some (r12.1,()):=by
 have:=wX (fun (acc:Int×List BA) i=>q1i t (a::k::vals) k acc.1 (i+2) n u x acc.2) vals eB (fun (p:Int×List BA) x=>(bif memB x p.2 then p.1+1 else p.1,delS p.2 x))
  (fun acc=>(qE acc.1).bind fun r11=>(wC t k (n,(u,(x,acc.2))) r11.1).bind fun r12=>some (r12.1,())) (fun acc i=>AscS acc.2/\acc.2.length<=l.length/\0<=acc.1/\acc.1<=i)
  (fun acc i hi hI=>by
   obtain ⟨m,_,k2,_,k4⟩:=qdx acc.2 (vals.getD i eB) hI.1 (by omega)
   have hg:(a::k::vals).getD (i+2) eB=vals.getD i eB:=rfl
   constructor
   ·conv=>lhs; rw [q7U]
    have e0:(i:Int)+2=((i+2:Nat):Int):=rfl
    have e1:decide (((i+2:Nat):Int) < ((a::k::vals).length:Int))=true:=dYT (by simp only [List.length_cons]; omega)
    have e2:decide (0<=((i+2:Nat):Int))=true:=dYT (by omega)
    have e3:w64 (((i+2:Nat):Int)+1)=((i+1:Nat):Int)+2:=by rw [show w64 (((i+2:Nat):Int)+1)=((i+2+1:Nat):Int) from qz (by omega)]; omega
    have e4:w64 (acc.1+1)=acc.1+1:=ql (by omega) (by omega)
    simp only [e0,e1,e2,e3,e4,Bool.and_self,cT,Int.toNat_natCast,hg,k2,oB]
    cases hm:memB (vals.getD i eB) acc.2 with
    | true=>simp only [cT,k4 hm,oB]
    | false=>simp only [cF,qfE hm]
   ·refine ⟨qgS _ hI.1,?_,?_,?_⟩
    ·exact Nat.le_trans (List.length_filter_le _ _) hI.2.1
    ·show 0<=(bif memB (vals.getD i eB) acc.2 then acc.1+1 else acc.1)
     cases memB (vals.getD i eB) acc.2<;>simp only [cT,cF]<;>omega
    ·show (bif memB (vals.getD i eB) acc.2 then acc.1+1 else acc.1)<=_
     cases memB (vals.getD i eB) acc.2<;>simp only [cT,cF]<;>omega)
  (fun acc hI=>by
   show q1i t (a::k::vals) k acc.1 ((vals.length:Int)+2) n u x acc.2=_
   rw [q7U]
   have e1:decide ((vals.length:Int)+2 < ((a::k::vals).length:Int))=false:=dYF (by simp only [List.length_cons]; omega)
   simp only [e1,cF]) (0,l) ⟨h,by simp,by simp,by simp⟩
 rw [qkP vals 0 l h] at this
 simp only [Int.zero_add] at this
 exact this
theorem qiO (x:BA) (l:List BA) (hl:l.length<=2097152):zC x l=some (memB x l,()):=by
 rw [q3u,q9G l x hl]; rfl
theorem qg9 (l vals:List BA) (hl:l.length<=5000000) (hv:vals.length<=2097152):zY l (vals,())=some (q12 l vals,((),())):=by
 rw [q4w,q4x]
 have hi:=qak (fun i=>wW l (l.length:Int) i vals) (fun s=>memB s vals) eB l (fun n=>some (n,((),())))
  (fun i hi=>by
   conv=>lhs; rw [q19]
   have e1:decide ((i:Int) < (l.length:Int))=true:=dYT (by omega)
   have e2:decide (0<=(i:Int))=true:=dYT (by omega)
   have e3:w64 ((i:Int)+1)=((i+1:Nat):Int):=qz (by omega)
   simp only [e1,e2,e3,Bool.and_self,cT,Int.toNat_natCast,qiO _ vals hv,oB])
  (by
   show wW l (l.length:Int) (l.length:Int) vals=_
   rw [q19]
   simp only [Int.lt_irrefl,decide_false,cF])
 rw [hi]
 simp only [oB]
 unfold q12
 rcases q95 (fun s=>memB s vals) l 0 with ⟨h1,h2⟩ | ⟨j,h1,h2,h3,h4⟩
 ·rw [h1,filter_none h2]; rfl
 ·rw [h2]
  have hne:((((0+j:Nat):Int))==-1)=false:=by rw [wL]; exact dYF (by omega)
  rw [hne,cF,Nat.zero_add,show w64 ((j:Int)+1)=((j+1:Nat):Int) from qz (by omega)]
  exact qfd (fun xs i j=>yU xs i j vals) (fun s=>memB s vals) eB l (fun l=>some (l,((),())))
   (fun xs i j hj hij hxs _=>by
    conv=>lhs; rw [q0T]
    have e1:decide ((j:Int) < (xs.length:Int))=true:=dYT (by omega)
    have e2:decide (0<=(j:Int))=true:=dYT (by omega)
    have e3:w64 ((j:Int)+1)=((j+1:Nat):Int):=qz (by omega)
    have e4:w64 ((i:Int)+1)=((i+1:Nat):Int):=qz (by omega)
    have e5:decide ((i:Int) < (xs.length:Int))=true:=dYT (by omega)
    have e6:decide (0<=(i:Int))=true:=dYT (by omega)
    simp only [e1,e2,e3,e4,e5,e6,Bool.and_self,cT,Int.toNat_natCast,qiO _ vals hv,oB])
   (fun xs i hi hxs=>by
    show yU xs (i:Int) (l.length:Int) vals=_
    rw [q0T,<- hxs]
    have hz:(((List.take i xs)++(List.replicate (xs.length - i) eB))++(List.drop xs.length xs)).length=xs.length:=by
     simp only [List.length_append,List.length_take,List.length_replicate,List.length_drop]; omega
    simp only [Int.lt_irrefl,decide_false,cF,dYT (show (0:Int)<=(i:Int) by omega),dYT (show (i:Int)<=(xs.length:Int) by omega),Int.le_refl,decide_true,Bool.and_self,cT,Int.toNat_natCast,hz,show Int.toNat 0=0 from rfl,Nat.sub_zero,List.drop_zero]
    rw [List.append_assoc,List.take_append_of_le_length (by rw [List.length_take]; omega),List.take_take,Nat.min_self])
   j h1 h3 h4
theorem qmG {v:DV} (h:valB v=true) (h4:v.1=4):AscS v.2.2.2:=by
 unfold valB at h
 have h1:¬ v.1=1:=by omega
 simp only [dYF h1,cF,Bool.and_eq_true] at h
 have hi:=h.2.2
 have hs:stB v.1=1:=by unfold stB; rw [if_neg (by omega),if_neg (by omega)]
 rw [hs] at hi
 unfold itsB at hi
 rw [List.all_eq_true] at hi
 have:=qah (fun a b:BA=>blt a b=true) (fun _ _ _ h k=>q4C h k) (gi v.2.2.2) v.2.2.2.length fun i hlt=>by
  have:=hi (i+1) (List.mem_range.2 hlt)
  unfold itB at this
  simp only [Bool.and_eq_true,Bool.or_eq_true,Bool.not_eq_true',Nat.mod_one,decide_true,Nat.add_sub_cancel,Bool.and_eq_false_iff,decide_eq_false_iff_not] at this
  rcases this.2 with h | h
  ·rcases h with h | h
   ·rcases h with h | h
    ·omega
    ·simp at h
   ·omega
  ·exact h
 unfold AscS
 rw [List.pairwise_iff_getElem]
 intro i j hi hj hij
 have:=this i j hij hj
 rwa [show gi v.2.2.2 i=v.2.2.2[i] from wS hi,show gi v.2.2.2 j=v.2.2.2[j] from wS hj] at this
end Go.Den.S
