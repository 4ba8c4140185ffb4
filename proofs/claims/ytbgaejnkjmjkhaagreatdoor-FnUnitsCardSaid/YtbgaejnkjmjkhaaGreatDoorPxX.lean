/- PxX: equations of the functions of this seat as the executor tells them, or plain facts about them. Conditions: none here. -/
import Derived.Test.YtbgaejnkjmjkhaaGreatDoorPxW
set_option linter.all false
namespace Go.Den.S
open Go Go.Den
def cntK (del:Bool) (p:Int×List DE) (k:BA):Int×List DE:=(bif (fndB p.2 k).2 then p.1+1 else p.1,bif del then q1T p.2 k else p.2)
structure Ok2 (t:List DE):Prop where
 bd:Bd t
 asc:Asc t
theorem qlq {t:List DE} (h:Ok2 t) (k:BA):Ok2 (q1T t k):=⟨qeY h.bd h.asc,qly h.asc⟩
theorem qcW {p:Int×List DE} (h:Ok2 p.2) (del:Bool) (k:BA):Ok2 (cntK del p k).2:=by
 unfold cntK
 cases del with
 | true=>exact qlq h k
 | false=>exact h
theorem qjw (del:Bool) (t:List DE) (r:BA) (ks:List BA) (h:Ok2 t) (hl:ks.length<=2097152):wE (t,(r,false)) ks del=some ((ks.foldl (cntK del) (0,t)).1,(((ks.foldl (cntK del) (0,t)).2,(r,false)),())):=by
 rw [q3d]
 exact wX (fun (acc:Int×List DE) i=>qQ del acc.1 ks (ks.length:Int) i acc.2 r false) ks eB (cntK del) (fun acc=>some (acc.1,((acc.2,(r,false)),()))) (fun acc i=>Ok2 acc.2/\0<=acc.1/\acc.1<=i)
  (fun acc i hi hI=>by
   constructor
   ·conv=>lhs; rw [q09]
    have e3:w64 ((i:Int)+1)=((i+1:Nat):Int):=qz (by omega)
    have e4:w64 (acc.1+1)=acc.1+1:=ql (by omega) (by omega)
    simp only [dYT (show (i:Int) < (ks.length:Int) by omega),dYT (show (0:Int)<=(i:Int) by omega),Bool.and_self,cT,Int.toNat_natCast,e3,e4,q2A acc.2 _ hI.1.bd,oB,q8z (acc.2,(r,false)) _ hI.1.bd hI.1.asc]
    unfold cntK
    cases (fndB acc.2 (ks.getD i eB)).2<;>cases del<;>simp only [cT,cF]
   ·refine ⟨qcW hI.1 del _,?_,?_⟩
    ·show 0<=(bif (fndB acc.2 (ks.getD i eB)).2 then acc.1+1 else acc.1)
     cases (fndB acc.2 (ks.getD i eB)).2<;>simp only [cT,cF]<;>omega
    ·show (bif (fndB acc.2 (ks.getD i eB)).2 then acc.1+1 else acc.1)<=_
     cases (fndB acc.2 (ks.getD i eB)).2<;>simp only [cT,cF]<;>omega)
  (fun acc hI=>by
   show qQ del acc.1 ks (ks.length:Int) (ks.length:Int) acc.2 r false=_
   rw [q09]
   simp only [Int.lt_irrefl,decide_false,cF]) (0,t) ⟨h,by simp,by simp⟩
theorem qmu (t0 t:List DE) (a:BA) (ks:List BA) (h:Ok2 t) (hl:ks.length<=2097152) (ha:a.size<=2097152):zM t0 (a::ks) t 0 1=(qE (ks.foldl (cntK (decide (upB a=wQ))) (0,t)).1).bind fun r7=>(yA t0 (ks.foldl (cntK (decide (upB a=wQ))) (0,t)).2 r7.1).bind fun r8=>some (r8.1,()):=by
 have k0:(decide ((0:Int)<=0)&&decide ((0:Int) < ((a::ks).length:Int)))=true:=by rw [dYT (show (0:Int) < ((a::ks).length:Int) by simp only [List.length_cons]; omega)]; rfl
 have g0:yC (List.getD (a::ks) (Int.toNat 0) eB)=some (upB a,()):=zx a (by omega)
 have:=wX (fun (acc:Int×List DE) i=>zM t0 (a::ks) acc.2 acc.1 (i+1)) ks eB (cntK (decide (upB a=wQ))) (fun acc=>(qE acc.1).bind fun r7=>(yA t0 acc.2 r7.1).bind fun r8=>some (r8.1,())) (fun acc i=>Ok2 acc.2/\0<=acc.1/\acc.1<=i)
  (fun acc i hi hI=>by
   have hg:(a::ks).getD (i+1) eB=ks.getD i eB:=rfl
   constructor
   ·conv=>lhs; rw [q7C]
    have e0:(i:Int)+1=((i+1:Nat):Int):=rfl
    have e3:w64 (((i+1:Nat):Int)+1)=((i+1:Nat):Int)+1:=by rw [show w64 (((i+1:Nat):Int)+1)=((i+1+1:Nat):Int) from qz (by omega)]; rfl
    have e4:w64 (acc.1+1)=acc.1+1:=ql (by omega) (by omega)
    simp only [e0,e3,e4,dYT (show ((i+1:Nat):Int) < ((a::ks).length:Int) by simp only [List.length_cons]; omega),dYT (show (0:Int)<=((i+1:Nat):Int) by omega),Bool.and_self,cT,Int.toNat_natCast,hg,q2e acc.2 _ hI.1.bd,oB,k0,g0,qN,q0Q acc.2 _ _ hI.1.bd,decide_true]
    unfold cntK
    have hnf:(fndB acc.2 (ks.getD i eB)).2=false->q1T acc.2 (ks.getD i eB)=acc.2:=fun hf=>by
     rw [<- q7d acc.2 _ hI.1.asc]
     refine List.filter_eq_self.2 fun e he=>?_
     unfold fndB at hf
     cases hx:acc.2.find? fun e=>decide (e.1=ks.getD i eB) with
     | some e'=>rw [hx] at hf; cases hf
     | none=>
      rw [List.find?_eq_none] at hx
      have:=hx e he
      simpa using this
    cases hf:(fndB acc.2 (ks.getD i eB)).2 with
    | true=>cases decide (upB a=wQ)<;>simp only [cT,cF]
    | false=>
     have:=hnf hf
     cases decide (upB a=wQ)<;>simp only [cT,cF,this]
   ·refine ⟨qcW hI.1 _ _,?_,?_⟩
    ·show 0<=(bif (fndB acc.2 (ks.getD i eB)).2 then acc.1+1 else acc.1)
     cases (fndB acc.2 (ks.getD i eB)).2<;>simp only [cT,cF]<;>omega
    ·show (bif (fndB acc.2 (ks.getD i eB)).2 then acc.1+1 else acc.1)<=_
     cases (fndB acc.2 (ks.getD i eB)).2<;>simp only [cT,cF]<;>omega)
  (fun acc hI=>by
   show zM t0 (a::ks) acc.2 acc.1 ((ks.length:Int)+1)=_
   rw [q7C]
   have e1:decide ((ks.length:Int)+1 < ((a::ks).length:Int))=false:=dYF (by simp only [List.length_cons]; omega)
   simp only [e1,cF]) (0,t) ⟨h,by simp,by simp⟩
 exact this
end Go.Den.S
