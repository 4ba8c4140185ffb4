/- PuUnk: equations of the functions of this seat as the executor tells them, or plain facts about them. Conditions: none here. -/
import Derived.Test.YtbgaejnkjmjkhaaGreatDoorPuWords
set_option linter.all false
namespace Go.Den.S
open Go Go.Den
set_option maxRecDepth 100000
theorem qjU:strings_Fields q0L=some (cmds,()):=(wH _).trans (by kernel_rfl)
theorem f_0:strings_Fields q4H=some (ar0,()):=(wH _).trans (by kernel_rfl)
theorem f_1:strings_Fields q5c=some (ar1,()):=(wH _).trans (by kernel_rfl)
theorem f_2:strings_Fields q4y=some (ar2,()):=(wH _).trans (by kernel_rfl)
theorem f_3:strings_Fields qaF=some (ar3,()):=(wH _).trans (by kernel_rfl)
theorem f_4:strings_Fields q7V=some (ar4,()):=(wH _).trans (by kernel_rfl)
theorem f_5:strings_Fields q4D=some (ar5,()):=(wH _).trans (by kernel_rfl)
theorem qb2 {names:BA}:jK [] names=some (false,()):=by
 rw [qaG]
 simp
theorem q0Z {a:BA} {r:List BA} {names:BA} {l:List BA} (hf:strings_Fields names=some (l,())) (ha:a.size<=2097152) (hl:l.length<=2097152):jK (a::r) names=some (memB (upB a) l,()):=by
 rw [qaG,hf]
 have k1:decide ((((a::r).length:Nat):Int) > 0)=true:=dYT (by simp only [List.length_cons]; omega)
 have k2:decide ((0:Int) < (((a::r).length:Nat):Int))=true:=dYT (by simp only [List.length_cons]; omega)
 have k3:decide ((0:Int)<=0)=true:=rfl
 simp only [k1,k2,Int.le_refl,decide_true,Bool.and_self,cT,oB]
 rw [show List.getD (a::r) (Int.toNat 0) eB=a from rfl,q2I a (by omega),oB,q9G l _ hl,oB]
def arB (u:BA) (n:Int):Bool:=
 bif memB u ar0 then n==0 else bif memB u ar1 then n==1 else bif memB u ar2 then n==2 else bif memB u ar3 then n==3 else bif memB u ar4 then decide (n>=1) else bif memB u ar5 then decide (n>=2) else (n==2||(n==4||n==6))
def jo:List BA->Bool
 | []=>false
 | a::r=>memB (upB a) cmds&&arB (upB a) (r.length:Int)
theorem wlen {a:BA} {r:List BA} (h:r.length<=2097152):w64 (((a::r).length:Int) - 1)=(r.length:Int):=by
 show IntKind.i64.wrap _=_
 rw [ql (by simp only [List.length_cons]; omega) (by simp only [List.length_cons]; omega)]
 simp only [List.length_cons]; omega
theorem q93 (args:List BA) (hl:args.length<=2097152) (hs:∀ s∈args,s.size<=2097152):q69 args=some (jo args,()):=by
 rw [qdK]
 match args,hl,hs with
 | [],_,_=>rw [qb2]; rfl
 | a::r,hl,hs=>
  have ha:=hs a (List.mem_cons_self ..)
  have hr:r.length<=2097152:=by simp only [List.length_cons] at hl; omega
  simp only [q0Z qjU ha (by decide),q0Z f_0 ha (by decide),q0Z f_1 ha (by decide),q0Z f_2 ha (by decide),q0Z f_3 ha (by decide),q0Z f_4 ha (by decide),q0Z f_5 ha (by decide),oB,wlen hr,jo,arB]
  generalize memB (upB a) cmds=b
  generalize memB (upB a) ar0=b0
  generalize memB (upB a) ar1=b1
  generalize memB (upB a) ar2=b2
  generalize memB (upB a) ar3=b3
  generalize memB (upB a) ar4=b4
  generalize memB (upB a) ar5=b5
  cases b<;>cases b0<;>cases b1<;>cases b2<;>cases b3<;>cases b4<;>cases b5<;>simp only [Bool.not_true,Bool.not_false,cT,cF,Bool.false_and,Bool.true_and]
  all_goals
   generalize ((r.length:Int)==2)=e2
   generalize ((r.length:Int)==4)=e4
   cases e2<;>cases e4<;>rfl
theorem kinds:(cmds.all fun u=>(memB u ar1==(!(memB u ar0)&&(!(memB u ar2)&&(!(memB u ar3)&&(!(memB u ar4)&&(!(memB u ar5)&&!(decide (u=yX))))))))&&(!(memB u ar1&&memB u ar0)))=true:=by decide +kernel
theorem qmt {u:BA} (h:memB u cmds=true):memB u ar1=(!(memB u ar0)&&(!(memB u ar2)&&(!(memB u ar3)&&(!(memB u ar4)&&(!(memB u ar5)&&!(decide (u=yX))))))):=by
 have:=List.all_eq_true.1 kinds u (wO.1 h)
 simp only [Bool.and_eq_true,beq_iff_eq] at this
 exact this.1
theorem q8V (args:List BA) (hl:args.length<=2097152) (hs:∀ s∈args,s.size<=2097152):q5X args=some (jo args,()):=by
 rw [qes]
 match args,hl,hs with
 | [],_,_=>rfl
 | a::r,hl,hs=>
  have ha:=hs a (List.mem_cons_self ..)
  have hr:r.length<=2097152:=by simp only [List.length_cons] at hl; omega
  have k1:(((a::r).length:Int)==0)=false:=by simp only [List.length_cons]; simp; omega
  have k2:decide ((0:Int) < (((a::r).length:Nat):Int))=true:=dYT (by simp only [List.length_cons]; omega)
  have k3:decide ((0:Int)<=0)=true:=rfl
  have k4:yC (List.getD (a::r) (Int.toNat 0) eB)=some (upB a,()):=zx a (by omega)
  simp only [k1,k2,Int.le_refl,decide_true,k4,Bool.and_self,cT,cF,q2w,oB,qN,wlen hr,jo,arB,
   q3G cmds _ (by decide),q3G [zf,zn,yT,yD] _ (by decide),q3G [q0s,zV,zl,zi,q0y,zT,zy,zm,jL,wu] _ (by decide),q3G [j5,jm] _ (by decide),q3G [wV,wQ,yN] _ (by decide),q3G [zH,zK,q0I,jN,q08] _ (by decide)]
  have hk:=qmt (u:=upB a)
  revert hk
  generalize memB (upB a) cmds=b
  generalize memB (upB a) ar0=b0
  generalize memB (upB a) ar1=b1
  generalize memB (upB a) ar2=b2
  generalize memB (upB a) ar3=b3
  generalize memB (upB a) ar4=b4
  generalize memB (upB a) ar5=b5
  generalize decide (upB a=yX)=b6
  intro hk
  cases b
  ·rfl
  ·have hk:=hk rfl
   subst hk
   cases b0<;>cases b2<;>cases b3<;>cases b4<;>cases b5<;>cases b6<;>try rfl
   all_goals
    simp only [Bool.not_true,Bool.not_false,cT,cF,Bool.false_and,Bool.true_and]
    generalize ((r.length:Int)==2)=e2
    generalize ((r.length:Int)==4)=e4
    cases e2<;>cases e4<;>rfl
def y5 (s:BA):BA:=(zW++s)++qA
theorem q4k (s:BA) (h:s.size<=2097152):q3I s=some (y5 s,()):=by
 rw [qgf]
 have e1:(zW:BA).size=1:=rfl
 have e2:(qA:BA).size=2:=rfl
 have k1:limS (ByteArray.size zW+ByteArray.size s)=true:=yF (by omega)
 have k2:limS (ByteArray.size (zW++s)+ByteArray.size qA)=true:=yF (by rw [ByteArray.size_append]; omega)
 simp only [k1,k2,cT]
 rfl
theorem q2G (s:BA) (h:s.size<=2097152):q1N s=some (y5 s,()):=by
 rw [qgg]
 have e1:(zW:BA).size=1:=rfl
 have e2:(qA:BA).size=2:=rfl
 have k1:limS (ByteArray.size zW+ByteArray.size s)=true:=yF (by omega)
 have k2:limS (ByteArray.size (zW++s)+ByteArray.size qA)=true:=yF (by rw [ByteArray.size_append]; omega)
 simp only [k1,k2,cT]
 rfl
def unkB (args:List BA):BA:=match args with
 | []=>y5 q03
 | a::_=>bif memB (upB a) cmds then (bif jo args then eB else y5 q1w) else y5 q03
theorem qdN (args:List BA) (hl:args.length<=2097152) (hs:∀ s∈args,s.size<=2097152):q8y args=some (unkB args,()):=by
 rw [qdw]
 match args,hl,hs with
 | [],_,_=>rw [qb2,oB,q4k _ (by decide)]; rfl
 | a::r,hl,hs=>
  rw [q0Z qjU (hs a (List.mem_cons_self ..)) (by decide),oB,q4k _ (by decide),q4k _ (by decide),q93 _ hl hs]
  simp only [oB,unkB]
  cases memB (upB a) cmds<;>cases jo (a::r)<;>rfl
theorem q91 (args:List BA) (hl:args.length<=2097152) (hs:∀ s∈args,s.size<=2097152):q6g args=some (unkB args,()):=by
 rw [qdk]
 match args,hl,hs with
 | [],_,_=>rw [q2G _ (by decide)]; rfl
 | a::r,hl,hs=>
  have ha:=hs a (List.mem_cons_self ..)
  have k1:(((a::r).length:Int)==0)=false:=by simp only [List.length_cons]; simp; omega
  have k2:decide ((0:Int) < (((a::r).length:Nat):Int))=true:=dYT (by simp only [List.length_cons]; omega)
  have k3:decide ((0:Int)<=0)=true:=rfl
  have k4:yC (List.getD (a::r) (Int.toNat 0) eB)=some (upB a,()):=zx a (by omega)
  simp only [k1,k2,Int.le_refl,decide_true,k4,Bool.and_self,cT,cF,q2w,oB,q3G cmds _ (by decide),q2G q03 (by decide),q2G q1w (by decide),q8V _ hl hs,unkB]
  cases memB (upB a) cmds<;>cases jo (a::r)<;>rfl
end Go.Den.S
