/- PuWords: equations of the functions of this seat as the executor tells them, or plain facts about them. Conditions: none here. -/
import Derived.Test.YtbgaejnkjmjkhaaGreatDoorEqD0
import Derived.Test.YtbgaejnkjmjkhaaGreatDoorEqD1
import Derived.Test.YtbgaejnkjmjkhaaGreatDoorDenFour
set_option linter.all false
namespace Go.Den.S
open Go Go.Den
theorem ql6 {n:Int} (h0:0<=n) (h:97<=n/\n<=122):IntKind.u8.wrap (n - 32)=upN n:=by
 rw [qfT (by omega) (by omega)]
 unfold upN; rw [if_pos h]
theorem qea {n:Int} (h:¬ (97<=n/\n<=122)):upN n=n:=by unfold upN; rw [if_neg h]
theorem q7D (s:BA):(yO s).length=s.size:=q5T s
theorem q2I (s:BA) (hs:s.size<=9223372036854775806):zA s=some (upB s,()):=by
 rw [qgo]
 have hl:=q7D s
 refine (qbg (fun out i=>q0t ((yO s).length:Int) i out) (yO s) upN fun out i hi ho hg=>?_).trans ?_
 ·show q0t _ (i:Int) out=q0t _ ((i:Int)+1) (out.set i (upN ((yO s).getD i 0)))
  rw [q8F]
  have k1:decide ((i:Int) < ((yO s).length:Int))=true:=dYT (by omega)
  have k2:decide ((i:Int) < (out.length:Int))=true:=dYT (by omega)
  have k3:decide (0<=(i:Int))=true:=dYT (by omega)
  have k4:w64 ((i:Int)+1)=(i:Int)+1:=ql (by omega) (by omega)
  have hm:=qdX (yj (d:=0) hi)
  simp only [k1,k2,k3,k4,Bool.and_self,cT,Int.toNat_natCast,hg]
  by_cases h1:(yO s).getD i 0>=97
  ·by_cases h2:(yO s).getD i 0<=122
   ·simp only [dYT h1,dYT h2,cT,ql6 hm.1 ⟨h1,h2⟩]
   ·simp only [dYT h1,dYF h2,cT,cF]
    rw [qea (by omega),<- hg,qaz (by omega)]
  ·simp only [dYF h1,cF]
   rw [qea (by omega),<- hg,qaz (by omega)]
 ·show q0t _ _ _=_
  rw [q8F]
  have k1:decide (((yO s).length:Int) < ((yO s).length:Int))=false:=dYF (by omega)
  simp only [k1,cF]
  rfl
theorem zx (s:BA) (hs:s.size<=9223372036854775806):yC s=some (upB s,()):=by
 rw [qg0]
 have hl:=q7D s
 refine (qbg (fun out i=>q0v out i) (yO s) upN fun out i hi ho hg=>?_).trans ?_
 ·show q0v out (i:Int)=q0v (out.set i (upN ((yO s).getD i 0))) ((i:Int)+1)
  rw [q8r]
  have k2:decide ((i:Int) < (out.length:Int))=true:=dYT (by omega)
  have k3:decide (0<=(i:Int))=true:=dYT (by omega)
  have k4:w64 ((i:Int)+1)=(i:Int)+1:=ql (by omega) (by omega)
  have hm:=qdX (yj (d:=0) hi)
  simp only [k2,k3,k4,Bool.and_self,cT,Int.toNat_natCast,hg]
  by_cases h1:(yO s).getD i 0>=97
  ·by_cases h2:(yO s).getD i 0<=122
   ·simp only [dYT h1,dYT h2,cT,ql6 hm.1 ⟨h1,h2⟩]
   ·simp only [dYT h1,dYF h2,cT,cF]
    rw [qea (by omega),<- hg,qaz (by omega)]
  ·simp only [dYF h1,cF]
   rw [qea (by omega),<- hg,qaz (by omega)]
 ·show q0v _ _=_
  rw [q8r]
  have k1:decide (((yO s).length:Int) < (((yO s).map upN).length:Int))=false:=dYF (by simp)
  simp only [k1,cF]
  rfl
theorem qlr (l:List BA) (x:BA) (hl:l.length<=2097152):∃ n:Int,q1e l x=some (n,())/\(0<=n↔x∈l):=by
 rw [q5y]
 refine q6V l eB (fun i r=>∃ n:Int,jl l x (l.length:Int) (i:Int)=some (n,())/\(0<=n↔x∈r)) ?_ fun i y r hi hy hm ih=>?_
 ·rw [q1A]
  exact ⟨-1,by simp,by simp⟩
 ·rw [q1A]
  have k1:decide ((i:Int) < (l.length:Int))=true:=dYT (by omega)
  have k3:decide (0<=(i:Int))=true:=dYT (by omega)
  have k4:w64 ((i:Int)+1)=((i+1:Nat):Int):=qz (by omega)
  simp only [k1,k3,k4,Bool.and_self,cT,Int.toNat_natCast,hy,qN]
  by_cases h:x=y
  ·exact ⟨i,by simp only [dYT h,cT],by simp [h]⟩
  ·obtain ⟨n,e1,e2⟩:=ih
   exact ⟨n,by simp only [dYF h,cF,e1],by simp [e2,h]⟩
theorem q9G (l:List BA) (x:BA) (hl:l.length<=2097152):wP l x=some (memB x l,()):=by
 obtain ⟨n,e1,e2⟩:=qlr l x hl
 rw [q4X,e1,oB]
 have:decide (n>=0)=memB x l:=by
  by_cases h:x∈l
  ·rw [wO.2 h,dYT (e2.2 h)]
  ·rw [q5Z.2 h,dYF fun h'=>h (e2.1 h')]
 rw [this]
theorem q3G (l:List BA) (x:BA) (hl:l.length<=2097152):zZ l x=some (memB x l,()):=by
 rw [qgp]
 refine q6V l eB (fun i r=>q5w l x (i:Int)=some (memB x r,())) ?_ fun i y r hi hy hm ih=>?_
 ·rw [q8B]
  simp [memB]
 ·rw [q8B]
  have k1:decide ((i:Int) < (l.length:Int))=true:=dYT (by omega)
  have k3:decide (0<=(i:Int))=true:=dYT (by omega)
  have k4:w64 ((i:Int)+1)=((i+1:Nat):Int):=qz (by omega)
  simp only [k1,k3,k4,Bool.and_self,cT,Int.toNat_natCast,hy,qN]
  by_cases h:y=x
  ·subst h; simp [memB]
  ·have:x≠y:=fun e=>h e.symm
   simp only [dYF h,cF,ih,memB,dYF this,Bool.false_or]
abbrev cmds:List BA:=[zf,jc,jk,q0s,zV,zl,zi,yP,j6,jh,q0y,zT,wV,yX,wQ,yN,q02,zy,q1Q,q1u,zn,yT,yD,zH,zK,q2l,q1g,q1I,j5,zm,jm,jL,q0I,q1M,jD,q54,jN,q08,wu,q06,q0w]
theorem q2w:q1a=some (cmds,()):=qde
abbrev ar0:List BA:=[zf,zn,yT,yD]
abbrev ar1:List BA:=[jc,jk,yP,j6,jh,q02,q1Q,q1u,q2l,q1g,q1I,q1M,jD,q54,q06,q0w]
abbrev ar2:List BA:=[q0s,zV,zl,zi,q0y,zT,zy,zm,jL,wu]
abbrev ar3:List BA:=[j5,jm]
abbrev ar4:List BA:=[wV,wQ,yN]
abbrev ar5:List BA:=[zH,zK,q0I,jN,q08]
end Go.Den.S
