/- PxA: equations of the functions of this seat as the executor tells them, or plain facts about them. Conditions: none here. -/
import Derived.Test.YtbgaejnkjmjkhaaGreatDoorPuUnk
import Derived.Test.YtbgaejnkjmjkhaaGreatDoorDenFour
import Derived.Lib.ItoaNum
import Derived.Lib.AtoiAll
set_option linter.all false
namespace Go.Den.S
open Go Go.Den
def mkB (l:List UInt8):BA:=⟨l.toArray⟩
theorem q3Q (l:List UInt8):(mkB l).data.toList=l:=by simp [mkB]
theorem qcy (l:List UInt8):(mkB l).size=l.length:=by simp [mkB,ByteArray.size]
theorem qfo (l m:List UInt8):mkB l++mkB m=mkB (l++m):=q4E (by simp [mkB])
def decB (n:Int):BA:=mkB (Lib.itoa n)
theorem q0d (n:Int) (h0:-9223372036854775808<=n) (h1:n<=9223372036854775807):q0o n=some (decB n,()):=by
 rw [qee,qe7]
 unfold q45
 simp only [dYT h0,dYT h1,Bool.and_self,cT,oB]
 rfl
theorem qaN (d:Nat) (h:d < 10):q53 (d:Int)=some (((48+d:Nat):Int),()):=by
 rw [qbU]
 have e:(Go.IntKind.u8.wrap (w64 (48+(d:Int))))=((48+d:Nat):Int):=by
  show IntKind.u8.wrap (IntKind.i64.wrap _)=_
  rw [ql (by omega) (by omega),qfT (by omega) (by omega)]; omega
 simp only [dYT (show (d:Int) < 10 by omega),cT,e]
theorem qaP (u:Nat) (h:¬ u < 10):Lib.decDigits u=Lib.decDigits (u / 10)++[UInt8.ofNat (48+u % 10)]:=by
 rw [Lib.decDigits,dif_neg h]
theorem qdc (k u:Nat) (h:u < 10 ^ (k+1)):(Lib.decDigits u).length<=k+1:=by
 induction k generalizing u with
 | zero=>
  rw [Lib.decDigits,dif_pos (by simpa using h)]
  simp
 | succ k ih=>
  by_cases hu:u < 10
  ·rw [Lib.decDigits,dif_pos hu]; simp
  ·rw [qaP u hu,List.length_append]
   have:=ih (u / 10) (by rw [Nat.pow_succ] at h; omega)
   simp only [List.length_singleton]
   omega
theorem qgB (neg:Bool) (k u:Nat) (acc:BA) (h1:1<=u) (h2:u < 10 ^ (k+1)) (h3:u<=9000000000000000000) (h4:acc.size+k<=1000000)
  (ih:10<=u->jO (if neg then -((u / 10:Nat):Int) else ((u / 10:Nat):Int)) neg ((⟨List.toArray [UInt8.ofNat (48+u % 10)]⟩:BA)++acc)=some ((if neg then mkB (45::Lib.decDigits (u / 10)) else mkB (Lib.decDigits (u / 10)))++((⟨List.toArray [UInt8.ofNat (48+u % 10)]⟩:BA)++acc),())) :
  jO (if neg then -(u:Int) else (u:Int)) neg acc=some ((if neg then mkB (45::Lib.decDigits u) else mkB (Lib.decDigits u))++acc,()):=by
 have hsz:∀ x:UInt8,(⟨List.toArray [x]⟩:BA).size=1:=fun _=>rfl
 have hround:jO (if neg then -(u:Int) else (u:Int)) neg acc=jO (if neg then -((u / 10:Nat):Int) else ((u / 10:Nat):Int)) neg ((⟨List.toArray [UInt8.ofNat (48+u % 10)]⟩:BA)++acc):=by
  conv=>lhs; rw [q7m]
  have hbyte:UInt8.ofNat (Int.toNat ((48+u % 10:Nat):Int))=UInt8.ofNat (48+u % 10):=by rw [Int.toNat_natCast]
  cases neg with
  | false=>
   have k1:((u:Int) != 0)=true:=by simp; omega
   have k2:Int.tmod (u:Int) 10=((u % 10:Nat):Int):=by rw [Int.tmod_eq_emod_of_nonneg (by omega)]; omega
   have k3:w64 (Int.tdiv (u:Int) 10)=((u / 10:Nat):Int):=by
    show IntKind.i64.wrap _=_
    rw [Int.tdiv_eq_ediv_of_nonneg (by omega),ql (by omega) (by omega)]; omega
   simp only [Bool.false_eq_true,if_false,k1,k2,k3,cT,dYF (show ¬ (((u % 10:Nat):Int) < 0) by omega),cF,qaN (u % 10) (by omega),oB,List.map_cons,List.map_nil,hbyte,hsz,yF (show 1+acc.size<=9223372036854775807 by omega)]
  | true=>
   have k1:((-(u:Int)) != 0)=true:=by simp; omega
   have k2:Int.tmod (-(u:Int)) 10=-((u % 10:Nat):Int):=by rw [Int.neg_tmod,Int.tmod_eq_emod_of_nonneg (by omega)]; omega
   have k3:w64 (Int.tdiv (-(u:Int)) 10)=-((u / 10:Nat):Int):=by
    show IntKind.i64.wrap _=_
    rw [Int.neg_tdiv,Int.tdiv_eq_ediv_of_nonneg (by omega),ql (by omega) (by omega)]; omega
   have k4:w64 (0 - (-((u % 10:Nat):Int)))=((u % 10:Nat):Int):=by
    show IntKind.i64.wrap _=_
    rw [ql (by omega) (by omega)]; omega
   simp only [if_true,k1,k2,k3,k4,cT]
   by_cases hz:(-((u % 10:Nat):Int)) < 0
   ·simp only [dYT hz,cT,qaN (u % 10) (by omega),oB,List.map_cons,List.map_nil,hbyte,hsz,yF (show 1+acc.size<=9223372036854775807 by omega)]
   ·have h0:u % 10=0:=by omega
    have e0:(-((u % 10:Nat):Int))=((0:Nat):Int):=by omega
    have hz':decide ((-((u % 10:Nat):Int)) < 0)=false:=dYF hz
    simp only [hz',cF]
    rw [e0]
    simp only [qaN 0 (by omega),oB,List.map_cons,List.map_nil,hsz,yF (show 1+acc.size<=9223372036854775807 by omega),cT,Int.toNat_natCast]
    rw [h0]
 rw [hround]
 have hone:(⟨List.toArray [UInt8.ofNat (48+u % 10)]⟩:BA)=mkB [UInt8.ofNat (48+u % 10)]:=rfl
 by_cases hu:u < 10
 ·have e0:u / 10=0:=by omega
  have e1:u % 10=u:=by omega
  rw [e0,q7m]
  have e2:(if neg=true then -((0:Nat):Int) else ((0:Nat):Int))=0:=by split<;>rfl
  have hd:Lib.decDigits u=[UInt8.ofNat (48+u)]:=by rw [Lib.decDigits,dif_pos hu]
  rw [e2,hd]
  cases neg with
  | false=>simp only [show ((0:Int) != 0)=false from rfl,cF,e1,Bool.false_eq_true,if_false]; rfl
  | true=>
   have e3:(zW:BA)=mkB [45]:=rfl
   have e4:(zW:BA).size=1:=rfl
   simp only [show ((0:Int) != 0)=false from rfl,cF,cT,ByteArray.size_append,e4,hsz,yF (show 1+(1+acc.size)<=9223372036854775807 by omega),e1,if_true]
   rw [e3,show (⟨List.toArray [UInt8.ofNat (48+u)]⟩:BA)=mkB [UInt8.ofNat (48+u)] from rfl,<- ByteArray.append_assoc,qfo]
   rfl
 ·rw [ih (by omega),hone,qaP u hu]
  cases neg with
  | false=>simp only [Bool.false_eq_true,if_false]; rw [<- ByteArray.append_assoc,qfo]
  | true=>simp only [if_true]; rw [<- ByteArray.append_assoc,qfo]; rfl
theorem qgR (neg:Bool) (k:Nat):∀ (u:Nat) (acc:BA),1<=u->u < 10 ^ (k+1)->u<=9000000000000000000->acc.size+k<=1000000->
  jO (if neg then -(u:Int) else (u:Int)) neg acc=some ((if neg then mkB (45::Lib.decDigits u) else mkB (Lib.decDigits u))++acc,()):=by
 induction k with
 | zero=>exact fun u acc h1 h2 h3 h4=>qgB neg 0 u acc h1 h2 h3 h4 (fun h=>absurd h2 (by rw [Nat.zero_add,Nat.pow_one]; omega))
 | succ k ih=>
  exact fun u acc h1 h2 h3 h4=>qgB neg (k+1) u acc h1 h2 h3 h4 fun h=>ih (u / 10) _ (by omega) (by rw [Nat.pow_succ] at h2; omega) (by omega) (by
   rw [ByteArray.size_append]
   have:∀ x:UInt8,(⟨List.toArray [x]⟩:BA).size=1:=fun _=>rfl
   rw [this]; omega)
theorem jH (n:Int) (h0:-9000000000000000000<=n) (h1:n<=9000000000000000000):zP n=some (decB n,()):=by
 rw [qdH]
 by_cases hz:n=0
 ·subst hz
  have:decB 0=c_0:=by
   unfold decB Lib.itoa
   rw [if_neg (by omega),show Int.toNat 0=0 from rfl,Lib.decDigits,dif_pos (by omega)]; rfl
  simp only [show ((0:Int)==0)=true from rfl,cT,this]
 ·have k0:(n==0)=false:=by simpa using hz
  simp only [k0,cF]
  by_cases hn:n < 0
  ·have:=qgR true 18 n.natAbs eB (by omega) (by omega) (by omega) (by decide)
   simp only [if_true,show -((n.natAbs:Nat):Int)=n by omega] at this
   rw [dYT hn,this]
   unfold decB Lib.itoa
   rw [if_pos hn,ByteArray.append_empty]
  ·have:=qgR false 18 n.toNat eB (by omega) (by omega) (by omega) (by decide)
   simp only [Bool.false_eq_true,if_false,show ((n.toNat:Nat):Int)=n by omega] at this
   rw [dYF hn,this]
   unfold decB Lib.itoa
   rw [if_neg hn,ByteArray.append_empty]
theorem q0F (n:Int) (h0:-9223372036854775808<=n) (h1:n<=9223372036854775807):(decB n).size<=20:=by
 unfold decB Lib.itoa
 rw [qcy]
 split
 ·have:=qdc 18 n.natAbs (by omega)
  simp only [List.length_cons]; omega
 ·have:=qdc 18 n.toNat (by omega)
  omega
def numB (n:Int):BA:=(q1X++decB n)++qA
theorem qP (n:Int) (h0:-9000000000000000000<=n) (h1:n<=9000000000000000000):qG n=some (numB n,()):=by
 rw [qf2,q0d n (by omega) (by omega)]
 have e1:(q1X:BA).size=1:=rfl
 have e2:(qA:BA).size=2:=rfl
 have:=q0F n (by omega) (by omega)
 simp only [oB,e1,e2,ByteArray.size_append,yF (show 1+(decB n).size<=9223372036854775807 by omega),yF (show 1+(decB n).size+2<=9223372036854775807 by omega),cT]
 rfl
theorem qW (n:Int) (h0:-9000000000000000000<=n) (h1:n<=9000000000000000000):qE n=some (numB n,()):=by
 rw [qfq,jH n (by omega) (by omega)]
 have e1:(q1X:BA).size=1:=rfl
 have e2:(qA:BA).size=2:=rfl
 have:=q0F n (by omega) (by omega)
 simp only [oB,e1,e2,ByteArray.size_append,yF (show 1+(decB n).size<=9223372036854775807 by omega),yF (show 1+(decB n).size+2<=9223372036854775807 by omega),cT]
 rfl
def zI (s:BA):BA:=(((q0f++decB (s.size:Int))++qA)++s)++qA
theorem q2t (s:BA) (h:s.size<=1000000000):q2N s=some (zI s,()):=by
 rw [qhI,q0d _ (by omega) (by omega)]
 have e1:(q0f:BA).size=1:=rfl
 have e2:(qA:BA).size=2:=rfl
 have:=q0F (s.size:Int) (by omega) (by omega)
 simp only [oB,e1,e2,ByteArray.size_append,yF (show 1+(decB (s.size:Int)).size<=9223372036854775807 by omega),yF (show 1+(decB (s.size:Int)).size+2<=9223372036854775807 by omega),
  yF (show 1+(decB (s.size:Int)).size+2+s.size<=9223372036854775807 by omega),yF (show 1+(decB (s.size:Int)).size+2+s.size+2<=9223372036854775807 by omega),cT]
 rfl
theorem q2j (s:BA) (h:s.size<=1000000000):q1p s=some (zI s,()):=by
 rw [qgJ,jH _ (by omega) (by omega)]
 have e1:(q0f:BA).size=1:=rfl
 have e2:(qA:BA).size=2:=rfl
 have:=q0F (s.size:Int) (by omega) (by omega)
 simp only [oB,e1,e2,ByteArray.size_append,yF (show 1+(decB (s.size:Int)).size<=9223372036854775807 by omega),yF (show 1+(decB (s.size:Int)).size+2<=9223372036854775807 by omega),
  yF (show 1+(decB (s.size:Int)).size+2+s.size<=9223372036854775807 by omega),yF (show 1+(decB (s.size:Int)).size+2+s.size+2<=9223372036854775807 by omega),cT]
 rfl
theorem q4V (s:BA) (h:s.size<=1000000000):(zI s).size<=s.size+30:=by
 have e1:(q0f:BA).size=1:=rfl
 have e2:(qA:BA).size=2:=rfl
 have:=q0F (s.size:Int) (by omega) (by omega)
 unfold zI
 simp only [ByteArray.size_append,e1,e2]
 omega
end Go.Den.S
