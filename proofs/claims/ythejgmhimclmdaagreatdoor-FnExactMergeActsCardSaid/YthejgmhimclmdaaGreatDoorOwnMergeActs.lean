/- OwnMergeActs: equations of the functions of this seat as the executor tells them, or plain facts about them. Conditions: none here. -/
import Derived.Test.YthejgmhimclmdaaGreatDoorMidX
set_option linter.all false
namespace Go.Den.S
open Go Go.Den Go.Proofs
noncomputable section
def q6O (a0:qp):Option (Bool×Unit):=DF X 5 ((a0,()):(qp)×Unit)
end
theorem qb8 (a0:qp):q6O a0=((q15 a0 1048576).bind fun r3=>bif (decide (r3.1 < 0)) then some (true,()) else (yG a0).bind fun r4=>(q3b r4.1).bind fun r5=>(yG a0).bind fun r6=>(q1E r6.1).bind fun r7=>(jf r7.1.1 r5.1.1).bind fun r8=>bif (!r8.1) then some (false,()) else bif (!(r7.1.2==r5.1.2)) then some (false,()) else (yG a0).bind fun r9=>(wu r6.1 r9.1).bind fun r10=>bif (!r10.1) then some (false,()) else (zu r6.1 1).bind fun r11=>bif (decide (r11.1 < 0)) then some (false,()) else (jf r7.1.1 r5.1.1).bind fun r12=>bif (!r12.1) then some (false,()) else bif (!(r7.1.2==r5.1.2)) then some (false,()) else (q2i r7.1.1 1).bind fun r13=>(q0y r13.2.1 1).bind fun r14=>bif (decide (r14.1 < 0)) then some (false,()) else bif (r14.1 != r13.1) then some (false,()) else (yG a0).bind fun r15=>(q1E r15.1).bind fun r16=>(jf r16.1.1 r5.1.1).bind fun r17=>bif (!r17.1) then some (false,()) else bif (!(r16.1.2==r5.1.2)) then some (false,()) else (q0y r13.2.1 1).bind fun r18=>bif (decide (r18.1 < 0)) then some (false,()) else bif (r18.1 != r13.1) then some (false,()) else some (true,()):Option (Bool×Unit)):=(qo X rfl _).trans (by kernel_rfl)
end Go.Den.S
namespace Go.Den.S
open Go Go.Den
open Classical
set_option maxRecDepth 4000
theorem qnk (e:Eng) (hw:Wf qP e):q6O e=some (true,()):=by
 rw [qb8,q5F e 1048576 (by omega) (by omega) (qgD hw),oB]
 by_cases hn:szv (wEng e) 1048576 < 0
 ·simp only [dYT hn,cT]
 ·obtain ⟨k5,k6⟩:=q5p hn;obtain ⟨l1,l2⟩:=qkI (e:=e) (n:=1048576) (by omega)
  have l3:=qqq e;simp only [dYF hn,cF];simp only [q5L e (by omega) (by omega),q5x e (by omega),q5w e (by omega),oB,qcN (maO e).1 (maO e).1 (by omega),decide_true,Bool.not_true,Bool.not_false,beq_self_eq_true,bne_self_eq_false,cT,cF,q1u e e (by omega) (by omega),
   q0x e 1 (by omega) (by omega) (by omega) (by omega),dYF (show ¬ (1:Int)+3 * (e.1.length:Int)+4 * (e.2.2.2.2.length:Int) < 0 by omega),
   q8R (maO e).1 1 (by omega) (by omega) (by omega),qd9 (maO e).1.length 1 (by omega) (by omega) (by omega),dYF (show ¬ (1:Int)+4 * ((maO e).1.length:Int) < 0 by omega)]
end Go.Den.S
