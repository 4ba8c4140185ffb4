/- PxN: equations of the functions of this seat as the executor tells them, or plain facts about them. Conditions: none here. -/
import Derived.Test.YtbgaejnkjmjkhaaGreatDoorPxM
set_option linter.all false
namespace Go.Den.S
open Go Go.Den
def lstN:List BA:=[zH,zK,q2l,q1g,q1I,j5,zm]
theorem qnA:strings_Fields q2E=some (lstN,()):=(wH _).trans (by kernel_rfl)
def bndB (a b n:Int):Int×Int:=
 let lo:=if a < 0 then (if a+n < 0 then 0 else a+n) else a
 let hi:=if b < 0 then (if b+n < n - 1 then b+n else n - 1) else (if b < n - 1 then b else n - 1)
 if 1<=n/\n<=1000 then (if lo > hi then (0,0) else (lo,hi+1)) else (0,0)
theorem qlb (a b n:Int) (h0:0<=n):0<=(bndB a b n).1/\(bndB a b n).1<=(bndB a b n).2/\(bndB a b n).2<=n:=by
 unfold bndB
 have hL:0<=(if a < 0 then (if a+n < 0 then 0 else a+n) else a):=by (repeat' split)<;>omega
 have hH:(if b < 0 then (if b+n < n - 1 then b+n else n - 1) else (if b < n - 1 then b else n - 1))<=n - 1:=by (repeat' split)<;>omega
 generalize (if a < 0 then (if a+n < 0 then 0 else a+n) else a)=lo at hL ⊢
 generalize (if b < 0 then (if b+n < n - 1 then b+n else n - 1) else (if b < n - 1 then b else n - 1))=hi at hH ⊢
 by_cases hr:1<=n/\n<=1000
 ·rw [if_pos hr]
  by_cases h:lo > hi
  ·rw [if_pos h]; exact ⟨Int.le_refl _,Int.le_refl _,h0⟩
  ·rw [if_neg h]
   refine ⟨hL,?_,?_⟩
   ·show lo<=hi+1
    omega
   ·show hi+1<=n
    omega
 ·rw [if_neg hr]; exact ⟨Int.le_refl _,Int.le_refl _,h0⟩
theorem qf3 (a b n:Int) (ha:-1000000000<=a/\a<=1000000000) (hb:-1000000000<=b/\b<=1000000000) (hn:0<=n/\n<=1000000):q76 a b n=some (bndB a b n,()):=by
 rw [qeW,q0D]
 have w1:w64 (a+n)=a+n:=ql (by omega) (by omega)
 have w2:w64 (b+n)=b+n:=ql (by omega) (by omega)
 have w3:w64 (n - 1)=n - 1:=ql (by omega) (by omega)
 have f1:q2m a n=some ((if a < 0 then a+n else a),()):=by
  rw [q5W,w1]
  by_cases h:a < 0
  ·rw [dYT h,if_pos h]; rfl
  ·rw [dYF h,if_neg h]; rfl
 have f2:q2m b n=some ((if b < 0 then b+n else b),()):=by
  rw [q5W,w2]
  by_cases h:b < 0
  ·rw [dYT h,if_pos h]; rfl
  ·rw [dYF h,if_neg h]; rfl
 simp only [oB,f1,f2,w3]
 unfold bndB
 by_cases hr:1<=n/\n<=1000
 ·rw [dYT hr.1,dYT hr.2]
  simp only [Bool.and_self,Bool.not_true,cF,Bool.cond_decide]
  rw [if_pos hr]
  have w4:∀ x:Int,x<=n - 1->-2000000000<=x->w64 (x+1)=x+1:=fun x h1 h2=>ql (by omega) (by omega)
  have hL:(if 0 > (if a < 0 then a+n else a) then 0 else (if a < 0 then a+n else a))=(if a < 0 then (if a+n < 0 then 0 else a+n) else a):=by (repeat' split)<;>omega
  have hH:(if n - 1 < (if b < 0 then b+n else b) then n - 1 else (if b < 0 then b+n else b))=(if b < 0 then (if b+n < n - 1 then b+n else n - 1) else (if b < n - 1 then b else n - 1)):=by (repeat' split)<;>omega
  rw [hL,hH]
  have hHb:(if b < 0 then (if b+n < n - 1 then b+n else n - 1) else (if b < n - 1 then b else n - 1))<=n - 1/\-2000000000<=(if b < 0 then (if b+n < n - 1 then b+n else n - 1) else (if b < n - 1 then b else n - 1)):=by constructor<;>(repeat' split)<;>omega
  rw [w4 _ hHb.1 hHb.2]
  generalize (if a < 0 then (if a+n < 0 then 0 else a+n) else a)=lo
  generalize (if b < 0 then (if b+n < n - 1 then b+n else n - 1) else (if b < n - 1 then b else n - 1))=hi
  by_cases h:lo > hi
  ·rw [if_pos h,if_pos h]
  ·rw [if_neg h,if_neg h]
 ·have:(decide (1<=n)&&decide (n<=1000))=false:=by
   rw [Bool.and_eq_false_iff,decide_eq_false_iff_not,decide_eq_false_iff_not]; omega
  rw [this,if_neg hr]; rfl
theorem qey (a b n:Int) (ha:-1000000000<=a/\a<=1000000000) (hb:-1000000000<=b/\b<=1000000000) (hn:0<=n/\n<=1000000):q9z a b n=some (bndB a b n,()):=by
 rw [qeP,jW]
 have w1:w64 (a+n)=a+n:=ql (by omega) (by omega)
 have w2:w64 (b+n)=b+n:=ql (by omega) (by omega)
 have w3:w64 (n - 1)=n - 1:=ql (by omega) (by omega)
 have w4:w64 (n - 1+1)=n:=by show IntKind.i64.wrap _=_; rw [ql (by omega) (by omega)]; omega
 have w5:w64 (b+n+1)=b+n+1:=ql (by omega) (by omega)
 have w6:w64 (b+1)=b+1:=ql (by omega) (by omega)
 simp only [oB,w1,w2,w3,w4,w5,w6]
 unfold bndB
 by_cases hr:1<=n/\n<=1000
 ·rw [dYT hr.1,dYT hr.2]
  simp only [Bool.and_self,Bool.not_true,cF,Bool.cond_decide]
  rw [if_pos hr]
  by_cases h1:a < 0<;>by_cases h2:b < 0<;>by_cases h3:a+n < 0<;>by_cases h4:b+n < n - 1<;>by_cases h5:b < n - 1<;>simp only [h1,h2,h3,h4,h5,if_true,if_false]
  all_goals
   (repeat' split)<;>first
    | rfl
    | (exfalso; omega)
    | (simp only [Option.some.injEq,Prod.mk.injEq,and_true,true_and]; omega)
 ·have:(decide (1<=n)&&decide (n<=1000))=false:=by
   rw [Bool.and_eq_false_iff,decide_eq_false_iff_not,decide_eq_false_iff_not]; omega
  rw [this,if_neg hr]; rfl
end Go.Den.S
