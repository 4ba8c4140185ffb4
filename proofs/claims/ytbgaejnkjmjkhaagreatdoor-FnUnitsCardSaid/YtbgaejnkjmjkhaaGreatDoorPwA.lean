/- PwA: equations of the functions of this seat as the executor tells them, or plain facts about them. Conditions: none here. -/
import Derived.Test.YtbgaejnkjmjkhaaGreatDoorPzC
set_option linter.all false
namespace Go.Den.S
open Go Go.Den
theorem qgM (st:Nat) (l:List BA) (hs:∀ s∈l,s.size<=60) (h:∀ i,i < l.length->0 < st->i % st=0->st<=i->blt (gi l (i - st)) (gi l i)=true):itsB st l=true:=by
 unfold itsB
 rw [List.all_eq_true]
 intro i hi
 have hi:=List.mem_range.1 hi
 unfold itB
 rw [Bool.and_eq_true]
 refine ⟨dYT (hs _ (yj hi)),?_⟩
 by_cases h1:0 < st/\i % st=0/\st<=i
 ·rw [h i hi h1.1 h1.2.1 h1.2.2,Bool.or_true]
 ·rw [Bool.or_eq_true,Bool.not_eq_true']
  left
  by_cases a:0 < st
  ·by_cases b:i % st=0
   ·by_cases c:st<=i
    ·exact absurd ⟨a,b,c⟩ h1
    ·rw [dYF c,Bool.and_false]
   ·rw [dYF b,Bool.and_false,Bool.false_and]
  ·rw [dYF a]; rfl
theorem qmv {l:List BA} (h:AscS l) {i j:Nat} (hij:i < j) (hj:j < l.length):blt (gi l i) (gi l j)=true:=by
 unfold AscS at h
 rw [List.pairwise_iff_getElem] at h
 rw [show gi l i=l[i] from wS (by omega),show gi l j=l[j] from wS hj]
 exact h i j (by omega) hj hij
theorem qma {u:Int} (hu:0<=u/\u<=100000) {l:List BA} (h1:1<=l.length) (h2:l.length<=24) (ha:AscS l) (hs:∀ s∈l,s.size<=60):valB (4,(u,(eB,l)))=true:=by
 have hi:=qgM 1 l hs fun i hi _ _ h=>qmv ha (by omega) hi
 unfold valB
 simp only [dYT hu.1,dYT hu.2,dYT h1,dYT h2,show stB 4=1 from rfl,hi]
 rfl
theorem qll {u:Int} (hu:0<=u/\u<=100000) {l:List BA} (h1:1<=l.length) (h2:l.length<=24) (hs:∀ s∈l,s.size<=60):valB (2,(u,(eB,l)))=true:=by
 have hi:=qgM 0 l hs fun i hi h=>absurd h (by omega)
 unfold valB
 simp only [dYT hu.1,dYT hu.2,dYT h1,dYT h2,show stB 2=0 from rfl,hi]
 rfl
theorem qln {u:Int} (hu:0<=u/\u<=100000) {x:BA} (h:x.size<=60):valB (1,(u,(x,[])))=true:=by
 unfold valB
 simp only [dYT hu.1,dYT hu.2,dYT h]
 rfl
theorem qlI {u:Int} (hu:0<=u/\u<=100000) {P:List PF} (h1:1<=P.length) (h2:P.length<=12) (ha:AscF P) (hs:∀ s∈qx P,s.size<=60):valB (3,(u,(eB,qx P)))=true:=by
 have hl:=wI P
 have hi:=qgM 2 (qx P) hs fun i hi _ hm h=>by
  have e1:gi (qx P) i=(P[i / 2]'(by omega)).1:=by
   have:=(q20 P (i / 2) (by omega)).1
   rw [show i / 2 * 2=i by omega] at this
   exact this
  have e2:gi (qx P) (i - 2)=(P[i / 2 - 1]'(by omega)).1:=by
   have:=(q20 P (i / 2 - 1) (by omega)).1
   rw [show (i / 2 - 1) * 2=i - 2 by omega] at this
   exact this
  rw [e1,e2]
  unfold AscF at ha
  rw [List.pairwise_iff_getElem] at ha
  exact ha (i / 2 - 1) (i / 2) (by omega) (by omega) (by omega)
 unfold valB
 simp only [dYT hu.1,dYT hu.2,hl,dYT (show 1<=P.length * 2 by omega),dYT (show P.length * 2<=24 by omega),dYT (show P.length * 2 % 2=0 by omega),show stB 3=2 from rfl,hi]
 rfl
section
variable {k:BA} (hk:1<=k.size/\k.size<=20) {l:List BA} (hl:l=[]\/valB (4,(0,(eB,l)))=true)
include hk hl
end
end Go.Den.S
