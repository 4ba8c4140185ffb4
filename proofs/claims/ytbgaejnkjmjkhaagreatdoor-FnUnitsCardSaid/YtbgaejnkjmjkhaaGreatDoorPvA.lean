/- PvA: equations of the functions of this seat as the executor tells them, or plain facts about them. Conditions: none here. -/
import Derived.Test.YtbgaejnkjmjkhaaGreatDoorPxR
set_option linter.all false
namespace Go.Den.S
open Go Go.Den
abbrev Cur:Type:=List Int×Int×Int
structure Cu (c:Cur):Prop where
 len:c.1.length<=1048576
 at0:0<=c.2.1
 at1:c.2.1<=(c.1.length:Int)
theorem qeo (x:Int):0<=w64 (andI .i64 x 255)/\w64 (andI .i64 x 255)<=255:=by
 have h:andI .i64 x 255=(((BitVec.ofInt 64 x).toNat &&& 255:Nat):Int):=by
  rw [qiM,BitVec.toNat_and]; rfl
 have h2:(BitVec.ofInt 64 x).toNat &&& 255<=255:=Nat.and_le_right
 rw [h,show w64 _=_ from ql (by omega) (by omega)]
 omega
theorem q8h {c:Cur} (h:Cu c):∃ (x:Int) (c':Cur),q1r c=some (x,(c',()))/\0<=x/\x<=255/\Cu c':=by
 have h0:=h.at0
 have h1:=h.at1
 have hl:=h.len
 rw [qeg]
 by_cases hi:c.2.1 < (c.1.length:Int)
 ·simp only [dYT hi,dYT h0,Bool.and_self,cT]
  refine ⟨_,_,rfl,(qeo _).1,(qeo _).2,⟨hl,?_,?_⟩⟩
  ·show 0<=w64 (c.2.1+1)
   rw [show w64 (c.2.1+1)=c.2.1+1 from ql (by omega) (by omega)]; omega
  ·show w64 (c.2.1+1)<=(c.1.length:Int)
   rw [show w64 (c.2.1+1)=c.2.1+1 from ql (by omega) (by omega)]; omega
 ·simp only [dYF hi,cF]
  exact ⟨_,_,rfl,(qeo _).1,(qeo _).2,⟨hl,h0,h1⟩⟩
theorem q9Y {x n:Int} (hx:0<=x) (hn:1<=n):0<=Int.tmod x n/\Int.tmod x n < n:=by
 rw [Int.tmod_eq_emod_of_nonneg hx]
 exact ⟨Int.emod_nonneg _ (by omega),Int.emod_lt_of_pos _ (by omega)⟩
theorem bneZ {n:Int} (h:1<=n):(n != 0)=true:=by rw [bneI,dYF (by omega)]; rfl
theorem zS {c:Cur} (h:Cu c) (n:Int) (h1:1<=n) (h2:n<=1000000):∃ (x:Int) (c':Cur),qh c n=some (x,(c',()))/\0<=x/\x < n/\Cu c':=by
 rw [qcx]
 simp only [dYF (show ¬ n<=0 by omega),cF,bneZ h1,cT]
 by_cases hn:n<=256
 ·obtain ⟨x,c1,e1,a1,b1,k1⟩:=q8h h
  simp only [dYT hn,cT,e1,oB]
  exact ⟨_,_,rfl,(q9Y a1 h1).1,(q9Y a1 h1).2,k1⟩
 ·obtain ⟨x,c1,e1,a1,b1,k1⟩:=q8h h
  obtain ⟨y,c2,e2,a2,b2,k2⟩:=q8h k1
  obtain ⟨z,c3,e3,a3,b3,k3⟩:=q8h k2
  obtain ⟨w,c4,e4,a4,b4,k4⟩:=q8h k3
  simp only [dYF hn,cF,e1,e2,e3,e4,oB]
  have w1:w64 (x * 16777216)=x * 16777216:=ql (by omega) (by omega)
  have w2:w64 (y * 65536)=y * 65536:=ql (by omega) (by omega)
  have w3:w64 (z * 256)=z * 256:=ql (by omega) (by omega)
  have w4:w64 (x * 16777216+y * 65536)=x * 16777216+y * 65536:=ql (by omega) (by omega)
  have w5:w64 (x * 16777216+y * 65536+z * 256)=x * 16777216+y * 65536+z * 256:=ql (by omega) (by omega)
  have w6:w64 (x * 16777216+y * 65536+z * 256+w)=x * 16777216+y * 65536+z * 256+w:=ql (by omega) (by omega)
  rw [w1,w2,w3,w4,w5,w6]
  exact ⟨_,_,rfl,(q9Y (by omega) h1).1,(q9Y (by omega) h1).2,k4⟩
theorem q58 {c:Cur} (h:Cu c) (n:Int) (h1:1<=n) (h2:n<=1000000):∃ (b:Bool) (c':Cur),yE c n=some (b,(c',()))/\Cu c':=by
 obtain ⟨x,c1,e1,_,_,k1⟩:=zS h n h1 h2
 rw [qdm,e1]
 exact ⟨_,_,rfl,k1⟩
theorem q9X {c:Cur} (h:Cu c) (l:List BA) (h1:1<=l.length) (h2:l.length<=1000):∃ (x:BA) (c':Cur),wD c l=some (x,(c',()))/\x∈l/\Cu c':=by
 obtain ⟨x,c1,e1,a1,b1,k1⟩:=zS h (l.length:Int) (by omega) (by omega)
 rw [qdY,e1]
 simp only [oB,dYT a1,dYT b1,Bool.and_self,cT]
 exact ⟨_,_,rfl,yj (by omega),k1⟩
theorem qgT (code:List Int) (hl:code.length<=1048576):∀ (m i:Nat) (x:Int),m+i=code.length->∃ c:Cur,q5a code x (i:Int)=some (c,())/\Cu c/\c.1=code
 | 0,i,x,hm=>by
  rw [q7Q]
  simp only [dYF (show ¬ (i:Int) < (code.length:Int) by omega),cF]
  exact ⟨_,rfl,⟨hl,Int.le_refl _,by show (0:Int)<=(code.length:Int); omega⟩,rfl⟩
 | m+1,i,x,hm=>by
  rw [q7Q]
  simp only [dYT (show (i:Int) < (code.length:Int) by omega),cT]
  by_cases h4:(i:Int) < 4000
  ·simp only [dYT h4,cT,dYT (show (0:Int)<=(i:Int) by omega),Bool.and_self,show w64 ((i:Int)+1)=((i+1:Nat):Int) from qz (by omega)]
   exact qgT code hl m (i+1) _ (by omega)
  ·simp only [dYF h4,cF]
   exact ⟨_,rfl,⟨hl,Int.le_refl _,by show (0:Int)<=(code.length:Int); omega⟩,rfl⟩
theorem qhN (code:List Int) (hl:code.length<=1048576):∃ c:Cur,q5l code=some (c,())/\Cu c:=by
 rw [qeT]
 obtain ⟨c,e,k,_⟩:=qgT code hl code.length 0 (w64 (12701+(code.length:Int))) (by omega)
 exact ⟨c,e,k⟩
theorem qce:∀ (m i:Nat) (p:List Int) (c:Cur),m+i=12->p.length=i->(∀ x∈p,0<=x/\x<=9999)->Cu c->∃ q,q2V p (i:Int) c.1 c.2.1 c.2.2=some (q,())/\q.length=12/\∀ x∈q,0<=x/\x<=9999
 | 0,i,p,c,hm,hp,ha,hc=>by
  rw [q5L]
  simp only [dYF (show ¬ (i:Int) < 12 by omega),cF]
  exact ⟨p,rfl,by omega,ha⟩
 | m+1,i,p,c,hm,hp,ha,hc=>by
  obtain ⟨x,c1,e1,a1,b1,k1⟩:=zS hc 10000 (by omega) (by omega)
  have e1:qh (c.1,(c.2.1,c.2.2)) 10000=some (x,(c1,())):=e1
  rw [q5L]
  simp only [dYT (show (i:Int) < 12 by omega),cT,e1,oB,qI (show (p.length+1) * 8<=140737488355328 by omega),show w64 ((i:Int)+1)=((i+1:Nat):Int) from qz (by omega)]
  exact qce m (i+1) _ c1 (by omega) (by simp [hp]) (fun y hy=>by
   rcases List.mem_append.1 hy with hy | hy
   ·exact ha y hy
   ·rw [List.mem_singleton] at hy; subst hy; omega) k1
theorem qge (code:List Int) (hl:code.length<=1048576):∃ p:List Int,q6f code=some (p,())/\p.length=12/\∀ x∈p,0<=x/\x<=9999:=by
 obtain ⟨c,e,k⟩:=qhN code hl
 obtain ⟨x,c1,e1,_,_,k1⟩:=q8h k
 rw [qaO,e]
 simp only [oB,e1]
 exact qce 12 0 [] c1 rfl rfl (fun x h=>by cases h) k1
theorem qb0 (a b:List BA) (ha:a.length<=1000000000):q29 a b=some (decide (a=b),()):=by
 rw [qbV]
 by_cases hl:a.length=b.length
 ·have e:((a.length:Int) != (b.length:Int))=false:=by simp [hl]
  simp only [e,cF]
  refine qiE (fun i=>q3f a b i) a b eB hl (fun i hi=>?_) ?_
  ·rw [q6t]
   have e:w64 ((i:Int)+1)=(i:Int)+1:=ql (by omega) (by omega)
   have h1:decide ((i:Int) < (a.length:Int))=true:=dYT (by omega)
   have h2:decide ((i:Int) < (b.length:Int))=true:=dYT (by omega)
   have h3:decide (0<=(i:Int))=true:=dYT (by omega)
   simp only [h1,h2,h3,e,Bool.and_self,cT,Int.toNat_natCast,qN]
   by_cases h:a.getD i eB=b.getD i eB<;>simp only [h,decide_true,decide_false,Bool.not_true,Bool.not_false,cT,cF,if_true,if_false]
  ·rw [q6t]
   simp
 ·have e:((a.length:Int) != (b.length:Int))=true:=by simp; omega
  simp only [e,cT]
  have:a≠b:=fun h=>hl (by rw [h])
  simp [this]
theorem qjT (a b:DV) (ha:a.2.2.2.length<=1000000000):q8C a b=some (decide (a=b),()):=by
 rw [qe9,qb0 _ _ ha]
 obtain ⟨a1,a2,a3,a4⟩:=a
 obtain ⟨b1,b2,b3,b4⟩:=b
 simp only [oB,qN,Prod.mk.injEq]
 simp only [wL]
 by_cases h1:a1=b1<;>by_cases h2:a2=b2<;>by_cases h3:a3=b3<;>by_cases h4:a4=b4<;>simp [h1,h2,h3,h4]
theorem qhi (a b:List DE) (ha:a.length<=1000000000) (hi:∀ e∈a,e.2.2.2.2.length<=1000000000):jB a b=some (decide (a=b),()):=by
 rw [qbX]
 by_cases hl:a.length=b.length
 ·have e:((a.length:Int) != (b.length:Int))=false:=by simp [hl]
  simp only [e,cF]
  refine qiE (fun i=>q3g a b i) a b dflt hl (fun i hi'=>?_) ?_
  ·rw [q6m]
   have e:w64 ((i:Int)+1)=(i:Int)+1:=ql (by omega) (by omega)
   have h1:decide ((i:Int) < (a.length:Int))=true:=dYT (by omega)
   have h2:decide ((i:Int) < (b.length:Int))=true:=dYT (by omega)
   have h3:decide (0<=(i:Int))=true:=dYT (by omega)
   have hm:=hi _ (yj (d:=dflt) hi')
   simp only [h1,h2,h3,e,Bool.and_self,cT,Int.toNat_natCast,qN,qjT (a.getD i dflt).2 (b.getD i dflt).2 hm,oB]
   generalize a.getD i dflt=x
   generalize b.getD i dflt=y
   obtain ⟨x1,x2⟩:=x
   obtain ⟨y1,y2⟩:=y
   simp only [Prod.mk.injEq]
   by_cases hx:x1=y1<;>by_cases hy:x2=y2<;>simp [hx,hy]
  ·rw [q6m]
   simp
 ·have e:((a.length:Int) != (b.length:Int))=true:=by simp; omega
  simp only [e,cT]
  have:a≠b:=fun h=>hl (by rw [h])
  simp [this]
theorem wsm {l:List BA} (hl:l.length<=1000) (hs:∀ s∈l,s.size<=100):wB l<=1048576:=by
 have:∀ r:List BA,(∀ s∈r,s.size<=100)->(r.map ByteArray.size).sum<=100 * r.length:=by
  intro r
  induction r with
  | nil=>intro _; simp
  | cons x r ih=>
   intro h
   have h1:=h x (List.mem_cons_self ..)
   have h2:=ih fun s hs=>h s (List.mem_cons_of_mem _ hs)
   simp only [List.map_cons,List.sum_cons,List.length_cons]; omega
 have:=this l hs
 unfold wB wl
 omega
end Go.Den.S
