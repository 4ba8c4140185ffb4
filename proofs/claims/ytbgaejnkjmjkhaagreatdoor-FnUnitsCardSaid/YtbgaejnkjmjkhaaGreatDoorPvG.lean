/- PvG: equations of the functions of this seat as the executor tells them, or plain facts about them. Conditions: none here. -/
import Derived.Test.YtbgaejnkjmjkhaaGreatDoorPvE
set_option linter.all false
namespace Go.Den.S
open Go Go.Den
def AllS (l:List BA):Prop:=∀ s∈l,s.size<=60
theorem wN:AllS []:=fun s h=>by cases h
theorem yQ {x:BA} {l:List BA} (h:x.size<=60) (k:AllS l):AllS (x::l):=fun s hs=>by
  rcases List.mem_cons.1 hs with rfl | hs
  · exact h
  · exact k s hs
theorem jA {l r:List BA} (h:AllS l) (k:AllS r):AllS (l++r):=fun s hs=>(List.mem_append.1 hs).elim (h s) (k s)
theorem qfP {l:List BA} (h:AllS l) (n:Nat):AllS (l.take n):=fun s hs=>h s (List.mem_of_mem_take hs)
theorem qfF {l:List BA} (h:AllS l) (n:Nat):AllS (l.drop n):=fun s hs=>h s (List.mem_of_mem_drop hs)
theorem qlV {l:List BA} (h:AllS l) (n:Nat) {x:BA} (hx:x.size<=60):AllS (l.set n x):=fun s hs=>(List.mem_or_eq_of_mem_set hs).elim (h s) fun e=>e▸hx
theorem qd2 {l:List BA} (h:AllS l) (n:Nat):(l.getD n eB).size<=60:=by
  by_cases hn:n < l.length
  · exact h _ (yj hn)
  · simp only [List.getD_eq_getElem?_getD]
    rw [List.getElem?_eq_none (by omega)]
    decide
def allB (l:List BA):Bool:=l.all fun s=>decide (s.size<=60)
theorem qja {l:List BA} (h:allB l=true):AllS l:=fun s hs=>of_decide_eq_true (List.all_eq_true.1 h s hs)
theorem qh9:AllS cmds:=qja (by decide +kernel)
def Gd (b:Nat) (o:Option (List BA×(Cur×Unit))):Prop:=∃ (l:List BA) (c:Cur),o=some (l,(c,()))/\l.length<=b/\AllS l/\Cu c
theorem q0b {b:Nat} {l:List BA} {c:Cur} (h1:l.length<=b) (h2:AllS l) (h3:Cu c):Gd b (some (l,(c,()))):=⟨l,c,rfl,h1,h2,h3⟩
theorem q0B {b:Nat} {p:Bool} {o:Option (List BA×(Cur×Unit))} (hp:p=true) (h:Gd b o):Gd b (bif p then o else none):=by rw [hp]; exact h
theorem yM {b:Nat} {p:Bool} {o q:Option (List BA×(Cur×Unit))} (h:Gd b o) (k:Gd b q):Gd b (bif p then o else q):=by cases p<;>assumption
theorem q5H {b:Nat} {c:Cur} {n:Int} {f:Int×(Cur×Unit)->Option (List BA×(Cur×Unit))} (hc:Cu c) (h1:1<=n) (h2:n<=1000000) (h:∀ x c',0<=x->x < n->Cu c'->Gd b (f (x,(c',())))):Gd b ((qh c n).bind f):=by
  obtain ⟨x,c1,e1,a1,b1,k1⟩:=zS hc n h1 h2
  rw [e1]; exact h x c1 a1 b1 k1
theorem q9Q {b:Nat} {c:Cur} {n:Int} {f:Bool×(Cur×Unit)->Option (List BA×(Cur×Unit))} (hc:Cu c) (h1:1<=n) (h2:n<=1000000) (h:∀ x c',Cu c'->Gd b (f (x,(c',())))):Gd b ((yE c n).bind f):=by
  obtain ⟨x,c1,e1,k1⟩:=q58 hc n h1 h2
  rw [e1]; exact h x c1 k1
theorem q9N {b:Nat} {c:Cur} {l:List BA} {f:BA×(Cur×Unit)->Option (List BA×(Cur×Unit))} (hc:Cu c) (h1:1<=l.length) (h2:l.length<=1000) (hl:allB l=true) (h:∀ x c',x.size<=60->Cu c'->Gd b (f (x,(c',())))):Gd b ((wD c l).bind f):=by
  obtain ⟨x,c1,e1,m1,k1⟩:=q9X hc l h1 h2
  rw [e1]; exact h x c1 (qja hl x m1) k1
theorem qdg {b:Nat} {c:Cur} {f:BA×(Cur×Unit)->Option (List BA×(Cur×Unit))} (hc:Cu c) (h:∀ x c',x.size<=60->Cu c'->Gd b (f (x,(c',())))):Gd b ((yI c).bind f):=by
  obtain ⟨x,c1,e1,m1,k1⟩:=qbL hc
  rw [e1]; exact h x c1 m1 k1
theorem qn4 {c:Cur} (h:Cu c):∃ (w:BA) (c':Cur),q0m c=some (w,(c',()))/\w.size<=60/\Cu c':=by
  obtain ⟨w,c1,e,hm,k⟩:=q9X h q7b (by decide) (by decide)
  have e:wD c [c_a,c_b,c_c,c_d,qgu,c_kk]=some (w,(c1,())):=e
  rw [qeU,e]
  have:=List.all_eq_true.1 qet w hm
  simp only [Bool.and_eq_true,decide_eq_true_eq] at this
  exact ⟨w,c1,rfl,by omega,k⟩
theorem qgz {b:Nat} {c:Cur} {f:BA×(Cur×Unit)->Option (List BA×(Cur×Unit))} (hc:Cu c) (h:∀ x c',x.size<=60->Cu c'->Gd b (f (x,(c',())))):Gd b ((q0m c).bind f):=by
  obtain ⟨x,c1,e1,m1,k1⟩:=qn4 hc
  rw [e1]; exact h x c1 m1 k1
theorem qmV {b:Nat} {f:List BA×Unit->Option (List BA×(Cur×Unit))} (h:Gd b (f (cmds,()))):Gd b ((q1a).bind f):=by
  rw [q2w]; exact h
theorem qlY {b:Nat} {n:Int} {f:BA×Unit->Option (List BA×(Cur×Unit))} (h0:-9000000000000000000<=n) (h1:n<=9000000000000000000) (h:(decB n).size<=60->Gd b (f (decB n,()))):Gd b ((zP n).bind f):=by
  rw [jH n h0 h1]
  exact h (by have:=q0F n (by omega) (by omega); omega)
theorem w12 {x:Int} (h0:0<=x) (h1:x < 12):-9000000000000000000<=w64 (x - 4)/\w64 (x - 4)<=9000000000000000000:=by
  rw [show w64 (x - 4)=x - 4 from ql (by omega) (by omega)]; omega
theorem q7E {x:Int} {n:Int} (h0:0<=x) (h1:x < n):(decide (0<=x)&&decide (x < n))=true:=by rw [dYT h0,dYT h1]; rfl
theorem cutg {l:List BA} (h1:1<=l.length) (h2:l.length<=1000000):(decide ((0:Int)<=0)&&(decide (0<=w64 ((l.length:Int) - 1))&&decide (w64 ((l.length:Int) - 1)<=(l.length:Int))))=true:=by
  rw [show w64 ((l.length:Int) - 1)=(l.length:Int) - 1 from ql (by omega) (by omega),dYT (show 0<=(l.length:Int) - 1 by omega),dYT (show (l.length:Int) - 1<=(l.length:Int) by omega)]; rfl
theorem qiS:∀ (m i:Nat) (l:List BA) (c:Cur),m+i=2->l.length<=1+i->AllS l->Cu c->Gd 4 (jJ l (i:Int) c.1 c.2.1 c.2.2)
  | m,i,l,c,hm,hl,hs,hc=>by
    obtain ⟨x,c1,e1,a1,b1,k1⟩:=zS hc 3 (by omega) (by omega)
    have e1:qh (c.1,(c.2.1,c.2.2)) 3=some (x,(c1,())):=e1
    rw [qb8]
    simp only [e1,oB]
    by_cases hi:(i:Int) < x
    · match m, hm with
      | 0,hm=>omega
      | m+1,hm=>
        simp only [dYT hi,cT]
        refine q9N k1 (by decide) (by decide) (by decide +kernel) fun y c2 hy k2=>?_
        refine q0B (qI (by omega)) ?_
        simp only [show w64 ((i:Int)+1)=((i+1:Nat):Int) from qz (by omega)]
        exact qiS m (i+1) (l++[y]) c2 (by omega) (by simp; omega) (jA hs (yQ hy wN)) k2
    · simp only [dYF hi, cF]
      exact q0b (by omega) hs k1
theorem qnf {c:Cur} (hc:Cu c) (a1:BA):Gd 4 (zk c a1):=by
  have loop:∀ (y:BA) (c':Cur),y.size<=60->Cu c'->Gd 4 (jJ [y] 0 c'.1 c'.2.1 c'.2.2):=fun y c' hy hc'=>qiS 2 0 [y] c' rfl (by simp) (yQ hy wN) hc'
  rw [qdC]
  refine q9N hc (by decide) (by decide) (by decide +kernel) fun f c1 hf k1=>?_
  refine q5H k1 (by decide) (by decide) fun x c2 x0 x1 k2=>?_
  refine qlY (w12 x0 x1).1 (w12 x0 x1).2 fun hd=>?_
  dsimp only
  have hW:Gd 4 ((yI c2).bind fun r7=>some ([r7.1],(r7.2.1,()))):=qdg k2 fun y c3 hy k3=>q0b (by simp) (yQ hy wN) k3
  have hN:Gd 4 ((yE c2 12).bind fun r7=>
       bif r7.1
       then (wD r7.2.1 ([c_x,c_01,q1G,q5f,q8s])).bind fun r8=>
        some ([r8.1],(r8.2.1,()))
       else some ([decB (w64 (x - 4))],(r7.2.1,()))):=q9Q k2 (by decide) (by decide) fun y c3 k3=>
    yM (q9N k3 (by decide) (by decide) (by decide +kernel) fun z c4 hz k4=>q0b (by simp) (yQ hz wN) k4) (q0b (by simp) (yQ hd wN) k3)
  have hR:Gd 4 ((qh c2 12).bind fun r7=>
           (zP (w64 (r7.1 - 4))).bind fun r8=>
           some ([decB (w64 (x - 4)),r8.1],(r7.2.1,()))):=q5H k2 (by decide) (by decide) fun y c3 y0 y1 k3=>
    qlY (w12 y0 y1).1 (w12 y0 y1).2 fun hy=>q0b (by simp) (yQ hd (yQ hy wN)) k3
  have hH:Gd 4 ((yI c2).bind fun r7=>some ([f,r7.1],(r7.2.1,()))):=qdg k2 fun y c3 hy k3=>q0b (by simp) (yQ hf (yQ hy wN)) k3
  have hF:Gd 4 (some ([f],(c2,()))):=q0b (by simp) (yQ hf wN) k2
  have hL:=loop f c2 hf k2
  have hE:Gd 4 (some ([],(c2,()))):=q0b (by simp) wN k2
  exact yM hW (yM hW (yM hW (yM hW (yM hN (yM hN (yM hN (yM hN (yM hR (yM hH (yM hF (yM hF (yM hL (yM hL (yM hL (yM hL (yM hL hE))))))))))))))))
theorem qgV {b:Nat} {c:Cur} {a:BA} {f:List BA×(Cur×Unit)->Option (List BA×(Cur×Unit))} (hc:Cu c) (h:∀ x c',x.length<=4->AllS x->Cu c'->Gd b (f (x,(c',())))):Gd b ((zk c a).bind f):=by
  obtain ⟨x,c1,e1,m1,m2,k1⟩:=qnf hc a
  rw [e1]; exact h x c1 m1 m2 k1
theorem qct {l:List BA} {c:Cur} (hc:Cu c) (h1:1<=l.length) (hl:l.length<=8) (hs:AllS l):Gd 9 ((qh c 20).bind fun r8=>
    bif (r8.1==0)
    then bif (lim ((List.length l)+1) 16)
     then some ((l++[c_x]),(r8.2.1,()))
     else none
    else bif (r8.1==1)
     then bif ((decide ((0:Int)<=0))&&((decide (0<=(w64 ((List.length l:Int) - 1))))&&(decide ((w64 ((List.length l:Int) - 1))<=(List.length l:Int)))))
      then some ((List.take ((Int.toNat (w64 ((List.length l:Int) - 1))) - (Int.toNat 0)) (List.drop (Int.toNat 0) l)),(r8.2.1,()))
      else none
     else some (l,(r8.2.1,()))):=by
  refine q5H hc (by decide) (by decide) fun x c1 x0 x1 k1=>?_
  dsimp only
  refine yM (q0B (qI (by omega)) (q0b (by simp; omega) (jA hs (yQ (by decide) wN)) k1)) (yM (q0B (cutg h1 (by omega)) (q0b ?_ (qfP (qfF hs _) _) k1)) (q0b (by omega) hs k1))
  simp only [List.length_take,List.length_drop]; omega
theorem qiF:∀ (m i:Nat) (l:List BA) (c:Cur),m+i=3->l.length<=1+i->1<=l.length->AllS l->Cu c->Gd 9 (yK l (i:Int) c.1 c.2.1 c.2.2)
  | m,i,l,c,hm,hl,hl1,hs,hc=>by
    obtain ⟨x,c1,e1,a1,b1,k1⟩:=zS hc 3 (by omega) (by omega)
    have e1:qh (c.1,(c.2.1,c.2.2)) 3=some (x,(c1,())):=e1
    have w1:w64 (1+x)=1+x:=ql (by omega) (by omega)
    rw [qaX]
    simp only [e1,oB,w1]
    by_cases hi:(i:Int) < 1+x
    · match m, hm with
      | 0,hm=>omega
      | m+1,hm=>
        simp only [dYT hi,cT]
        refine qgz k1 fun y c2 hy k2=>?_
        refine q0B (qI (by omega)) ?_
        simp only [show w64 ((i:Int)+1)=((i+1:Nat):Int) from qz (by omega)]
        exact qiF m (i+1) (l++[y]) c2 (by omega) (by simp; omega) (by simp) (jA hs (yQ hy wN)) k2
    · simp only [dYF hi, cF]
      exact qct k1 hl1 (by omega) hs
theorem qiU:∀ (m i:Nat) (l:List BA) (c:Cur),m+i=3->l.length<=1+2 * i->1<=l.length->AllS l->Cu c->Gd 9 (q0e l (i:Int) c.1 c.2.1 c.2.2)
  | m,i,l,c,hm,hl,hl1,hs,hc=>by
    obtain ⟨x,c1,e1,a1,b1,k1⟩:=zS hc 3 (by omega) (by omega)
    have e1:qh (c.1,(c.2.1,c.2.2)) 3=some (x,(c1,())):=e1
    have w1:w64 (1+x)=1+x:=ql (by omega) (by omega)
    rw [qaU]
    simp only [e1,oB,w1]
    by_cases hi:(i:Int) < 1+x
    · match m, hm with
      | 0,hm=>omega
      | m+1,hm=>
        simp only [dYT hi,cT]
        refine qgz k1 fun y c2 hy k2=>?_
        refine qdg k2 fun z c3 hz k3=>?_
        refine q0B (qI (by omega)) ?_
        simp only [show w64 ((i:Int)+1)=((i+1:Nat):Int) from qz (by omega)]
        exact qiU m (i+1) (l++[y,z]) c3 (by omega) (by simp; omega) (by simp) (jA hs (yQ hy (yQ hz wN))) k3
    · simp only [dYF hi, cF]
      exact qct k1 hl1 (by omega) hs
theorem qby {n : BA} {l : List BA} (hn : n.size <= 60) (hl : l.length = 1) (hs : AllS l) {c : Cur} (hc : Cu c) : Gd 9
    (bif ((ByteArray.toList n)==(ByteArray.toList wV)) then yK l 0 c.1 c.2.1 c.2.2
     else bif ((ByteArray.toList n)==(ByteArray.toList wQ)) then yK l 0 c.1 c.2.1 c.2.2
     else bif ((ByteArray.toList n)==(ByteArray.toList yN)) then yK l 0 c.1 c.2.1 c.2.2
     else bif ((ByteArray.toList n)==(ByteArray.toList yX)) then q0e l 0 c.1 c.2.1 c.2.2
     else (q0m c).bind fun r9 =>
      bif (lim ((1:Nat)+1) 16)
      then (zk r9.2.1 n).bind fun r10 =>
       bif (lim (2+(List.length r10.1)) 16)
       then (qh r10.2.1 20).bind fun r8 =>
          bif (r8.1==0)
          then bif (lim ((List.length ((l++[r9.1])++r10.1))+1) 16)
           then some ((((l++[r9.1])++r10.1)++[c_x]),(r8.2.1,()))
           else none
          else bif (r8.1==1)
           then bif ((decide ((0:Int)<=0))&&((decide (0<=(w64 ((List.length ((l++[r9.1])++r10.1):Int) - 1))))&&(decide ((w64 ((List.length ((l++[r9.1])++r10.1):Int) - 1))<=(List.length ((l++[r9.1])++r10.1):Int)))))
            then some ((List.take ((Int.toNat (w64 ((List.length ((l++[r9.1])++r10.1):Int) - 1))) - (Int.toNat 0)) (List.drop (Int.toNat 0) ((l++[r9.1])++r10.1))),(r8.2.1,()))
            else none
           else some (((l++[r9.1])++r10.1),(r8.2.1,()))
       else none
      else none):=by
  have a1:=qiF 3 0 l c rfl (by omega) (by omega) hs hc
  have a3:=qiU 3 0 l c rfl (by omega) (by omega) hs hc
  refine yM a1 (yM a1 (yM a1 (yM a3 ?_)))
  refine qgz hc fun y c1 hy k1=>?_
  refine q0B (qI (by omega)) ?_
  refine qgV k1 fun r c2 hr hrs k2=>?_
  refine q0B (qI (by dsimp only; omega)) ?_
  exact qct k2 (by simp; omega) (by simp; omega) (jA (jA hs (yQ hy wN)) hrs)
theorem qeh {l:List BA} {n:Nat} (hn:n=l.length) (h1:1<=n) (hl:n<=8) (hs:AllS l) {c:Cur} (hc:Cu c):Gd 9 ((qh c 20).bind fun r9=>
      bif (r9.1==0)
      then bif (lim (n+1) 16)
       then some ((l++[c_x]),(r9.2.1,()))
       else none
      else bif (r9.1==1)
       then some ((List.take ((Int.toNat (w64 (((n:Nat):Int) - 1))) - (Int.toNat 0)) (List.drop (Int.toNat 0) l)),(r9.2.1,()))
       else some (l,(r9.2.1,()))):=by
  refine q5H hc (by decide) (by decide) fun x c1 x0 x1 k1=>?_
  dsimp only
  refine yM (q0B (qI (by omega)) (q0b (by simp; omega) (jA hs (yQ (by decide) wN)) k1)) (yM (q0b ?_ (qfP (qfF hs _) _) k1) (q0b (by omega) hs k1))
  simp only [List.length_take,List.length_drop]; omega
theorem qmU {c:Cur} (hc:Cu c):Gd 9 (q6j c):=by
  have end1:∀ (n x:BA) (c':Cur),n.size<=60->x.size<=60->Cu c'->Gd 9 ((yI c').bind fun r9=>
          bif (lim ((1:Nat)+1) 16)
          then (qh r9.2.1 20).bind fun r10=>
           bif (r10.1==0)
           then bif (lim ((2:Nat)+1) 16)
            then some ((([x]++[r9.1])++[c_x]),(r10.2.1,()))
            else none
           else bif (r10.1==1)
            then some ((List.take ((Int.toNat (w64 (((2:Nat):Int) - 1))) - (Int.toNat 0)) (List.drop (Int.toNat 0) ([x]++[r9.1]))),(r10.2.1,()))
            else some (([x]++[r9.1]),(r10.2.1,()))
          else none):=fun n x c' hn hx hc'=>by
    refine qdg hc' fun y c1 hy k1=>?_
    refine q0B (qI (by omega)) ?_
    exact qeh (l:=[x]++[y]) (n:=2) rfl (by omega) (by omega) (jA (yQ hx wN) (yQ hy wN)) k1
  have one:∀ (n x:BA) (c':Cur),n.size<=60->x.size<=60->Cu c'->Gd 9 ((qh c' 20).bind fun r9=>
      bif (r9.1==0)
      then bif (lim ((1:Nat)+1) 16)
       then some (([x]++[c_x]),(r9.2.1,()))
       else none
      else bif (r9.1==1)
       then some ((List.take ((Int.toNat (w64 (((1:Nat):Int) - 1))) - (Int.toNat 0)) (List.drop (Int.toNat 0) [x])),(r9.2.1,()))
       else some ([x],(r9.2.1,()))):=fun n x c' hn hx hc'=>qeh (l:=[x]) (n:=1) rfl (by omega) (by omega) (yQ hx wN) hc'
  have set1:∀ (y x:BA),List.set [y] (Int.toNat 0) x=[x]:=fun y x=>rfl
  rw [qdJ]
  refine qmV ?_
  refine q5H hc (by decide) (by decide) fun x c1 x0 x1 k1=>?_
  refine q0B (q7E x0 x1) ?_
  have hname:=qd2 qh9 (Int.toNat x)
  refine q9Q k1 (by decide) (by decide) fun b c2 k2=>?_
  refine yM ?_ ?_
  · refine q9N k2 (by decide) (by decide) (by decide +kernel) fun n c3 hn k3 => ?_
    refine q9Q k3 (by decide) (by decide) fun b2 c4 k4=>?_
    refine yM ?_ ?_
    · refine q9N k4 (by decide) (by decide) (by decide +kernel) fun y c5 hy k5 => ?_
      simp only [set1]
      exact yM (one n y c5 hn hy k5) (yM (one n y c5 hn hy k5) (yM (one n y c5 hn hy k5) (yM (one n y c5 hn hy k5) (yM (end1 n y c5 hn hy k5) (qby hn rfl (yQ hy wN) k5)))))
    · exact yM (one n n c4 hn hn k4) (yM (one n n c4 hn hn k4) (yM (one n n c4 hn hn k4) (yM (one n n c4 hn hn k4) (yM (end1 n n c4 hn hn k4) (qby hn rfl (yQ hn wN) k4)))))
  · generalize hN : List.getD cmds (Int.toNat x) eB = n at hname
    dsimp only
    refine q9Q k2 (by decide) (by decide) fun b2 c4 k4=>?_
    refine yM ?_ ?_
    · refine q9N k4 (by decide) (by decide) (by decide +kernel) fun y c5 hy k5 => ?_
      simp only [set1]
      exact yM (one n y c5 hname hy k5) (yM (one n y c5 hname hy k5) (yM (one n y c5 hname hy k5) (yM (one n y c5 hname hy k5) (yM (end1 n y c5 hname hy k5) (qby hname rfl (yQ hy wN) k5)))))
    · exact yM (one n n c4 hname hname k4) (yM (one n n c4 hname hname k4) (yM (one n n c4 hname hname k4) (yM (one n n c4 hname hname k4) (yM (end1 n n c4 hname hname k4) (qby hname rfl (yQ hname wN) k4)))))
theorem qnb {b:Nat} {c:Cur} {f:List BA×(Cur×Unit)->Option (List BA×(Cur×Unit))} (hc:Cu c) (h:∀ x c',x.length<=9->AllS x->Cu c'->Gd b (f (x,(c',())))):Gd b ((q6j c).bind f):=by
  obtain ⟨x,c1,e1,m1,m2,k1⟩:=qmU hc
  rw [e1]; exact h x c1 m1 m2 k1
theorem qmF {b:Nat} {x:BA} {f:BA×Unit->Option (List BA×(Cur×Unit))} (hx:x.size<=60) (h:Gd b (f (upB x,()))):Gd b ((yC x).bind f):=by
  rw [zx x (by omega)]; exact h
theorem G_in {b:Nat} {l:List BA} {x:BA} {f:Bool×Unit->Option (List BA×(Cur×Unit))} (hl:l.length<=1000) (h:∀ y:Bool,Gd b (f (y,()))):Gd b ((zZ l x).bind f):=by
  rw [q3G l x (by omega)]; exact h _
theorem made {n y:BA} (hn:n.size<=60) (hy:y.size<=60) {c:Cur} (hc:Cu c):Gd 9 ((zZ ([zf,zn,yT,yD]) n).bind fun r11=>
      bif (!r11.1)
      then bif (lim ((1:Nat)+1) 16)
       then (zk c n).bind fun r12=>
        bif (lim (2+(List.length r12.1)) 16)
        then bif ((ByteArray.toList n)==(ByteArray.toList yX))
         then bif (lim ((List.length (([n]++[y])++r12.1))+1) 16)
          then some (((([n]++[y])++r12.1)++[c_v]),(r12.2.1,()))
          else none
         else some ((([n]++[y])++r12.1),(r12.2.1,()))
        else none
       else none
      else (zk c n).bind fun r12=>
       bif (lim (1+(List.length r12.1)) 16)
       then bif ((ByteArray.toList n)==(ByteArray.toList yX))
        then bif (lim ((List.length ([n]++r12.1))+1) 16)
         then some ((([n]++r12.1)++[c_v]),(r12.2.1,()))
         else none
        else some (([n]++r12.1),(r12.2.1,()))
       else none):=by
  refine G_in (by decide) fun q=>yM (q0B (qI (by omega)) ?_) ?_
  · refine qgV hc fun r c1 hr hs k1 => ?_
    dsimp only
    have hS:AllS (([n]++[y])++r):=jA (jA (yQ hn wN) (yQ hy wN)) hs
    refine q0B (qI (by omega)) (yM (q0B (qI (by simp; omega)) (q0b (by simp; omega) (jA hS (yQ (by decide) wN)) k1)) (q0b (by simp; omega) hS k1))
  · refine qgV hc fun r c1 hr hs k1 => ?_
    dsimp only
    have hS:AllS ([n]++r):=jA (yQ hn wN) hs
    refine q0B (qI (by omega)) (yM (q0B (qI (by simp; omega)) (q0b (by simp; omega) (jA hS (yQ (by decide) wN)) k1)) (q0b (by simp; omega) hS k1))
theorem qh2 {x1:List BA} {x2:List DE} (h1:AllS x1) (h1l:1<=x1.length) (h1u:x1.length<=1000) (h2:∀ k,(x2.getD k dflt).1.size<=60) (h2u:x2.length<=1000000):∀ (m i:Nat) (c:Cur),m+i=40->Cu c->Gd 9 (q2S x1 x2 (i:Int) c.1 c.2.1 c.2.2)
  | 0,i,c,hm,hc=>by
    have hc':Cu (c.1,(c.2.1,c.2.2)):=hc
    rw [q7A]
    simp only [dYF (show ¬ (i:Int) < 40 by omega),cF]
    refine q5H hc' (by omega) (by omega) fun x c1 x0 x1' k1=>?_
    refine q0B (q7E x0 x1') ?_
    refine qgz k1 fun y c2 hy k2=>?_
    have hn:=qd2 h1 (Int.toNat x)
    by_cases hx:x2.length=0
    · simp only [dYF (show ¬ (x2.length : Int) > 0 by omega), cF]
      exact made hn hy k2
    · simp only [dYT (show (x2.length : Int) > 0 by omega), cT]
      refine q9Q k2 (by decide) (by decide) fun b c3 k3=>yM ?_ (made hn hy k3)
      refine q5H k3 (by omega) (by omega) fun z c4 z0 z1 k4=>q0B (q7E z0 z1) (made hn (h2 _) k4)
  | m+1,i,c,hm,hc=>by
    have hc':Cu (c.1,(c.2.1,c.2.2)):=hc
    have ih:=fun c' hc'=>qh2 h1 h1l h1u h2 h2u m (i+1) c' (by omega) hc'
    rw [q7A]
    simp only [dYT (show (i:Int) < 40 by omega),cT,show w64 ((i:Int)+1)=((i+1:Nat):Int) from qz (by omega)]
    refine qnb hc' fun a c1 ha hs k1=>?_
    by_cases h0:a.length=0
    · have e : (((a.length : Nat) : Int) == 0) = true := by rw [h0]; rfl
      simp only [e,cT]
      exact ih c1 k1
    · have e : (((a.length : Nat) : Int) == 0) = false := by rw [wL]; exact dYF (by omega)
      simp only [e,cF]
      refine q0B (q7E (Int.le_refl 0) (by omega)) ?_
      refine qmF (qd2 hs _) ?_
      refine G_in h1u fun q=>yM (ih c1 k1) ?_
      by_cases h3:a.length > 1
      · simp only [dYT (show ((a.length : Nat) : Int) > 1 by omega), cT]
        by_cases hx:x2.length=0
        · simp only [dYF (show ¬ (x2.length : Int) > 0 by omega), cF]
          exact q0b ha hs k1
        · simp only [dYT (show (x2.length : Int) > 0 by omega), cT]
          refine q9Q k1 (by decide) (by decide) fun b c3 k3=>yM ?_ (q0b ha hs k3)
          refine q5H k3 (by omega) (by omega) fun z c4 z0 z1 k4=>q0B (q7E z0 z1) (q0B rfl (q0b (by simp; omega) (qlV hs _ (h2 _)) k4))
      · simp only [dYF (show ¬ ((a.length : Nat) : Int) > 1 by omega), cF]
        exact q0b ha hs k1
theorem qn0 {c:Cur} (hc:Cu c) {t:List DE} (ht:tabB t=true):Gd 9 (q4R c cmds t):=by
  rw [q9g]
  refine qh2 qh9 (by decide) (by decide) (fun k=>?_) (by have:=q0j ht; omega) 40 0 c rfl hc
  by_cases hk:k < t.length
  · have:=(q8c ht (yj (d:=dflt) hk)).2; omega
  · rw [List.getD_eq_getElem?_getD, List.getElem?_eq_none (by omega)]
    decide
theorem qi4 (code:List Int) (hl:code.length<=1048576):∃ (t:List DE) (now:Int) (args:List BA),q7M code=some ((t,(now,args)),())/\Dt t/\0<=now/\now < 30/\args.length<=9/\AllS args:=by
  obtain ⟨c,e,k⟩:=qhN code hl
  obtain ⟨t,c1,e1,h1,k1⟩:=qcu k
  obtain ⟨now,c2,e2,n0,n1,k2⟩:=zS k1 30 (by decide) (by decide)
  obtain ⟨a,c3,e3,a1,a2,_⟩:=qn0 k2 h1.tab
  rw [qcF,e]
  simp only [oB,e1,e2,q2w,e3]
  exact ⟨t,now,a,rfl,h1,n0,n1,a1,a2⟩
end Go.Den.S
