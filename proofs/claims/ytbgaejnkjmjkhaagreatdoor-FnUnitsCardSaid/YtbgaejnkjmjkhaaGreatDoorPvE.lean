/- PvE: equations of the functions of this seat as the executor tells them, or plain facts about them. Conditions: none here. -/
import Derived.Test.YtbgaejnkjmjkhaaGreatDoorPvA
import Derived.Test.YtbgaejnkjmjkhaaGreatDoorPzE
import Derived.Test.YtbgaejnkjmjkhaaGreatDoorPwA
set_option linter.all false
namespace Go.Den.S
open Go Go.Den
theorem q9d {l:List BA} {i:Nat} (h:i < l.length):l.take (i+1)=l.take i++[gi l i]:=by
  rw [List.take_add_one,List.getElem?_eq_getElem h]
  simp only [gi,List.getD_eq_getElem?_getD,List.getElem?_eq_getElem h,Option.toList,Option.getD]
def qkR:List BA:=[eB,c_1,q9D,c_x,c_yy,qfl,c_12,qjS]
theorem qk9:(qkR.all fun s=>decide (s.size<=60))=true:=by decide +kernel
theorem qbL {c:Cur} (h:Cu c):∃ (w:BA) (c':Cur),yI c=some (w,(c',()))/\w.size<=60/\Cu c':=by
  obtain ⟨w,c1,e,hm,k⟩:=q9X h qkR (by decide) (by decide)
  have e:wD c [eB,c_1,q9D,c_x,c_yy,qfl,c_12,qjS]=some (w,(c1,())):=e
  rw [qdL,e]
  exact ⟨w,c1,rfl,of_decide_eq_true (List.all_eq_true.1 qk9 w hm),k⟩
def fghi:List BA:=[c_f,c_g,c_h,c_i]
theorem qlU:((List.range 4).all fun i=>(fghi.take i).all fun s=>blt s (fghi.getD i eB))=true:=by decide +kernel
theorem qfU:(fghi.all fun s=>decide (s.size<=60))=true:=by decide +kernel
theorem qmB {i:Nat} (hi:i < 4) {s:BA} (hs:s∈fghi.take i):blt s (gi fghi i)=true:=
  List.all_eq_true.1 (List.all_eq_true.1 qlU i (List.mem_range.2 hi)) s hs
structure FI (i:Nat) (P:List PF):Prop where
  asc:AscF P
  nam:∀ p∈P,p.1∈fghi.take i
  val:∀ p∈P,p.2.size<=60
  len:P.length<=i
  pos:1<=i->1<=P.length
theorem FI.add {i:Nat} {P:List PF} (h:FI i P) (hi:i < 4) {w:BA} (hw:w.size<=60):FI (i+1) (P++[(gi fghi i,w)]):=by
  refine ⟨?_,fun p hp=>?_,fun p hp=>?_,by have:=h.len; simp; omega,fun _=>by simp⟩
  · unfold AscF
    refine List.pairwise_append.2 ⟨h.asc,List.pairwise_singleton _ _,fun a ha b hb=>?_⟩
    rw [List.mem_singleton] at hb; subst hb
    exact qmB hi (h.nam a ha)
  · rw [q9d (show i < fghi.length from hi)]
    rcases List.mem_append.1 hp with hp | hp
    · exact List.mem_append.2 (.inl (h.nam p hp))
    · rw [List.mem_singleton] at hp; subst hp
      exact List.mem_append.2 (.inr (List.mem_singleton_self _))
  · rcases List.mem_append.1 hp with hp | hp
    · exact h.val p hp
    · rw [List.mem_singleton] at hp; subst hp; exact hw
theorem FI.skip {i:Nat} {P:List PF} (h:FI i P) (hi:i < 4) (h1:1<=i):FI (i+1) P:=by
  refine ⟨h.asc,fun p hp=>?_,h.val,by have:=h.len; omega,fun _=>h.pos h1⟩
  rw [q9d (show i < fghi.length from hi)]
  exact List.mem_append.2 (.inl (h.nam p hp))
theorem beqI (a b:Int):(a==b)=decide (a=b):=by by_cases h:a=b<;>simp [h]
theorem FI.nil:FI 0 []:=⟨List.Pairwise.nil,fun p h=>(by cases h),fun p h=>(by cases h),(by simp),fun h=>(by omega)⟩
theorem qew (u:Int):∀ (m i:Nat) (P:List PF) (c:Cur),m+i=4->Cu c->FI i P->
    ∃ (P':List PF) (c':Cur),zw fghi (i:Int) c.1 c.2.1 c.2.2 0 0 eB [] 3 u eB (qx P)=some ((3,(u,(eB,qx P'))),(c',()))/\FI 4 P'/\Cu c'
  | 0,i,P,c,hm,hc,h=>by
    have ei:i=4:=by omega
    subst ei
    rw [q3i]
    simp only [show (fghi.length:Int)=4 from rfl,dYF (show ¬ ((4:Nat):Int) < 4 by omega),cF]
    exact ⟨P,c,rfl,h,hc⟩
  | m+1,i,P,c,hm,hc,h=>by
    have hfl:=wI P
    have hpl:=h.len
    have l1:lim ((qx P).length+1) 16=true:=qI (by omega)
    have l2:∀ x:BA,lim ((qx P++[x]).length+1) 16=true:=fun x=>qI (by rw [List.length_append,List.length_singleton]; omega)
    have add:∀ (c0 c1:Cur),c0=c1->Cu c1->∃ (P':List PF) (c':Cur),((yI c0).bind fun r15=>zw fghi ((i+1:Nat):Int) r15.2.1.1 r15.2.1.2.1 r15.2.1.2.2 0 0 eB [] 3 u eB ((qx P++[gi fghi i])++[r15.1]))=some ((3,(u,(eB,qx P'))),(c',()))/\FI 4 P'/\Cu c':=fun c0 c1 e0 k1=>by
      subst e0
      obtain ⟨w,c2,e,hw,k2⟩:=qbL k1
      have:=qew u m (i+1) (P++[(gi fghi i,w)]) c2 (by omega) k2 (h.add (by omega) hw)
      rw [q33,show qx [(gi fghi i,w)]=[gi fghi i]++[w] from rfl,<- List.append_assoc] at this
      simp only [e,oB]
      exact this
    rw [q3i]
    simp only [show (fghi.length:Int)=4 from rfl,dYT (show (i:Int) < 4 by omega),dYT (show (0:Int)<=(i:Int) by omega),Bool.and_self,cT,Int.toNat_natCast,show ((3:Int)==3)=true from rfl,l1,l2,show w64 ((i:Int)+1)=((i+1:Nat):Int) from qz (by omega)]
    by_cases h0:i=0
    · have : ((i : Int) == 0) = true := by subst h0; rfl
      simp only [this,cT]
      exact add _ c rfl hc
    · have : ((i : Int) == 0) = false := by rw [beqI, dYF (by omega)]
      obtain ⟨b,c1,e1,k1⟩:=q58 hc 2 (by omega) (by omega)
      have e1:yE (c.1,(c.2.1,c.2.2)) 2=some (b,(c1,())):=e1
      simp only [this,cF,e1,oB]
      cases b with
      | true=>
        simp only [cT]
        exact add c1 c1 rfl k1
      | false=>
        simp only [cF]
        exact qew u m (i+1) P c1 (by omega) k1 (h.skip (by omega) (by omega))
theorem qez (u:Int):∀ (m i:Nat) (P:List PF) (c:Cur),m+i=4->Cu c->FI i P->
    ∃ (P':List PF) (c':Cur),zw fghi (i:Int) c.1 c.2.1 c.2.2 0 0 eB [] 4 u eB (q0M P)=some ((4,(u,(eB,q0M P'))),(c',()))/\FI 4 P'/\Cu c'
  | 0,i,P,c,hm,hc,h=>by
    have ei:i=4:=by omega
    subst ei
    rw [q3i]
    simp only [show (fghi.length:Int)=4 from rfl,dYF (show ¬ ((4:Nat):Int) < 4 by omega),cF]
    exact ⟨P,c,rfl,h,hc⟩
  | m+1,i,P,c,hm,hc,h=>by
    have hpl:=h.len
    have hkl:(q0M P).length=P.length:=List.length_map ..
    have l1:lim ((q0M P).length+1) 16=true:=qI (by omega)
    have add:∀ c1:Cur,Cu c1->∃ (P':List PF) (c':Cur),(zw fghi ((i+1:Nat):Int) c1.1 c1.2.1 c1.2.2 0 0 eB [] 4 u eB (q0M P++[gi fghi i]))=some ((4,(u,(eB,q0M P'))),(c',()))/\FI 4 P'/\Cu c':=fun c1 k1=>by
      have:=qez u m (i+1) (P++[(gi fghi i,eB)]) c1 (by omega) k1 (h.add (by omega) (by decide))
      rw [show q0M (P++[(gi fghi i,eB)])=q0M P++[gi fghi i] from List.map_append ..] at this
      exact this
    rw [q3i]
    simp only [show (fghi.length:Int)=4 from rfl,dYT (show (i:Int) < 4 by omega),dYT (show (0:Int)<=(i:Int) by omega),Bool.and_self,cT,Int.toNat_natCast,show ((4:Int)==3)=false from rfl,cF,l1,show w64 ((i:Int)+1)=((i+1:Nat):Int) from qz (by omega)]
    by_cases h0:i=0
    · have : ((i : Int) == 0) = true := by subst h0; rfl
      simp only [this,cT]
      exact add c hc
    · have : ((i : Int) == 0) = false := by rw [beqI, dYF (by omega)]
      obtain ⟨b,c1,e1,k1⟩:=q58 hc 2 (by omega) (by omega)
      have e1:yE (c.1,(c.2.1,c.2.2)) 2=some (b,(c1,())):=e1
      simp only [this,cF,e1,oB]
      cases b with
      | true=>
        simp only [cT]
        exact add c1 k1
      | false=>
        simp only [cF]
        exact qez u m (i+1) P c1 (by omega) k1 (h.skip (by omega) (by omega))
theorem qgO (u:Int):∀ (m i:Nat) (l:List BA) (c:Cur),m+i=4->Cu c->l.length=i->(∀ s∈l,s.size<=60)->
    ∃ (l':List BA) (c':Cur),q26 (i:Int) c.1 c.2.1 c.2.2 0 0 eB [] 2 u eB l=some ((2,(u,(eB,l'))),(c',()))/\1<=l'.length/\l'.length<=4/\(∀ s∈l',s.size<=60)/\Cu c'
  | m,i,l,c,hm,hc,hl,hs=>by
    obtain ⟨x,c1,e1,a1,b1,k1⟩:=zS hc 4 (by omega) (by omega)
    have e1:qh (c.1,(c.2.1,c.2.2)) 4=some (x,(c1,())):=e1
    have w1:w64 (1+x)=1+x:=ql (by omega) (by omega)
    rw [qbZ]
    simp only [e1,oB,w1]
    by_cases hi:(i:Int) < 1+x
    · match m, hm with
      | 0,hm=>omega
      | m+1,hm=>
        obtain ⟨w,c2,e2,hw,k2⟩:=qbL k1
        simp only [dYT hi,cT,e2,oB,qI (show (l.length+1) * 16<=140737488355328 by omega),show w64 ((i:Int)+1)=((i+1:Nat):Int) from qz (by omega)]
        exact qgO u m (i+1) (l++[w]) c2 (by omega) k2 (by simp [hl]) (fun s hs'=>by
          rcases List.mem_append.1 hs' with hs' | hs'
          · exact hs s hs'
          · rw [List.mem_singleton] at hs'; subst hs'; exact hw)
    · simp only [dYF hi, cF]
      exact ⟨l,c1,rfl,by omega,by omega,hs,k1⟩
theorem qhG {c:Cur} (hc:Cu c) (kd u:Int) (hk:1<=kd/\kd<=4) (hu:0<=u/\u<=40):∃ (v:DV) (c':Cur),
    (bif (kd==1) then (yI c).bind fun r6=>some ((kd,(u,(r6.1,[]))),(r6.2.1,()))
     else bif (kd==2) then q26 0 c.1 c.2.1 c.2.2 0 0 eB [] kd u eB []
      else zw [c_f,c_g,c_h,c_i] 0 c.1 c.2.1 c.2.2 0 0 eB [] kd u eB []:Option (DV×(Cur×Unit)))=some (v,(c',()))/\valB v=true/\v.1=kd/\v.2.1=u/\Cu c':=by
  have hu':0<=u/\u<=100000:=by omega
  have hf:∀ {P:List PF},FI 4 P->∀ s∈qx P,s.size<=60:=fun h s hs=>by
    obtain ⟨p,hp,rfl | rfl⟩:=q8Y hs
    · exact of_decide_eq_true (List.all_eq_true.1 qfU _ (List.mem_of_mem_take (h.nam p hp)))
    · exact h.val p hp
  have h4:kd=1\/kd=2\/kd=3\/kd=4:=by omega
  rcases h4 with rfl | rfl | rfl | rfl
  · obtain ⟨w, c1, e, hw, k⟩ := qbL hc
    refine ⟨(1,(u,(w,[]))),c1,?_,qln hu' hw,rfl,rfl,k⟩
    simp only [show ((1:Int)==1)=true from rfl,cT,e,oB]
  · obtain ⟨l, c1, e, h1, h2, h3, k⟩ := qgO u 4 0 [] c rfl hc rfl (fun s h => by cases h)
    refine ⟨(2,(u,(eB,l))),c1,?_,qll hu' h1 (by omega) h3,rfl,rfl,k⟩
    simp only [show ((2:Int)==1)=false from rfl,show ((2:Int)==2)=true from rfl,cT,cF]
    exact e
  · obtain ⟨P, c1, e, h, k⟩ := qew u 4 0 [] c rfl hc FI.nil
    refine ⟨(3,(u,(eB,qx P))),c1,?_,qlI hu' (h.pos (by omega)) (by have:=h.len; omega) h.asc (hf h),rfl,rfl,k⟩
    simp only [show ((3:Int)==1)=false from rfl,show ((3:Int)==2)=false from rfl,cF]
    exact e
  · obtain ⟨P, c1, e, h, k⟩ := qez u 4 0 [] c rfl hc FI.nil
    have hkl:(q0M P).length=P.length:=List.length_map ..
    have hp:=h.pos (by omega)
    have hpl:=h.len
    refine ⟨(4,(u,(eB,q0M P))),c1,?_,qma hu' (by omega) (by omega) ?_ (fun s hs=>?_),rfl,rfl,k⟩
    · simp only [show ((4 : Int) == 1) = false from rfl, show ((4 : Int) == 2) = false from rfl, cF]
      exact e
    · exact List.pairwise_map.2 h.asc
    · obtain ⟨p, hp, rfl⟩ := List.mem_map.1 hs
      exact of_decide_eq_true (List.all_eq_true.1 qfU _ (List.mem_of_mem_take (h.nam p hp)))
theorem qe3 {c:Cur} (hc:Cu c):∃ (v:DV) (c':Cur),q39 c=some (v,(c',()))/\valB v=true/\1<=v.1/\v.1<=4/\0<=v.2.1/\v.2.1<=40/\Cu c':=by
  obtain ⟨x,c1,e1,a1,b1,k1⟩:=zS hc 4 (by omega) (by omega)
  obtain ⟨b,c2,e2,k2⟩:=q58 k1 4 (by omega) (by omega)
  have w1:w64 (1+x)=1+x:=ql (by omega) (by omega)
  rw [qeM]
  simp only [e1,e2,oB,w1]
  cases b with
  | true=>
    obtain ⟨y,c3,e3,a3,b3,k3⟩:=zS k2 40 (by omega) (by omega)
    have w3:w64 (1+y)=1+y:=ql (by omega) (by omega)
    obtain ⟨v,c',f1,f2,f3,f4,f5⟩:=qhG k3 (1+x) (1+y) (by omega) (by omega)
    simp only [cT,e3,oB,w3]
    exact ⟨v,c',f1,f2,by omega,by omega,by omega,by omega,f5⟩
  | false=>
    obtain ⟨v,c',f1,f2,f3,f4,f5⟩:=qhG k2 (1+x) 0 (by omega) (by omega)
    simp only [cF]
    exact ⟨v,c',f1,f2,by omega,by omega,by omega,by omega,f5⟩
theorem qng {t:List DE} (h:t.length<=20) (ha:Asc t) (hk:∀ e∈t,1<=e.1.size/\e.1.size<=20/\valB e.2=true):tabB t=true:=by
  unfold tabB
  rw [dYT h,Bool.true_and,List.all_eq_true]
  intro i hi
  have hi:=List.mem_range.1 hi
  unfold enB
  have e:ge t i=t[i]:=wS hi
  obtain ⟨k1,k2,k3⟩:=hk (ge t i) (by rw [e]; exact List.getElem_mem hi)
  rw [dYT k1,dYT k2,k3]
  by_cases h0:0 < i
  · have : blt (ge t (i - 1)).1 (ge t i).1 = true := by
      rw [e,show ge t (i - 1)=t[i - 1]'(by omega) from wS (by omega)]
      unfold Asc at ha
      rw [List.pairwise_iff_getElem] at ha
      exact ha (i - 1) i (by omega) hi (by omega)
    rw [this]; simp
  · rw [dYF h0]; rfl
structure TI (ks:List BA) (i:Nat) (t:List DE):Prop where
  asc:Asc t
  nam:∀ e∈t,e.1∈ks.take i
  val:∀ e∈t,valB e.2=true/\1<=e.2.1/\e.2.1<=4/\0<=e.2.2.1/\e.2.2.1<=40
  len:t.length<=i
theorem TI.add {ks:List BA} {i:Nat} {t:List DE} (h:TI ks i t) (hi:i < ks.length) (hlt:∀ s∈ks.take i,blt s (gi ks i)=true) {v:DV} (hv:valB v=true/\1<=v.1/\v.1<=4/\0<=v.2.1/\v.2.1<=40):TI ks (i+1) (t++[(gi ks i,v)]):=by
  refine ⟨?_,fun p hp=>?_,fun p hp=>?_,by have:=h.len; simp; omega⟩
  · unfold Asc
    refine List.pairwise_append.2 ⟨h.asc,List.pairwise_singleton _ _,fun a ha b hb=>?_⟩
    rw [List.mem_singleton] at hb; subst hb
    exact hlt _ (h.nam a ha)
  · rw [q9d hi]
    rcases List.mem_append.1 hp with hp | hp
    · exact List.mem_append.2 (.inl (h.nam p hp))
    · rw [List.mem_singleton] at hp; subst hp
      exact List.mem_append.2 (.inr (List.mem_singleton_self _))
  · rcases List.mem_append.1 hp with hp | hp
    · exact h.val p hp
    · rw [List.mem_singleton] at hp; subst hp; exact hv
theorem TI.skip {ks:List BA} {i:Nat} {t:List DE} (h:TI ks i t) (hi:i < ks.length):TI ks (i+1) t:=by
  refine ⟨h.asc,fun p hp=>?_,h.val,by have:=h.len; omega⟩
  rw [q9d hi]
  exact List.mem_append.2 (.inl (h.nam p hp))
theorem TI.nil (ks:List BA):TI ks 0 []:=⟨List.Pairwise.nil,fun p h=>(by cases h),fun p h=>(by cases h),(by simp)⟩
structure Dt (t:List DE):Prop where
  tab:tabB t=true
  val:∀ e∈t,valB e.2=true/\1<=e.2.1/\e.2.1<=4/\0<=e.2.2.1/\e.2.2.1<=40
def q7b:List BA:=[c_a,c_b,c_c,c_d,qgu,c_kk]
theorem qkq:((List.range 6).all fun i=>(q7b.take i).all fun s=>blt s (q7b.getD i eB))=true:=by decide +kernel
theorem qet:(q7b.all fun s=>decide (1<=s.size)&&decide (s.size<=20))=true:=by decide +kernel
def kks:List BA:=(List.range 20).map fun j=>c_k++mkB [UInt8.ofNat (48+(10+j) / 10),UInt8.ofNat (48+(10+j) % 10)]
theorem qm9:((List.range 20).all fun i=>(kks.take i).all fun s=>blt s (kks.getD i eB))=true:=by decide +kernel
theorem qlK:(kks.all fun s=>decide (1<=s.size)&&decide (s.size<=20))=true:=by decide +kernel
theorem qmD (n:Nat) (h1:10<=n) (h2:n < 100):decB (n:Int)=mkB [UInt8.ofNat (48+n / 10),UInt8.ofNat (48+n % 10)]:=by
  rw [q5C,Lib.decDigits,dif_neg (by omega),Lib.decDigits,dif_pos (by omega)]
  rfl
theorem qne {j:Nat} (h:j < 20):c_k++decB ((10+j:Nat):Int)=gi kks j:=by
  rw [qmD (10+j) (by omega) (by omega)]
  simp only [gi,List.getD_eq_getElem?_getD,kks]
  rw [List.getElem?_map,List.getElem?_range h]
  rfl
theorem TI.dt {ks:List BA} {i:Nat} {t:List DE} (h:TI ks i t) (hi:i<=20) (hs:(ks.all fun s=>decide (1<=s.size)&&decide (s.size<=20))=true):Dt t:=by
  refine ⟨qng (by have:=h.len; omega) h.asc fun e he=>?_,h.val⟩
  have:=List.all_eq_true.1 hs _ (List.mem_of_mem_take (h.nam e he))
  simp only [Bool.and_eq_true,decide_eq_true_eq] at this
  exact ⟨this.1,this.2,(h.val e he).1⟩
theorem qhl:∀ (m i:Nat) (t:List DE) (c:Cur),m+i=20->Cu c->TI kks i t->∃ (t':List DE) (c':Cur),q3V t (i:Int) c.1 c.2.1 c.2.2=some (t',(c',()))/\Dt t'/\Cu c'
  | m,i,t,c,hm,hc,h=>by
    obtain ⟨x,c1,e1,a1,b1,k1⟩:=zS hc 2 (by omega) (by omega)
    have e1:qh (c.1,(c.2.1,c.2.2)) 2=some (x,(c1,())):=e1
    have w1:w64 (20 - x)=20 - x:=ql (by omega) (by omega)
    have hlen:=h.len
    rw [qaI]
    simp only [e1,oB,w1]
    by_cases hi:(i:Int) < 20 - x
    · match m, hm with
      | 0,hm=>omega
      | m+1,hm=>
        obtain ⟨v,c2,e2,hv,v1,v2,v3,v4,k2⟩:=qe3 k1
        have w2:w64 (10+(i:Int))=((10+i:Nat):Int):=by rw [show w64 (10+(i:Int))=10+(i:Int) from ql (by omega) (by omega)]; omega
        have hd:=q0F ((10+i:Nat):Int) (by omega) (by omega)
        have hck:(c_k:BA).size=1:=rfl
        have hls:limS ((c_k:BA).size+(decB ((10+i:Nat):Int)).size)=true:=yF (by omega)
        have ih:=qhl m (i+1) (t++[(gi kks i,v)]) c2 (by omega) k2 (h.add (show i < 20 by omega) (fun s hs=>List.all_eq_true.1 (List.all_eq_true.1 qm9 i (List.mem_range.2 (by omega))) s hs) ⟨hv,v1,v2,v3,v4⟩)
        simp only [dYT hi,cT,w2,jH ((10+i:Nat):Int) (by omega) (by omega),oB,hls,e2,qI (show (t.length+1) * 72<=140737488355328 by omega),show w64 ((i:Int)+1)=((i+1:Nat):Int) from qz (by omega),qne (show i < 20 by omega)]
        exact ih
    · simp only [dYF hi, cF]
      exact ⟨t,c1,rfl,h.dt (by omega) qlK,k1⟩
theorem qcM:∀ (m i:Nat) (t:List DE) (c:Cur),m+i=6->Cu c->TI q7b i t->∃ (t':List DE) (c':Cur),q2h t q7b (i:Int) c.1 c.2.1 c.2.2=some (t',(c',()))/\Dt t'/\Cu c'
  | 0,i,t,c,hm,hc,h=>by
    obtain ⟨b,c1,e1,k1⟩:=q58 hc 20 (by omega) (by omega)
    have e1:yE (c.1,(c.2.1,c.2.2)) 20=some (b,(c1,())):=e1
    rw [q6O]
    simp only [show (q7b.length:Int)=6 from rfl,dYF (show ¬ (i:Int) < 6 by omega),cF,e1,oB]
    cases b with
    | true=>
      simp only [cT]
      exact qhl 20 0 [] c1 rfl k1 (TI.nil kks)
    | false=>
      simp only [cF]
      exact ⟨t,c1,rfl,h.dt (by omega) qet,k1⟩
  | m+1,i,t,c,hm,hc,h=>by
    obtain ⟨b,c1,e1,k1⟩:=q58 hc 3 (by omega) (by omega)
    have e1:yE (c.1,(c.2.1,c.2.2)) 3=some (b,(c1,())):=e1
    have hlen:=h.len
    rw [q6O]
    simp only [show (q7b.length:Int)=6 from rfl,dYT (show (i:Int) < 6 by omega),cT,e1,oB,dYT (show (0:Int)<=(i:Int) by omega),Bool.and_self,Int.toNat_natCast,show w64 ((i:Int)+1)=((i+1:Nat):Int) from qz (by omega)]
    cases b with
    | true=>
      simp only [Bool.not_true,cF]
      exact qcM m (i+1) t c1 (by omega) k1 (h.skip (show i < 6 by omega))
    | false=>
      obtain ⟨v,c2,e2,hv,v1,v2,v3,v4,k2⟩:=qe3 k1
      have ih:=qcM m (i+1) (t++[(gi q7b i,v)]) c2 (by omega) k2 (h.add (show i < 6 by omega) (fun s hs=>List.all_eq_true.1 (List.all_eq_true.1 qkq i (List.mem_range.2 (by omega))) s hs) ⟨hv,v1,v2,v3,v4⟩)
      simp only [Bool.not_false,cT,e2,oB,qI (show (t.length+1) * 72<=140737488355328 by omega)]
      exact ih
theorem qcu {c:Cur} (hc:Cu c):∃ (t:List DE) (c':Cur),q4h c=some (t,(c',()))/\Dt t/\Cu c':=by
  rw [qd4]
  exact qcM 6 0 [] c rfl hc (TI.nil q7b)
end Go.Den.S
