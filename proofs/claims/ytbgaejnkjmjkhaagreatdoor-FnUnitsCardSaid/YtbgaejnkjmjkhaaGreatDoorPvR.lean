/- PvR: equations of the functions of this seat as the executor tells them, or plain facts about them. Conditions: none here. -/
import Derived.Test.YtbgaejnkjmjkhaaGreatDoorPvG
set_option linter.all false
namespace Go.Den.S
open Go Go.Den
def roN:List BA:=[zf,jc,jk,yP,wV,yN,q02,q1Q,zn,yT,q1I,j5,zm,jL,q1M,jD,q54,wu,q06,q0w]
theorem f_ro:strings_Fields q4r=some (roN,()):=(wH _).trans (by kernel_rfl)
theorem qmS {a b:BA} (h:1<=a.size):bt (a++b) 0=bt a 0:=by
 unfold bt
 rw [show (a++b).data.toList=a.data.toList++b.data.toList from by simp]
 cases h':a.data.toList with
 | nil=>
  have:a.data.toList.length=a.size:=Array.length_toList
  rw [h'] at this
  simp at this
  omega
 | cons x r=>rfl
def Fst (r:BA) (n:Int):Prop:=1<=r.size/\bt r 0=n
theorem Fst.app {a b:BA} {n:Int} (h:Fst a n):Fst (a++b) n:=⟨by rw [ByteArray.size_append]; have:=h.1; omega,(qmS h.1).trans h.2⟩
theorem zU (n:Int):Fst (numB n) 58:=by
 unfold numB
 exact Fst.app (Fst.app ⟨by decide,by decide +kernel⟩)
theorem q6R (s:BA):Fst (zI s) 36:=by
 unfold zI
 exact Fst.app (Fst.app (Fst.app (Fst.app ⟨by decide,by decide +kernel⟩)))
theorem q8L (s:BA):Fst (jV s) 43:=by
 unfold jV
 exact Fst.app (Fst.app ⟨by decide,by decide +kernel⟩)
theorem q8U (s:BA):Fst (y5 s) 45:=by
 unfold y5
 exact Fst.app (Fst.app ⟨by decide,by decide +kernel⟩)
theorem q8k:Fst nilR 36:=⟨by decide,by decide +kernel⟩
theorem qjZ (a b:List Int):q4G (a++b)=q4G a++q4G b:=by
 apply q4E
 unfold q4G
 simp
theorem q8g (l:List BA):Fst (arrB l) 42:=by
 unfold arrB
 rw [qjZ,qgq]
 exact Fst.app (Fst.app (Fst.app ⟨by decide,by decide +kernel⟩))
theorem qf7 {a b:BA} {n:Int} {p:Bool} (h:Fst a n) (k:Fst b n):Fst (bif p then a else b) n:=by cases p<;>assumption
theorem qiT (v:DV) (f:Bool):Fst (txtR v f) 36:=by
 unfold txtR
 exact qf7 q8k (qf7 q8k (q6R _))
theorem qmK (l:List BA) (n:Int):Fst (idxR l n) 36:=by
 unfold idxR
 dsimp only
 generalize (if n < 0 then n+(l.length:Int) else n)=i
 by_cases h:0<=i/\i<=(l.length:Int) - 1
 ·rw [if_pos h]; exact q6R _
 ·rw [if_neg h]; exact q8k
structure gR (t:List DE) (u:BA) (d:DD):Prop where
 ne:1<=d.2.1.size
 bad:bt d.2.1 0=45->d.2.2=true\/d.1=t
 ro:memB u roN=true->d.2.2=true\/d.1=t
section
variable {t:List DE} {u:BA}
theorem gR.same {r:BA} {b:Bool} {n:Int} (h:Fst r n):gR t u (t,(r,b)):=⟨h.1,fun _=>.inr rfl,fun _=>.inr rfl⟩
theorem gR.flt {x:List DE} {s:BA}:gR t u (x,(y5 s,true)):=⟨(q8U s).1,fun _=>.inl rfl,fun _=>.inl rfl⟩
theorem gR.put {x:List DE} {r:BA} {b:Bool} {n:Int} (h:Fst r n) (hn:n≠45) (hu:memB u roN=false):gR t u (x,(r,b)):=
 ⟨h.1,fun e=>absurd (h.2.symm.trans e) hn,fun e=>by rw [hu] at e; cases e⟩
theorem gR.bif {a b:DD} {p:Bool} (h:gR t u a) (k:gR t u b):gR t u (bif p then a else b):=by cases p<;>assumption
theorem gR.dec {a b:DD} {c:BA} (h:u=c->gR t u a) (k:¬ u=c->gR t u b):gR t u (bif decide (u=c) then a else b):=by
 by_cases e:u=c
 ·rw [dYT e]; exact h e
 ·rw [dYF e]; exact k e
theorem gR.w {x:List DE} {r:BA} {b:Bool} {n:Int} {c:BA} (h:Fst r n) (hn:n≠45) (hc:memB c roN=false) (e:u=c):gR t u (x,(r,b)):=gR.put h hn (by rw [e]; exact hc)
theorem qn5 (k:BA) (vals:List BA):gR t u (setD t u k vals):=by
 unfold setD
 exact gR.bif gR.flt (gR.dec (gR.w (zU _) (by decide) (by decide +kernel)) fun _=>gR.dec (gR.w (zU _) (by decide) (by decide +kernel)) fun _=>gR.bif (gR.same (zU _)) (gR.bif (gR.same (zU _)) (gR.same (q8g _))))
theorem qmW (k:BA) (vals:List BA):gR t u (fldD t u k vals):=by
 unfold fldD
 exact gR.bif gR.flt (gR.dec (gR.w (zU _) (by decide) (by decide +kernel)) fun _=>gR.bif (gR.same (qf7 (q6R _) q8k)) (gR.dec (gR.w (zU _) (by decide) (by decide +kernel)) fun _=>gR.bif (gR.same (zU _)) (gR.bif (gR.same (q8g _)) (gR.same (q8g _)))))
theorem qn7 (k:BA) (vals:List BA):gR t u (lstD t u k vals):=by
 unfold lstD
 exact gR.bif gR.flt (gR.dec (gR.w (zU _) (by decide) (by decide +kernel)) fun _=>gR.dec (gR.w (zU _) (by decide) (by decide +kernel)) fun _=>
  gR.dec (fun e=>gR.bif (gR.same q8k) (gR.w (q6R _) (by decide) (by decide +kernel) e)) fun _=>gR.dec (fun e=>gR.bif (gR.same q8k) (gR.w (q6R _) (by decide) (by decide +kernel) e)) fun _=>
  gR.bif (gR.same (zU _)) (gR.bif (gR.bif gR.flt (gR.same (qmK _ _))) (gR.bif gR.flt (gR.bif gR.flt (gR.same (q8g _))))))
theorem qn1 (k:BA) (n:Int) (hu:memB u roN=false):gR t u (cntD t k n):=by
 unfold cntD
 exact gR.bif gR.flt (gR.bif gR.flt (gR.put (zU _) (by decide) hu))
theorem qmN (hu:u∈txtN) (hm:¬ u=wV) (k:BA) (vals:List BA):gR t u (txtD t u k vals):=by
 unfold txtD
 refine gR.dec (gR.w (q8L _) (by decide) (by decide +kernel)) fun _=>gR.dec (fun e=>gR.bif (gR.same (zU _)) (gR.w (zU _) (by decide) (by decide +kernel) e)) fun _=>gR.bif gR.flt (gR.dec (fun _=>gR.same (qiT _ _)) fun m1=>
  gR.dec (gR.w (qiT _ _) (by decide) (by decide +kernel)) fun _=>gR.dec (gR.w (zU _) (by decide) (by decide +kernel)) fun _=>gR.dec (fun _=>gR.same (zU _)) fun m2=>gR.bif gR.flt (qn1 _ _ ?_))
 have all:(txtN.all fun v=>decide (v=jk)||(decide (v=yP)||(decide (v=wV)||!(memB v roN))))=true:=by decide +kernel
 have:=List.all_eq_true.1 all u hu
 rw [dYF m1,dYF m2,dYF hm] at this
 simpa using this
theorem qn3 (l:List BA):∀ c:Int,(l.foldl (cntK false) (c,t)).2=t:=by
 induction l with
 | nil=>intro c; rfl
 | cons x r ih=>intro c; exact ih _
theorem qmY (hu:u∈keyN) (m1:¬ u=zf) (m2:¬ u=zn) (m3:¬ u=yT) (now:Int) (k:BA) (vals:List BA):gR t u (keyD t now u k vals):=by
 unfold keyD
 refine gR.dec (fun _=>gR.same (q6R _)) fun e1=>gR.dec (gR.w (zU _) (by decide) (by decide +kernel)) fun _=>gR.dec (fun _=>?_) fun e2=>gR.dec (fun _=>gR.same (q8L _)) fun e3=>
  gR.dec (fun e=>gR.bif gR.flt (gR.bif (gR.same (zU _)) (gR.bif (gR.w (zU _) (by decide) (by decide +kernel) e) (gR.bif gR.flt (gR.w (zU _) (by decide) (by decide +kernel) e))))) fun _=>
  gR.dec (fun _=>gR.same (zU _)) fun e4=>gR.bif (gR.same (zU _)) (gR.put (zU _) (by decide) ?_)
 ·rw [qn3]
  exact gR.same (zU _)
 ·have all:(keyN.all fun v=>decide (v=zf)||(decide (v=zn)||(decide (v=yT)||(decide (v=jc)||(decide (v=yN)||(decide (v=q02)||(decide (v=q1Q)||!(memB v roN))))))))=true:=by decide +kernel
  have:=List.all_eq_true.1 all u hu
  rw [dYF m1,dYF m2,dYF m3,dYF e1,dYF e2,dYF e3,dYF e4] at this
  simpa using this
end
structure GR (t:List DE) (u:BA) (r:List DE) (s:BA):Prop where
 ne:1<=s.size
 bad:bt s 0=45->r=t
 ro:memB u roN=true->r=t
theorem qbi {t:List DE} {u:BA} {d:DD} (h:gR t u d):GR t u (zJ d t).1 (zJ d t).2.1:=by
 unfold zJ
 cases hb:d.2.2 with
 | true=>exact ⟨h.ne,fun _=>rfl,fun _=>rfl⟩
 | false=>
  simp only [cF]
  cases tabB d.1 with
  | true=>exact ⟨h.ne,fun e=>(h.bad e).resolve_left (by rw [hb]; decide),fun e=>(h.ro e).resolve_left (by rw [hb]; decide)⟩
  | false=>exact ⟨(q8U _).1,fun _=>rfl,fun _=>rfl⟩
section
variable {t:List DE} {a:BA} {r:List BA}
theorem q8n {l:List BA} (hp:isB t (a::r) l=true):tabB t=true/\upB a∈l/\jo (a::r)=true:=by
 unfold isB at hp
 simp only [Bool.and_eq_true] at hp
 exact ⟨hp.1,wO.1 hp.2.1,hp.2.2⟩
theorem qn2 (hp:isB t (a::r) setN=true):GR t (upB a) (q0i t (a::r)).1 (q0i t (a::r)).2.1:=by
 obtain ⟨_,hm,har⟩:=q8n hp
 obtain ⟨k,vals,rfl,_⟩:=qcC hm har
 unfold q0i
 rw [hp]
 exact qbi (qn5 k vals)
theorem qmZ (hp:isB t (a::r) fldN=true):GR t (upB a) (zX t (a::r)).1 (zX t (a::r)).2.1:=by
 obtain ⟨_,hm,har⟩:=q8n hp
 obtain ⟨k,vals,rfl,_⟩:=qcL hm har
 unfold zX
 rw [hp]
 exact qbi (qmW k vals)
theorem qn9 (hp:isB t (a::r) lstN=true):GR t (upB a) (jE t (a::r)).1 (jE t (a::r)).2.1:=by
 obtain ⟨_,hm,har⟩:=q8n hp
 obtain ⟨k,vals,rfl,_⟩:=qcU hm har
 unfold jE
 rw [hp]
 exact qbi (qn7 k vals)
theorem qmL (hp:isB t (a::r) txtN=true):GR t (upB a) (jF t (a::r)).1 (jF t (a::r)).2.1:=by
 obtain ⟨_,hm,har⟩:=q8n hp
 unfold jF
 rw [hp]
 refine qbi ?_
 show gR t (upB a) (bif decide (upB a=wV) then _ else bif decide (upB a=yX) then _ else _)
 refine gR.dec (fun _=>gR.same (q8g _)) fun m1=>gR.dec (gR.w (q8L _) (by decide) (by decide +kernel)) fun m2=>?_
 obtain ⟨k,vals,rfl,_⟩:=qcN hm har m1 m2
 exact qmN hm m1 k vals
theorem qmM {now:Int} (hn:0<=now/\now<=100000) (hp:isB t (a::r) keyN=true):GR t (upB a) (q4o t now (a::r)).1 (q4o t now (a::r)).2.1:=by
 obtain ⟨_,hm,har⟩:=q8n hp
 unfold q4o
 rw [dYT hn.1,dYT hn.2,hp]
 refine qbi ?_
 show gR t (upB a) (bif decide (upB a=zf) then _ else bif decide (upB a=zn) then _ else bif decide (upB a=yT) then _ else bif decide (upB a=yD) then _ else _)
 refine gR.dec (fun _=>gR.same (q8L _)) fun m1=>gR.dec (fun _=>gR.same (q8g _)) fun m2=>gR.dec (fun _=>gR.same (zU _)) fun m3=>gR.dec (gR.w (q8L _) (by decide) (by decide +kernel)) fun m4=>?_
 obtain ⟨k,vals,rfl,_⟩:=qcA hm har m1 m2 m3 m4
 exact qmY hm m1 m2 m3 now k vals
end
theorem qnj:(cmds.all fun v=>memB v txtN||(memB v lstN||(memB v fldN||(memB v setN||memB v keyN))))=true:=by decide +kernel
theorem qdf {t:List DE} {a:BA} {r:List BA} {l:List BA} (ht:tabB t=true) (har:jo (a::r)=true):isB t (a::r) l=memB (upB a) l:=by
 unfold isB
 rw [ht,har,Bool.true_and,Bool.and_true]
theorem qnx {t:List DE} (ht:tabB t=true) {now:Int} (hn:0<=now/\now<=100000) {a:BA} {r:List BA} (hu:unkB (a::r)=eB) :
  memB (upB a) cmds=true/\GR (wG t now) (upB a) (exeB t now (a::r)).1 (exeB t now (a::r)).2:=by
 have hu':(bif memB (upB a) cmds then (bif jo (a::r) then eB else y5 q1w) else y5 q03)=eB:=hu
 have hne:∀ s:BA,¬ y5 s=eB:=fun s e=>by
  have:=(q8U s).1
  rw [e] at this
  exact absurd this (by decide)
 cases hc:memB (upB a) cmds with
 | false=>rw [hc] at hu'; exact absurd hu' (hne _)
 | true=>
  rw [hc,cT] at hu'
  cases har:jo (a::r) with
  | false=>rw [har] at hu'; exact absurd hu' (hne _)
  | true=>
   refine ⟨rfl,?_⟩
   have hl:=qa3 ht now
   have k5:=List.all_eq_true.1 qnj _ (wO.1 hc)
   have iT:=qdf (l:=txtN) hl har
   have iL:=qdf (l:=lstN) hl har
   have iF:=qdf (l:=fldN) hl har
   have iS:=qdf (l:=setN) hl har
   have iK:=qdf (l:=keyN) hl har
   unfold exeB
   rw [ht,dYT hn.1,dYT hn.2,dYT hu]
   simp only [Bool.and_self,Bool.not_true,cF]
   cases h1:memB (upB a) txtN with
   | true=>
    rw [h1] at iT
    have:(jF (wG t now) (a::r)).2.2=true:=by unfold jF; rw [iT]; exact q8W _ _
    rw [this]
    exact qmL iT
   | false=>
    rw [h1] at iT k5
    have:(jF (wG t now) (a::r)).2.2=false:=by unfold jF; rw [iT]; rfl
    rw [this]
    simp only [cF]
    cases h2:memB (upB a) lstN with
    | true=>
     rw [h2] at iL
     have:(jE (wG t now) (a::r)).2.2=true:=by unfold jE; rw [iL]; exact q8W _ _
     rw [this]
     exact qn9 iL
    | false=>
     rw [h2] at iL k5
     have:(jE (wG t now) (a::r)).2.2=false:=by unfold jE; rw [iL]; rfl
     rw [this]
     simp only [cF]
     cases h3:memB (upB a) fldN with
     | true=>
      rw [h3] at iF
      have:(zX (wG t now) (a::r)).2.2=true:=by unfold zX; rw [iF]; exact q8W _ _
      rw [this]
      exact qmZ iF
     | false=>
      rw [h3] at iF k5
      have:(zX (wG t now) (a::r)).2.2=false:=by unfold zX; rw [iF]; rfl
      rw [this]
      simp only [cF]
      cases h4:memB (upB a) setN with
      | true=>
       rw [h4] at iS
       have:(q0i (wG t now) (a::r)).2.2=true:=by unfold q0i; rw [iS]; exact q8W _ _
       rw [this]
       exact qn2 iS
      | false=>
       rw [h4] at iS k5
       have:(q0i (wG t now) (a::r)).2.2=false:=by unfold q0i; rw [iS]; rfl
       rw [this]
       simp only [cF]
       simp only [Bool.false_or] at k5
       rw [k5] at iK
       exact qmM hn iK
theorem ql4 (a:BA) (r:List BA) (hs:a.size<=60):q9l (a::r)=some ((memB (upB a) cmds&&!(memB (upB a) roN)),()):=by
 rw [qfe,q0Z qjU (by omega) (by decide),oB,q0Z f_ro (by omega) (by decide),oB]
 cases memB (upB a) cmds<;>rfl
theorem q4K (t:List DE) (h:Bd t):jB t t=some (true,()):=by
 rw [qhi t t (by have:=h.len; omega) (fun e he=>by have:=h.its e he; omega),dYT rfl]
theorem qhZ (code:List Int):qaT code=some (true,()):=by
 rw [qer,q9p]
 by_cases hb:(code.length:Int) > 1048576
 ·simp only [oB,dYT hb,cT]
 obtain ⟨t,now,args,hD,ht,n0,n1,al,hsz⟩:=qi4 code (by omega)
 have hn:0<=now/\now<=100000:=by omega
 have hB:=z8 ht.tab
 have hw:wB args<=1048576:=wsm (by omega) fun s h=>by have:=hsz s h; omega
 obtain ⟨eS,eI⟩:=qa7 t now args hB hw
 have hU:=q91 args (by omega) (fun s h=>by have:=hsz s h; omega)
 have hL:=qa3 ht.tab now
 have hBA:Bd (exeB t now args).1:=by
  rcases qbD t now args with e | e
  ·rw [e]; exact hB
  ·exact z8 e
 simp only [oB,dYF hb,cF,hD,eI,eS,qN,decide_true,Bool.not_true,q4K _ hBA,hU]
 by_cases hu:unkB args=eB
 ·simp only [dYT hu,Bool.not_true,cF]
  match args,hu,hsz with
  | [],hu,_=>exact absurd hu (by show ¬ y5 q03=eB; intro e; have:=(q8U q03).1; rw [e] at this; exact absurd this (by decide))
  | a::r,hu,hsz=>
   obtain ⟨hc,hg⟩:=qnx ht.tab hn hu
   have hl2:=qbf t now hB
   rw [ql4 a r (hsz a (List.mem_cons_self ..)),hc]
   simp only [oB,Bool.true_and,Bool.not_not]
   cases hr:memB (upB a) roN with
   | true=>
    simp only [cT,hl2,oB]
    rw [hg.ro hr,q4K _ (z8 hL)]
    rfl
   | false=>
    have p0:(decide ((0:Int)<=0)&&decide (0 < ((exeB t now (a::r)).2.size:Int)))=true:=by rw [dYT (show (0:Int) < ((exeB t now (a::r)).2.size:Int) by have:=hg.ne; omega)]; rfl
    simp only [cF,p0,cT,Int.toNat_zero]
    by_cases h45:bt (exeB t now (a::r)).2 0=45
    ·have:(bt (exeB t now (a::r)).2 0==45)=true:=by rw [h45]; rfl
     simp only [this,cT,hl2,oB]
     rw [hg.bad h45,q4K _ (z8 hL)]
     rfl
    ·have:(bt (exeB t now (a::r)).2 0==45)=false:=by rw [wL]; exact dYF h45
     simp only [this,cF]
     have hT:tabB (exeB t now (a::r)).1=true:=(qbD t now (a::r)).elim (fun e=>by rw [e]; exact ht.tab) id
     rw [q4v _ hBA,hT]
     rfl
 ·simp only [dYF hu,Bool.not_false,cT]
  have he:(exeB t now args).1=t:=by
   unfold exeB
   rw [ht.tab,dYT hn.1,dYT hn.2,dYF hu]
   rfl
  rw [he,q4K t hB]
  rfl
end Go.Den.S
namespace Go.Den.S
open Go Go.Den
structure VB (v:DV):Prop where
 len:v.2.2.2.length<=100
 txt:v.2.2.1.size<=100
 its:∀ s∈v.2.2.2,s.size<=100
structure BT (t:List DE):Prop where
 len:t.length<=100
 key:∀ e∈t,e.1.size<=60
 val:∀ e∈t,VB e.2
theorem BT.bd {t:List DE} (h:BT t):Bd t:=⟨by have:=h.len; omega,fun e he=>by have:=(h.val e he).len; omega,fun e he=>⟨by have:=h.key e he; omega,by have:=(h.val e he).txt; omega,fun s hs=>by have:=(h.val e he).its s hs; omega⟩⟩
theorem qjD {v:DV} (h:valB v=true):VB v:=by
 obtain ⟨h1,h2,h3⟩:=q8l h
 exact ⟨by omega,by omega,fun s hs=>by have:=h3 s hs; omega⟩
theorem Dt.bt {t:List DE} (h:Dt t):BT t:=⟨by have:=q0j h.tab; omega,fun e he=>by have:=(q8c h.tab he).2; omega,fun e he=>qjD (h.val e he).1⟩
theorem qfS (n x:Int) (hn:n<=1000):∀ (m i:Nat) (xs:List Int),(m:Int)+(i:Int)=n->(xs.length:Int)=n->∃ s,q4u n x xs (i:Int)=some (s,())/\(s.size:Int)=n
 | 0,i,xs,hm,hx=>by
  rw [q7v]
  simp only [dYF (show ¬ (i:Int) < n by omega),cF]
  refine ⟨_,rfl,?_⟩
  show ((List.toArray (List.map _ xs)).size:Int)=n
  simp; omega
 | m+1,i,xs,hm,hx=>by
  rw [q7v]
  simp only [dYT (show (i:Int) < n by omega),dYT (show (0:Int)<=(i:Int) by omega),dYT (show (i:Int) < (xs.length:Int) by omega),Bool.and_self,cT,Int.toNat_natCast,show w64 ((i:Int)+1)=((i+1:Nat):Int) from qz (by omega)]
  exact qfS n x hn m (i+1) _ (by omega) (by rw [List.length_set]; exact hx)
theorem qbJ (n x:Int) (h0:0<=n) (hn:n<=100):∃ s,q3o n x=some (s,())/\s.size<=100/\(s.size:Int)=n:=by
 rw [qdh,dYT h0,dYT (Int.le_refl n),qI (show Int.toNat n * 1<=140737488355328 by omega)]
 obtain ⟨s,e,h⟩:=qfS n x (by omega) n.toNat 0 (List.replicate n.toNat 0) (by omega) (by rw [List.length_replicate]; omega)
 refine ⟨s,?_,by omega,h⟩
 simp only [Bool.and_self,cT]
 exact e
theorem qa2 {c:Cur} (h:Cu c) (l:List Int) (h1:1<=l.length) (h2:l.length<=1000):∃ (x:Int) (c':Cur),q2Y c l=some (x,(c',()))/\Cu c':=by
 obtain ⟨x,c1,e1,a1,b1,k1⟩:=zS h (l.length:Int) (by omega) (by omega)
 rw [qbs,e1]
 simp only [oB,dYT a1,dYT b1,Bool.and_self,cT]
 exact ⟨_,_,rfl,k1⟩
theorem qmT {c:Cur} (h:Cu c):∃ (x:Int) (c':Cur),q9o c=some (x,(c',()))/\Cu c':=by
 obtain ⟨b,c1,e1,k1⟩:=q58 h 20 (by decide) (by decide)
 rw [qf5,e1]
 cases b with
 | true=>
  obtain ⟨x,c2,e2,k2⟩:=qa2 k1 [(-1),100000,100001] (by decide) (by decide)
  simp only [oB,cT,e2]
  exact ⟨x,c2,rfl,k2⟩
 | false=>
  obtain ⟨x,c2,e2,_,_,k2⟩:=zS k1 30 (by decide) (by decide)
  simp only [oB,cF,e2]
  exact ⟨x,c2,rfl,k2⟩
theorem ql3:∀ (m i:Nat) (l:List BA) (c:Cur),m+i=25->Cu c->l.length=i->(∀ s∈l,s.size<=100)->∃ (v:DV) (c':Cur),q3e (i:Int) c.1 c.2.1 c.2.2 0 0 eB [] 2 0 eB l=some (v,(c',()))/\VB v/\Cu c'
 | m,i,l,c,hm,hc,hl,hs=>by
  obtain ⟨x,c1,e1,a1,b1,k1⟩:=zS hc 2 (by decide) (by decide)
  have e1:qh (c.1,(c.2.1,c.2.2)) 2=some (x,(c1,())):=e1
  have w1:w64 (24+x)=24+x:=ql (by omega) (by omega)
  rw [qad]
  simp only [e1,oB,w1]
  by_cases hi:(i:Int) < 24+x
  ·match m,hm with
   | 0,hm=>omega
   | m+1,hm=>
    simp only [dYT hi,cT,qI (show (l.length+1) * 16<=140737488355328 by omega),show w64 ((i:Int)+1)=((i+1:Nat):Int) from qz (by omega)]
    exact ql3 m (i+1) (l++[c_i]) c1 (by omega) k1 (by simp [hl]) (fun s h=>by
     rcases List.mem_append.1 h with h | h
     ·exact hs s h
     ·rw [List.mem_singleton] at h; subst h; decide)
  ·simp only [dYF hi,cF]
   exact ⟨_,c1,rfl,⟨by show l.length<=100; omega,by show (0:Nat)<=100; omega,hs⟩,k1⟩
theorem qkv {c:Cur} (hc:Cu c):∃ (v:DV) (c':Cur),q73 c=some (v,(c',()))/\VB v/\Cu c':=by
 obtain ⟨v,c1,e1,hv,_,_,_,_,k1⟩:=qe3 hc
 obtain ⟨x,c2,e2,x0,x1,k2⟩:=zS k1 24 (by decide) (by decide)
 have hV:=qjD hv
 have hi:=q8l hv
 rw [qbW]
 simp only [e1,e2,oB]
 by_cases h0:x=0
 ·have:(x==0)=true:=by rw [h0]; rfl
  obtain ⟨y,c3,e3,k3⟩:=qa2 k2 [0,5,1,3] (by decide) (by decide)
  simp only [this,cT,e3,oB]
  exact ⟨_,_,rfl,⟨hV.len,hV.txt,hV.its⟩,k3⟩
 have n0:(x==0)=false:=by rw [wL]; exact dYF h0
 by_cases h1:x=1
 ·have:(x==1)=true:=by rw [h1]; rfl
  obtain ⟨y,c3,e3,k3⟩:=qa2 k2 [(-1),100000,100001] (by decide) (by decide)
  simp only [n0,this,cT,cF,e3,oB]
  exact ⟨_,_,rfl,⟨hV.len,hV.txt,hV.its⟩,k3⟩
 have n1:(x==1)=false:=by rw [wL]; exact dYF h1
 by_cases h2:x=2
 ·have:(x==2)=true:=by rw [h2]; rfl
  obtain ⟨y,c3,e3,y0,y1,k3⟩:=zS k2 2 (by decide) (by decide)
  have w:w64 (60+y)=60+y:=ql (by omega) (by omega)
  obtain ⟨s,e4,hs,_⟩:=qbJ (60+y) 65 (by omega) (by omega)
  simp only [n0,n1,this,cT,cF,e3,oB,w,e4]
  exact ⟨_,_,rfl,⟨hV.len,hs,hV.its⟩,k3⟩
 have n2:(x==2)=false:=by rw [wL]; exact dYF h2
 by_cases h3:x=3
 ·have:(x==3)=true:=by rw [h3]; rfl
  obtain ⟨s,e3,hs,_⟩:=qbJ 60 122 (by decide) (by decide)
  obtain ⟨r,e4,hr,_⟩:=qbJ 61 122 (by decide) (by decide)
  obtain ⟨y,c3,e5,hy,k3⟩:=q9X k2 [c_f,c_z,s,r] (by simp) (by simp)
  have hy:y.size<=100:=by
   simp only [List.mem_cons,List.not_mem_nil,or_false] at hy
   rcases hy with rfl | rfl | rfl | rfl
   ·decide
   ·decide
   ·exact hs
   ·exact hr
  simp only [n0,n1,n2,this,cT,cF,e3,e4,e5,oB,qI (show (v.2.2.2.length+1) * 16<=140737488355328 by omega)]
  refine ⟨_,_,rfl,⟨by simp; omega,hV.txt,fun q hq=>?_⟩,k3⟩
  rcases List.mem_append.1 hq with hq | hq
  ·exact hV.its q hq
  ·rw [List.mem_singleton] at hq; subst hq; exact hy
 have n3:(x==3)=false:=by rw [wL]; exact dYF h3
 by_cases h4:x=4
 ·have:(x==4)=true:=by rw [h4]; rfl
  simp only [n0,n1,n2,n3,this,cT,cF]
  exact ⟨_,_,rfl,⟨by simp,hV.txt,fun s h=>by cases h⟩,k2⟩
 have n4:(x==4)=false:=by rw [wL]; exact dYF h4
 by_cases h5:x=5
 ·have:(x==5)=true:=by rw [h5]; rfl
  simp only [n0,n1,n2,n3,n4,this,cT,cF]
  exact ql3 25 0 [] c2 rfl k2 rfl (fun s h=>by cases h)
 have n5:(x==5)=false:=by rw [wL]; exact dYF h5
 simp only [n0,n1,n2,n3,n4,n5,cF]
 exact ⟨v,c2,rfl,hV,k2⟩
end Go.Den.S
namespace Go.Den.S
open Go Go.Den
theorem qdt:∀ (m:Nat) (t:List DE) (c:Cur),t.length+m=21->Cu c->BT t->∃ (t':List DE) (c':Cur),q2D t c.1 c.2.1 c.2.2=some (t',(c',()))/\BT t'/\Cu c'
 | 0,t,c,hm,hc,h=>by
  rw [q5m]
  simp only [dYF (show ¬ (t.length:Int)<=20 by omega),cF]
  exact ⟨t,c,rfl,h,hc⟩
 | m+1,t,c,hm,hc,h=>by
  obtain ⟨v,c2,e2,hv,_,_,_,_,k2⟩:=qe3 hc
  have e2:q39 (c.1,(c.2.1,c.2.2))=some (v,(c2,())):=e2
  have w:w64 (10+(t.length:Int))=((10+t.length:Nat):Int):=by rw [show w64 (10+(t.length:Int))=10+(t.length:Int) from ql (by omega) (by omega)]; omega
  have hd:=q0F ((10+t.length:Nat):Int) (by omega) (by omega)
  have hck:(c_z:BA).size=1:=rfl
  have hV:=qjD hv
  have ih:=qdt m (t++[(c_z++decB ((10+t.length:Nat):Int),v)]) c2 (by simp; omega) k2 ⟨by simp; omega,fun e he=>by
   rcases List.mem_append.1 he with he | he
   ·exact h.key e he
   ·rw [List.mem_singleton] at he; subst he
    show (c_z++decB ((10+t.length:Nat):Int)).size<=60
    rw [ByteArray.size_append]; omega,fun e he=>by
   rcases List.mem_append.1 he with he | he
   ·exact h.val e he
   ·rw [List.mem_singleton] at he; subst he; exact hV⟩
  rw [q5m]
  simp only [dYT (show (t.length:Int)<=20 by omega),cT,w,jH ((10+t.length:Nat):Int) (by omega) (by omega),oB,yF (show (c_z:BA).size+(decB ((10+t.length:Nat):Int)).size<=9223372036854775807 by omega),e2,qI (show (t.length+1) * 72<=140737488355328 by omega)]
  exact ih
theorem BT.set {t:List DE} (h:BT t) (i:Nat) {e:DE} (hk:e.1.size<=60) (hv:VB e.2):BT (t.set i e):=
 ⟨by rw [List.length_set]; exact h.len,fun x hx=>(List.mem_or_eq_of_mem_set hx).elim (h.key x) fun q=>q▸hk,fun x hx=>(List.mem_or_eq_of_mem_set hx).elim (h.val x) fun q=>q▸hv⟩
theorem qii {c:Cur} (hc:Cu c):∃ (t:List DE) (c':Cur),q5A c=some (t,(c',()))/\BT t/\Cu c':=by
 obtain ⟨t,c1,e1,ht,k1⟩:=qcu hc
 have hB:=ht.bt
 have hl:=q0j ht.tab
 rw [qaM]
 simp only [e1,oB]
 by_cases hz:t.length=0
 ·have:((t.length:Int)==0)=true:=by rw [hz]; rfl
  simp only [this,cT]
  exact ⟨t,c1,rfl,hB,k1⟩
 have:((t.length:Int)==0)=false:=by rw [wL]; exact dYF (by omega)
 simp only [this,cF]
 obtain ⟨x,c2,e2,x0,x1,k2⟩:=zS k1 (t.length:Int) (by omega) (by omega)
 obtain ⟨y,c3,e3,y0,y1,k3⟩:=zS k2 24 (by decide) (by decide)
 have hm:t.getD (Int.toNat x) dflt∈t:=yj (by omega)
 have hmk:=hB.key _ hm
 have hmv:=hB.val _ hm
 simp only [e2,e3,oB,dYT x0,dYT x1,Bool.and_self,cT]
 by_cases h0:y=0
 ·have:(y==0)=true:=by rw [h0]; rfl
  simp only [this,cT,qI (show (t.length+1) * 72<=140737488355328 by omega)]
  refine ⟨_,c3,rfl,⟨by simp; omega,fun e he=>?_,fun e he=>?_⟩,k3⟩
  ·rcases List.mem_append.1 he with he | he
   ·exact hB.key e he
   ·rw [List.mem_singleton] at he; subst he; exact hB.key _ hm
  ·rcases List.mem_append.1 he with he | he
   ·exact hB.val e he
   ·rw [List.mem_singleton] at he; subst he; exact hB.val _ hm
 have n0:(y==0)=false:=by rw [wL]; exact dYF h0
 by_cases h1:y=1
 ·have:(y==1)=true:=by rw [h1]; rfl
  obtain ⟨v,c4,e4,hv,k4⟩:=qkv k3
  simp only [n0,this,cT,cF,e4,oB]
  exact ⟨_,c4,rfl,hB.set (Int.toNat x) (e:=((t.getD (Int.toNat x) dflt).1,v)) hmk hv,k4⟩
 have n1:(y==1)=false:=by rw [wL]; exact dYF h1
 by_cases h2:y=2
 ·have:(y==2)=true:=by rw [h2]; rfl
  obtain ⟨s,e4,_,hs⟩:=qbJ 21 65 (by decide) (by decide)
  obtain ⟨z,c4,e5,hz,k4⟩:=q9X k3 [eB,s] (by simp) (by simp)
  have hs:s.size<=60:=by omega
  have hz:z.size<=60:=by
   simp only [List.mem_cons,List.not_mem_nil,or_false] at hz
   rcases hz with rfl | rfl
   ·decide
   ·exact hs
  simp only [n0,n1,this,cT,cF,e4,e5,oB]
  exact ⟨_,c4,rfl,hB.set (Int.toNat x) (e:=(z,(t.getD (Int.toNat x) dflt).2)) hz hmv,k4⟩
 have n2:(y==2)=false:=by rw [wL]; exact dYF h2
 by_cases h3:y=3
 ·have:(y==3)=true:=by rw [h3]; rfl
  simp only [n0,n1,n2,this,cT,cF]
  exact qdt (21 - t.length) t c3 (by omega) k3 hB
 have n3:(y==3)=false:=by rw [wL]; exact dYF h3
 simp only [n0,n1,n2,n3,cF]
 exact ⟨t,c3,rfl,hB,k3⟩
theorem qnk {c:Cur} (hc:Cu c):∃ (t:List DE) (c':Cur),q7K c=some (t,(c',()))/\BT t/\Cu c':=by
 obtain ⟨b,c1,e1,k1⟩:=q58 hc 20 (by decide) (by decide)
 rw [qcK,e1]
 cases b with
 | true=>
  obtain ⟨t,c2,e2,h2,k2⟩:=qii k1
  simp only [oB,cT,e2]
  exact ⟨t,c2,rfl,h2,k2⟩
 | false=>
  obtain ⟨t,c2,e2,h2,k2⟩:=qcu k1
  simp only [oB,cF,e2]
  exact ⟨t,c2,rfl,h2.bt,k2⟩
theorem qnl {c:Cur} (hc:Cu c) {t:List DE} (ht:BT t):Gd 9 (q4R c cmds t):=by
 rw [q9g]
 refine qh2 qh9 (by decide) (by decide) (fun k=>?_) (by have:=ht.len; omega) 40 0 c rfl hc
 by_cases hk:k < t.length
 ·exact ht.key _ (yj (d:=dflt) hk)
 ·rw [List.getD_eq_getElem?_getD,List.getElem?_eq_none (by omega)]
  decide
def ML (l:List (List BA)):Prop:=l.length<=60/\∀ a∈l,a.length<=9/\AllS a
theorem ML.snoc {l:List (List BA)} {a:List BA} (h:ML l) (hl:l.length<=59) (h1:a.length<=9) (h2:AllS a):ML (l++[a]):=⟨by simp; omega,fun x hx=>by
 rcases List.mem_append.1 hx with hx | hx
 ·exact h.2 x hx
 ·rw [List.mem_singleton] at hx; subst hx; exact ⟨h1,h2⟩⟩
theorem qiu (t:List DE) (now:Int):∀ (m:Nat) (l:List (List BA)) (c:Cur),l.length+m=51->Cu c->ML l->∃ l',q3L t now l c.1 c.2.1 c.2.2=some ((t,(now,l')),())/\ML l'
 | m,l,c,hm,hc,h=>by
  obtain ⟨x,c1,e1,a1,b1,k1⟩:=zS hc 2 (by decide) (by decide)
  have e1:qh (c.1,(c.2.1,c.2.2)) 2=some (x,(c1,())):=e1
  have w1:w64 (50+x)=50+x:=ql (by omega) (by omega)
  rw [qaL]
  simp only [e1,oB,w1]
  by_cases hi:(l.length:Int) < 50+x
  ·match m,hm with
   | 0,hm=>omega
   | m+1,hm=>
    simp only [dYT hi,cT,qI (show (l.length+1) * 24<=140737488355328 by omega)]
    exact qiu t now m (l++[[zf]]) c1 (by simp; omega) k1 (h.snoc (by omega) (by simp) (yQ (by decide) wN))
  ·simp only [dYF hi,cF]
   exact ⟨l,rfl,h⟩
theorem qip {t:List DE} (ht:BT t) (now:Int):∀ (m i:Nat) (l:List (List BA)) (c:Cur),m+i=6->l.length=i->Cu c->ML l->∃ l',q3Z t now l (i:Int) c.1 c.2.1 c.2.2=some ((t,(now,l')),())/\ML l'
 | m,i,l,c,hm,hl,hc,h=>by
  obtain ⟨x,c1,e1,a1,b1,k1⟩:=zS hc 7 (by decide) (by decide)
  have e1:qh (c.1,(c.2.1,c.2.2)) 7=some (x,(c1,())):=e1
  rw [qaK]
  simp only [e1,oB]
  by_cases hi:(i:Int) < x
  ·match m,hm with
   | 0,hm=>omega
   | m+1,hm=>
    obtain ⟨a,c2,e2,al,as',k2⟩:=qnl k1 ht
    simp only [dYT hi,cT,q2w,oB,e2,qI (show (l.length+1) * 24<=140737488355328 by omega),show w64 ((i:Int)+1)=((i+1:Nat):Int) from qz (by omega)]
    exact qip ht now m (i+1) (l++[a]) c2 (by omega) (by simp [hl]) k2 (h.snoc (by omega) al as')
  ·obtain ⟨b,c2,e2,k2⟩:=q58 k1 30 (by decide) (by decide)
   simp only [dYF hi,cF,e2,oB]
   cases b with
   | true=>
    simp only [cT]
    exact qiu t now (51 - l.length) l c2 (by omega) k2 h
   | false=>
    simp only [cF]
    exact ⟨l,rfl,h⟩
theorem qcd (code:List Int) (hl:code.length<=1048576):∃ (t:List DE) (now:Int) (l:List (List BA)),q5s code=some ((t,(now,l)),())/\BT t/\ML l:=by
 obtain ⟨c,e,k⟩:=qhN code hl
 obtain ⟨t,c1,e1,h1,k1⟩:=qnk k
 obtain ⟨now,c2,e2,k2⟩:=qmT k1
 obtain ⟨l,e3,h3⟩:=qip h1 now 6 0 [] c2 rfl rfl k2 ⟨by simp,fun a h=>by cases h⟩
 rw [qcR,e]
 simp only [oB,e1,e2]
 exact ⟨t,now,l,e3,h1,h3⟩
end Go.Den.S
namespace Go.Den.S
open Go Go.Den
theorem qhj (now:Int):∀ (l r:List (List BA)) (t:List DE),wZ now (l++r) t=((wZ now r (wZ now l t).1).1,(wZ now l t).2++(wZ now r (wZ now l t).1).2)
 | [],r,t=>rfl
 | a::l,r,t=>by
  have ih:=qhj now l r (exeB t now a).1
  show wZ now (a::(l++r)) t=_
  simp only [wZ,ih,List.cons_append]
theorem ML.w {l:List (List BA)} (h:ML l):∀ a∈l,wB a<=1048576:=fun a ha=>wsm (by have:=(h.2 a ha).1; omega) fun s hs=>by have:=(h.2 a ha).2 s hs; omega
theorem ML.take {l:List (List BA)} (h:ML l) (k:Nat):ML (l.take k):=⟨by have:=h.1; rw [List.length_take]; omega,fun a ha=>h.2 a (List.mem_of_mem_take ha)⟩
theorem ML.drop {l:List (List BA)} (h:ML l) (k:Nat):ML (l.drop k):=⟨by have:=h.1; rw [List.length_drop]; omega,fun a ha=>h.2 a (List.mem_of_mem_drop ha)⟩
theorem qfi {t:List DE} (h:Bd t) (now:Int) (l:List (List BA)):Bd (wZ now l t).1:=by
 rcases qhT now l t with e | e
 ·rw [e]; exact h
 ·exact z8 e
theorem qeq (l:List BA) (h:l.length<=1000):q29 l l=some (true,()):=by
 rw [qb0 l l (by omega),dYT rfl]
theorem qka (code:List Int):qcc code=some (true,()):=by
 rw [qf1,q9p]
 by_cases hb:(code.length:Int) > 1048576
 ·simp only [oB,dYT hb,cT]
 obtain ⟨t,now,l,hD,ht,hl⟩:=qcd code (by omega)
 obtain ⟨p,hP,hp12,hpm⟩:=qge code (by omega)
 have hl60:=hl.1
 obtain ⟨eS,eI⟩:=q9L t now l ht.bd hl.w (by omega)
 have len:=q72 now (l.take 50) t
 have len2:(l.take 50).length<=50:=by rw [List.length_take]; omega
 have hB:=qfi ht.bd now (l.take 50)
 simp only [oB,dYF hb,cF,hD,eI,eS,qeq _ (show (wZ now (l.take 50) t).2.length<=1000 by omega),q4K _ hB,Bool.not_true]
 by_cases h40:(l.length:Int) > 40
 ·simp only [dYT h40,cT,dYT (show ((wZ now (l.take 50) t).2.length:Int)<=50 by omega)]
 have e50:l.take 50=l:=List.take_of_length_le (by omega)
 rw [e50] at len hB ⊢
 have m0:=hpm (p.getD 0 0) (yj (by omega))
 have p0:(decide ((0:Int)<=0)&&decide (0 < (p.length:Int)))=true:=by rw [hp12]; rfl
 have w1:w64 ((l.length:Int)+1)=(l.length:Int)+1:=ql (by omega) (by omega)
 have t0:=q9Y m0.1 (show (1:Int)<=(l.length:Int)+1 by omega)
 have hne:(((l.length:Int)+1) != 0)=true:=bneZ (by omega)
 simp only [dYF h40,cF,hP,oB,p0,cT,w1,hne,Int.toNat_zero]
 generalize Int.tmod (p.getD 0 0) ((l.length:Int)+1)=k at t0 ⊢
 obtain ⟨n,rfl⟩:∃ n:Nat,k=(n:Int):=⟨k.toNat,by omega⟩
 have hn:n<=l.length:=by omega
 have g1:(decide ((0:Int)<=0)&&(decide (0<=(n:Int))&&decide ((n:Int)<=(l.length:Int))))=true:=by rw [dYT (show (0:Int)<=(n:Int) by omega),dYT (show (n:Int)<=(l.length:Int) by omega)]; rfl
 have g2:(decide (0<=(n:Int))&&(decide ((n:Int)<=(l.length:Int))&&decide ((l.length:Int)<=(l.length:Int))))=true:=by rw [dYT (show (0:Int)<=(n:Int) by omega),dYT (show (n:Int)<=(l.length:Int) by omega),dYT (Int.le_refl _)]; rfl
 have s2:List.take (l.length - n) (List.drop n l)=l.drop n:=List.take_of_length_le (by rw [List.length_drop]; omega)
 simp only [g1,g2,cT,Int.toNat_natCast,Nat.sub_zero,List.drop_zero,s2]
 have q1:=(q9L t now (l.take n) ht.bd (hl.take n).w (by have:=(hl.take n).1; omega)).2
 have t1:(l.take n).take 50=l.take n:=List.take_of_length_le (by rw [List.length_take]; omega)
 rw [t1] at q1
 have hB1:=qfi ht.bd now (l.take n)
 have q2:=(q9L (wZ now (l.take n) t).1 now (l.drop n) hB1 (hl.drop n).w (by have:=(hl.drop n).1; omega)).2
 have t2:(l.drop n).take 50=l.drop n:=List.take_of_length_le (by rw [List.length_drop]; omega)
 rw [t2] at q2
 have all:=qhj now (l.take n) (l.drop n) t
 rw [List.take_append_drop] at all
 have la:=q72 now (l.take n) t
 have lb:=q72 now (l.drop n) (wZ now (l.take n) t).1
 have la':(l.take n).length<=60:=by rw [List.length_take]; omega
 have lb':(l.drop n).length<=60:=by rw [List.length_drop]; omega
 simp only [q1,q2,oB]
 rw [all] at hB ⊢
 simp only [q4K _ hB,oB,cT,List.nil_append]
 rw [qI (by omega),qI (by omega)]
 simp only [cT,qeq _ (show ((wZ now (l.take n) t).2++(wZ now (l.drop n) (wZ now (l.take n) t).1).2).length<=1000 by rw [List.length_append]; omega),oB]
theorem qi6 (code:List Int):qaR code=some (true,()):=by
 rw [qdr,q9p]
 by_cases hb:(code.length:Int) > 1048576
 ·simp only [oB,dYT hb,cT]
 obtain ⟨t,now,l,hD,ht,hl⟩:=qcd code (by omega)
 have hl60:=hl.1
 obtain ⟨eS,_⟩:=q9L t now l ht.bd hl.w (by omega)
 have hB:=qfi ht.bd now (l.take 50)
 have len:=q72 now (l.take 50) t
 have len2:(l.take 50).length<=50:=by rw [List.length_take]; omega
 have hD':q6q code=some ((t,(now,(l,(Int.tmod (code.length:Int) 2==0)))),()):=by
  rw [qaW,hD]; rfl
 generalize (Int.tmod (code.length:Int) 2==0)=many at hD'
 have eD:=qkA t now l many ht.bd hl.w (by omega)
 have hA:=q9J _ (qkD t now l hl.w)
 simp only [oB,dYF hb,cF,hD',eD,eS]
 rw [show (doB t now l many).1=(wZ now (l.take 50) t).1 from rfl,q4K _ hB]
 simp only [oB,Bool.not_true,cF]
 cases many with
 | true=>
  simp only [cT,hA,oB,qN]
  rw [show (doB t now l true).2=arrB (wZ now (l.take 50) t).2 from rfl,dYT rfl]
 | false=>
  rw [show (doB t now l false).2=gi (wZ now (l.take 50) t).2 0 from rfl]
  simp only [cF]
  generalize (wZ now (l.take 50) t).2=r
  cases r with
  | nil=>
   simp only [List.length_nil,show (((0:Nat):Int)==0)=true from rfl,cT,qN,show gi [] 0=eB from rfl,decide_true]
  | cons x r=>
   have e1:(((x::r).length:Int)==0)=false:=by rw [wL]; exact dYF (by simp only [List.length_cons]; omega)
   have e2:decide ((0:Int) < ((x::r).length:Int))=true:=dYT (by simp only [List.length_cons]; omega)
   have e3:decide (((x::r).length:Int) > 0)=true:=e2
   simp only [e1,e2,e3,cF,cT,Int.le_refl,decide_true,Bool.and_self,qN,Int.toNat_zero]
end Go.Den.S
