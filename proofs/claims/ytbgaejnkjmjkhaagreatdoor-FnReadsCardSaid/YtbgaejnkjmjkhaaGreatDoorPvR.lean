/- PvR: equations of the functions of this seat as the executor tells them, or plain facts about them. Conditions: none here. -/
import Derived.Test.YtbgaejnkjmjkhaaGreatDoorPvG
set_option linter.all false
namespace Go.Den.S
open Go Go.Den
def roN:List BA:=[zf,jc,jk,yP,wV,yN,q02,q1Q,zn,yT,q1I,j5,zm,jL,q1M,jD,q54,wu,q06,q0w]
theorem f_ro:strings_Fields q4r=some (roN,()):=(wH _).trans (by kernel_rfl)
theorem qmS {a b:BA} (h:1<=a.size):bt (a++b) 0=bt a 0:=by
 unfold bt
 rw [show (a++b).data.toList=a.data.toList++b.data.toList from by simp]
 cases h':a.data.toList with
 | nil=>
  have:a.data.toList.length=a.size:=Array.length_toList
  rw [h'] at this
  simp at this
  omega
 | cons x r=>rfl
def Fst (r:BA) (n:Int):Prop:=1<=r.size/\bt r 0=n
theorem Fst.app {a b:BA} {n:Int} (h:Fst a n):Fst (a++b) n:=⟨by rw [ByteArray.size_append]; have:=h.1; omega,(qmS h.1).trans h.2⟩
theorem zU (n:Int):Fst (numB n) 58:=by
 unfold numB
 exact Fst.app (Fst.app ⟨by decide,by decide +kernel⟩)
theorem q6R (s:BA):Fst (zI s) 36:=by
 unfold zI
 exact Fst.app (Fst.app (Fst.app (Fst.app ⟨by decide,by decide +kernel⟩)))
theorem q8L (s:BA):Fst (jV s) 43:=by
 unfold jV
 exact Fst.app (Fst.app ⟨by decide,by decide +kernel⟩)
theorem q8U (s:BA):Fst (y5 s) 45:=by
 unfold y5
 exact Fst.app (Fst.app ⟨by decide,by decide +kernel⟩)
theorem q8k:Fst nilR 36:=⟨by decide,by decide +kernel⟩
theorem qjZ (a b:List Int):q4G (a++b)=q4G a++q4G b:=by
 apply q4E
 unfold q4G
 simp
theorem q8g (l:List BA):Fst (arrB l) 42:=by
 unfold arrB
 rw [qjZ,qgq]
 exact Fst.app (Fst.app (Fst.app ⟨by decide,by decide +kernel⟩))
theorem qf7 {a b:BA} {n:Int} {p:Bool} (h:Fst a n) (k:Fst b n):Fst (bif p then a else b) n:=by cases p<;>assumption
theorem qiT (v:DV) (f:Bool):Fst (txtR v f) 36:=by
 unfold txtR
 exact qf7 q8k (qf7 q8k (q6R _))
theorem qmK (l:List BA) (n:Int):Fst (idxR l n) 36:=by
 unfold idxR
 dsimp only
 generalize (if n < 0 then n+(l.length:Int) else n)=i
 by_cases h:0<=i/\i<=(l.length:Int) - 1
 ·rw [if_pos h]; exact q6R _
 ·rw [if_neg h]; exact q8k
structure gR (t:List DE) (u:BA) (d:DD):Prop where
 ne:1<=d.2.1.size
 bad:bt d.2.1 0=45->d.2.2=true\/d.1=t
 ro:memB u roN=true->d.2.2=true\/d.1=t
section
variable {t:List DE} {u:BA}
theorem gR.same {r:BA} {b:Bool} {n:Int} (h:Fst r n):gR t u (t,(r,b)):=⟨h.1,fun _=>.inr rfl,fun _=>.inr rfl⟩
theorem gR.flt {x:List DE} {s:BA}:gR t u (x,(y5 s,true)):=⟨(q8U s).1,fun _=>.inl rfl,fun _=>.inl rfl⟩
theorem gR.put {x:List DE} {r:BA} {b:Bool} {n:Int} (h:Fst r n) (hn:n≠45) (hu:memB u roN=false):gR t u (x,(r,b)):=
 ⟨h.1,fun e=>absurd (h.2.symm.trans e) hn,fun e=>by rw [hu] at e; cases e⟩
theorem gR.bif {a b:DD} {p:Bool} (h:gR t u a) (k:gR t u b):gR t u (bif p then a else b):=by cases p<;>assumption
theorem gR.dec {a b:DD} {c:BA} (h:u=c->gR t u a) (k:¬ u=c->gR t u b):gR t u (bif decide (u=c) then a else b):=by
 by_cases e:u=c
 ·rw [dYT e]; exact h e
 ·rw [dYF e]; exact k e
theorem gR.w {x:List DE} {r:BA} {b:Bool} {n:Int} {c:BA} (h:Fst r n) (hn:n≠45) (hc:memB c roN=false) (e:u=c):gR t u (x,(r,b)):=gR.put h hn (by rw [e]; exact hc)
theorem qn5 (k:BA) (vals:List BA):gR t u (setD t u k vals):=by
 unfold setD
 exact gR.bif gR.flt (gR.dec (gR.w (zU _) (by decide) (by decide +kernel)) fun _=>gR.dec (gR.w (zU _) (by decide) (by decide +kernel)) fun _=>gR.bif (gR.same (zU _)) (gR.bif (gR.same (zU _)) (gR.same (q8g _))))
theorem qmW (k:BA) (vals:List BA):gR t u (fldD t u k vals):=by
 unfold fldD
 exact gR.bif gR.flt (gR.dec (gR.w (zU _) (by decide) (by decide +kernel)) fun _=>gR.bif (gR.same (qf7 (q6R _) q8k)) (gR.dec (gR.w (zU _) (by decide) (by decide +kernel)) fun _=>gR.bif (gR.same (zU _)) (gR.bif (gR.same (q8g _)) (gR.same (q8g _)))))
theorem qn7 (k:BA) (vals:List BA):gR t u (lstD t u k vals):=by
 unfold lstD
 exact gR.bif gR.flt (gR.dec (gR.w (zU _) (by decide) (by decide +kernel)) fun _=>gR.dec (gR.w (zU _) (by decide) (by decide +kernel)) fun _=>
  gR.dec (fun e=>gR.bif (gR.same q8k) (gR.w (q6R _) (by decide) (by decide +kernel) e)) fun _=>gR.dec (fun e=>gR.bif (gR.same q8k) (gR.w (q6R _) (by decide) (by decide +kernel) e)) fun _=>
  gR.bif (gR.same (zU _)) (gR.bif (gR.bif gR.flt (gR.same (qmK _ _))) (gR.bif gR.flt (gR.bif gR.flt (gR.same (q8g _))))))
theorem qn1 (k:BA) (n:Int) (hu:memB u roN=false):gR t u (cntD t k n):=by
 unfold cntD
 exact gR.bif gR.flt (gR.bif gR.flt (gR.put (zU _) (by decide) hu))
theorem qmN (hu:u∈txtN) (hm:¬ u=wV) (k:BA) (vals:List BA):gR t u (txtD t u k vals):=by
 unfold txtD
 refine gR.dec (gR.w (q8L _) (by decide) (by decide +kernel)) fun _=>gR.dec (fun e=>gR.bif (gR.same (zU _)) (gR.w (zU _) (by decide) (by decide +kernel) e)) fun _=>gR.bif gR.flt (gR.dec (fun _=>gR.same (qiT _ _)) fun m1=>
  gR.dec (gR.w (qiT _ _) (by decide) (by decide +kernel)) fun _=>gR.dec (gR.w (zU _) (by decide) (by decide +kernel)) fun _=>gR.dec (fun _=>gR.same (zU _)) fun m2=>gR.bif gR.flt (qn1 _ _ ?_))
 have all:(txtN.all fun v=>decide (v=jk)||(decide (v=yP)||(decide (v=wV)||!(memB v roN))))=true:=by decide +kernel
 have:=List.all_eq_true.1 all u hu
 rw [dYF m1,dYF m2,dYF hm] at this
 simpa using this
theorem qn3 (l:List BA):∀ c:Int,(l.foldl (cntK false) (c,t)).2=t:=by
 induction l with
 | nil=>intro c; rfl
 | cons x r ih=>intro c; exact ih _
theorem qmY (hu:u∈keyN) (m1:¬ u=zf) (m2:¬ u=zn) (m3:¬ u=yT) (now:Int) (k:BA) (vals:List BA):gR t u (keyD t now u k vals):=by
 unfold keyD
 refine gR.dec (fun _=>gR.same (q6R _)) fun e1=>gR.dec (gR.w (zU _) (by decide) (by decide +kernel)) fun _=>gR.dec (fun _=>?_) fun e2=>gR.dec (fun _=>gR.same (q8L _)) fun e3=>
  gR.dec (fun e=>gR.bif gR.flt (gR.bif (gR.same (zU _)) (gR.bif (gR.w (zU _) (by decide) (by decide +kernel) e) (gR.bif gR.flt (gR.w (zU _) (by decide) (by decide +kernel) e))))) fun _=>
  gR.dec (fun _=>gR.same (zU _)) fun e4=>gR.bif (gR.same (zU _)) (gR.put (zU _) (by decide) ?_)
 ·rw [qn3]
  exact gR.same (zU _)
 ·have all:(keyN.all fun v=>decide (v=zf)||(decide (v=zn)||(decide (v=yT)||(decide (v=jc)||(decide (v=yN)||(decide (v=q02)||(decide (v=q1Q)||!(memB v roN))))))))=true:=by decide +kernel
  have:=List.all_eq_true.1 all u hu
  rw [dYF m1,dYF m2,dYF m3,dYF e1,dYF e2,dYF e3,dYF e4] at this
  simpa using this
end
structure GR (t:List DE) (u:BA) (r:List DE) (s:BA):Prop where
 ne:1<=s.size
 bad:bt s 0=45->r=t
 ro:memB u roN=true->r=t
theorem qbi {t:List DE} {u:BA} {d:DD} (h:gR t u d):GR t u (zJ d t).1 (zJ d t).2.1:=by
 unfold zJ
 cases hb:d.2.2 with
 | true=>exact ⟨h.ne,fun _=>rfl,fun _=>rfl⟩
 | false=>
  simp only [cF]
  cases tabB d.1 with
  | true=>exact ⟨h.ne,fun e=>(h.bad e).resolve_left (by rw [hb]; decide),fun e=>(h.ro e).resolve_left (by rw [hb]; decide)⟩
  | false=>exact ⟨(q8U _).1,fun _=>rfl,fun _=>rfl⟩
section
variable {t:List DE} {a:BA} {r:List BA}
theorem q8n {l:List BA} (hp:isB t (a::r) l=true):tabB t=true/\upB a∈l/\jo (a::r)=true:=by
 unfold isB at hp
 simp only [Bool.and_eq_true] at hp
 exact ⟨hp.1,wO.1 hp.2.1,hp.2.2⟩
theorem qn2 (hp:isB t (a::r) setN=true):GR t (upB a) (q0i t (a::r)).1 (q0i t (a::r)).2.1:=by
 obtain ⟨_,hm,har⟩:=q8n hp
 obtain ⟨k,vals,rfl,_⟩:=qcC hm har
 unfold q0i
 rw [hp]
 exact qbi (qn5 k vals)
theorem qmZ (hp:isB t (a::r) fldN=true):GR t (upB a) (zX t (a::r)).1 (zX t (a::r)).2.1:=by
 obtain ⟨_,hm,har⟩:=q8n hp
 obtain ⟨k,vals,rfl,_⟩:=qcL hm har
 unfold zX
 rw [hp]
 exact qbi (qmW k vals)
theorem qn9 (hp:isB t (a::r) lstN=true):GR t (upB a) (jE t (a::r)).1 (jE t (a::r)).2.1:=by
 obtain ⟨_,hm,har⟩:=q8n hp
 obtain ⟨k,vals,rfl,_⟩:=qcU hm har
 unfold jE
 rw [hp]
 exact qbi (qn7 k vals)
theorem qmL (hp:isB t (a::r) txtN=true):GR t (upB a) (jF t (a::r)).1 (jF t (a::r)).2.1:=by
 obtain ⟨_,hm,har⟩:=q8n hp
 unfold jF
 rw [hp]
 refine qbi ?_
 show gR t (upB a) (bif decide (upB a=wV) then _ else bif decide (upB a=yX) then _ else _)
 refine gR.dec (fun _=>gR.same (q8g _)) fun m1=>gR.dec (gR.w (q8L _) (by decide) (by decide +kernel)) fun m2=>?_
 obtain ⟨k,vals,rfl,_⟩:=qcN hm har m1 m2
 exact qmN hm m1 k vals
theorem qmM {now:Int} (hn:0<=now/\now<=100000) (hp:isB t (a::r) keyN=true):GR t (upB a) (q4o t now (a::r)).1 (q4o t now (a::r)).2.1:=by
 obtain ⟨_,hm,har⟩:=q8n hp
 unfold q4o
 rw [dYT hn.1,dYT hn.2,hp]
 refine qbi ?_
 show gR t (upB a) (bif decide (upB a=zf) then _ else bif decide (upB a=zn) then _ else bif decide (upB a=yT) then _ else bif decide (upB a=yD) then _ else _)
 refine gR.dec (fun _=>gR.same (q8L _)) fun m1=>gR.dec (fun _=>gR.same (q8g _)) fun m2=>gR.dec (fun _=>gR.same (zU _)) fun m3=>gR.dec (gR.w (q8L _) (by decide) (by decide +kernel)) fun m4=>?_
 obtain ⟨k,vals,rfl,_⟩:=qcA hm har m1 m2 m3 m4
 exact qmY hm m1 m2 m3 now k vals
end
theorem qnj:(cmds.all fun v=>memB v txtN||(memB v lstN||(memB v fldN||(memB v setN||memB v keyN))))=true:=by decide +kernel
theorem qdf {t:List DE} {a:BA} {r:List BA} {l:List BA} (ht:tabB t=true) (har:jo (a::r)=true):isB t (a::r) l=memB (upB a) l:=by
 unfold isB
 rw [ht,har,Bool.true_and,Bool.and_true]
theorem qnx {t:List DE} (ht:tabB t=true) {now:Int} (hn:0<=now/\now<=100000) {a:BA} {r:List BA} (hu:unkB (a::r)=eB) :
  memB (upB a) cmds=true/\GR (wG t now) (upB a) (exeB t now (a::r)).1 (exeB t now (a::r)).2:=by
 have hu':(bif memB (upB a) cmds then (bif jo (a::r) then eB else y5 q1w) else y5 q03)=eB:=hu
 have hne:∀ s:BA,¬ y5 s=eB:=fun s e=>by
  have:=(q8U s).1
  rw [e] at this
  exact absurd this (by decide)
 cases hc:memB (upB a) cmds with
 | false=>rw [hc] at hu'; exact absurd hu' (hne _)
 | true=>
  rw [hc,cT] at hu'
  cases har:jo (a::r) with
  | false=>rw [har] at hu'; exact absurd hu' (hne _)
  | true=>
   refine ⟨rfl,?_⟩
   have hl:=qa3 ht now
   have k5:=List.all_eq_true.1 qnj _ (wO.1 hc)
   have iT:=qdf (l:=txtN) hl har
   have iL:=qdf (l:=lstN) hl har
   have iF:=qdf (l:=fldN) hl har
   have iS:=qdf (l:=setN) hl har
   have iK:=qdf (l:=keyN) hl har
   unfold exeB
   rw [ht,dYT hn.1,dYT hn.2,dYT hu]
   simp only [Bool.and_self,Bool.not_true,cF]
   cases h1:memB (upB a) txtN with
   | true=>
    rw [h1] at iT
    have:(jF (wG t now) (a::r)).2.2=true:=by unfold jF; rw [iT]; exact q8W _ _
    rw [this]
    exact qmL iT
   | false=>
    rw [h1] at iT k5
    have:(jF (wG t now) (a::r)).2.2=false:=by unfold jF; rw [iT]; rfl
    rw [this]
    simp only [cF]
    cases h2:memB (upB a) lstN with
    | true=>
     rw [h2] at iL
     have:(jE (wG t now) (a::r)).2.2=true:=by unfold jE; rw [iL]; exact q8W _ _
     rw [this]
     exact qn9 iL
    | false=>
     rw [h2] at iL k5
     have:(jE (wG t now) (a::r)).2.2=false:=by unfold jE; rw [iL]; rfl
     rw [this]
     simp only [cF]
     cases h3:memB (upB a) fldN with
     | true=>
      rw [h3] at iF
      have:(zX (wG t now) (a::r)).2.2=true:=by unfold zX; rw [iF]; exact q8W _ _
      rw [this]
      exact qmZ iF
     | false=>
      rw [h3] at iF k5
      have:(zX (wG t now) (a::r)).2.2=false:=by unfold zX; rw [iF]; rfl
      rw [this]
      simp only [cF]
      cases h4:memB (upB a) setN with
      | true=>
       rw [h4] at iS
       have:(q0i (wG t now) (a::r)).2.2=true:=by unfold q0i; rw [iS]; exact q8W _ _
       rw [this]
       exact qn2 iS
      | false=>
       rw [h4] at iS k5
       have:(q0i (wG t now) (a::r)).2.2=false:=by unfold q0i; rw [iS]; rfl
       rw [this]
       simp only [cF]
       simp only [Bool.false_or] at k5
       rw [k5] at iK
       exact qmM hn iK
theorem ql4 (a:BA) (r:List BA) (hs:a.size<=60):q9l (a::r)=some ((memB (upB a) cmds&&!(memB (upB a) roN)),()):=by
 rw [qfe,q0Z qjU (by omega) (by decide),oB,q0Z f_ro (by omega) (by decide),oB]
 cases memB (upB a) cmds<;>rfl
theorem q4K (t:List DE) (h:Bd t):jB t t=some (true,()):=by
 rw [qhi t t (by have:=h.len; omega) (fun e he=>by have:=h.its e he; omega),dYT rfl]
theorem qhZ (code:List Int):qaT code=some (true,()):=by
 rw [qer,q9p]
 by_cases hb:(code.length:Int) > 1048576
 ·simp only [oB,dYT hb,cT]
 obtain ⟨t,now,args,hD,ht,n0,n1,al,hsz⟩:=qi4 code (by omega)
 have hn:0<=now/\now<=100000:=by omega
 have hB:=z8 ht.tab
 have hw:wB args<=1048576:=wsm (by omega) fun s h=>by have:=hsz s h; omega
 obtain ⟨eS,eI⟩:=qa7 t now args hB hw
 have hU:=q91 args (by omega) (fun s h=>by have:=hsz s h; omega)
 have hL:=qa3 ht.tab now
 have hBA:Bd (exeB t now args).1:=by
  rcases qbD t now args with e | e
  ·rw [e]; exact hB
  ·exact z8 e
 simp only [oB,dYF hb,cF,hD,eI,eS,qN,decide_true,Bool.not_true,q4K _ hBA,hU]
 by_cases hu:unkB args=eB
 ·simp only [dYT hu,Bool.not_true,cF]
  match args,hu,hsz with
  | [],hu,_=>exact absurd hu (by show ¬ y5 q03=eB; intro e; have:=(q8U q03).1; rw [e] at this; exact absurd this (by decide))
  | a::r,hu,hsz=>
   obtain ⟨hc,hg⟩:=qnx ht.tab hn hu
   have hl2:=qbf t now hB
   rw [ql4 a r (hsz a (List.mem_cons_self ..)),hc]
   simp only [oB,Bool.true_and,Bool.not_not]
   cases hr:memB (upB a) roN with
   | true=>
    simp only [cT,hl2,oB]
    rw [hg.ro hr,q4K _ (z8 hL)]
    rfl
   | false=>
    have p0:(decide ((0:Int)<=0)&&decide (0 < ((exeB t now (a::r)).2.size:Int)))=true:=by rw [dYT (show (0:Int) < ((exeB t now (a::r)).2.size:Int) by have:=hg.ne; omega)]; rfl
    simp only [cF,p0,cT,Int.toNat_zero]
    by_cases h45:bt (exeB t now (a::r)).2 0=45
    ·have:(bt (exeB t now (a::r)).2 0==45)=true:=by rw [h45]; rfl
     simp only [this,cT,hl2,oB]
     rw [hg.bad h45,q4K _ (z8 hL)]
     rfl
    ·have:(bt (exeB t now (a::r)).2 0==45)=false:=by rw [wL]; exact dYF h45
     simp only [this,cF]
     have hT:tabB (exeB t now (a::r)).1=true:=(qbD t now (a::r)).elim (fun e=>by rw [e]; exact ht.tab) id
     rw [q4v _ hBA,hT]
     rfl
 ·simp only [dYF hu,Bool.not_false,cT]
  have he:(exeB t now args).1=t:=by
   unfold exeB
   rw [ht.tab,dYT hn.1,dYT hn.2,dYF hu]
   rfl
  rw [he,q4K t hB]
  rfl
end Go.Den.S
