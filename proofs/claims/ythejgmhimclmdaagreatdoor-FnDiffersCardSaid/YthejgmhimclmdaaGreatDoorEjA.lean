/- EjA: equations of the functions of this seat as the executor tells them, or plain facts about them. Conditions: none here. -/
import Derived.Test.YthejgmhimclmdaaGreatDoorEhQ
set_option linter.all false
open Int (le_refl tmod)
open List (mem_singleton)
namespace Go.Den.S
open Go Go.Den
set_option maxRecDepth 4000
abbrev Cur:Type:=List Int×Int×Int
structure Cu (c:Cur):Prop where
 len:c.1.length<=1048576
 at0:0<=c.2.1
 at1:c.2.1<=(c.1.length:Int)
theorem qfX (x:Int):0<=w64 (andI .i64 x 255)/\w64 (andI .i64 x 255)<=255:=by
 have h:andI .i64 x 255=(((BitVec.ofInt 64 x).toNat &&& 255:Nat):Int):=by
  rw [qm3,BitVec.toNat_and]; rfl
 have h2:(BitVec.ofInt 64 x).toNat &&& 255<=255:=Nat.and_le_right;rw [h,show w64 _=_ from qo (by omega) (by omega)]
 omega
theorem q8F {c:Cur} (h:Cu c):∃ (x:Int) (c':Cur),q14 c=some (x,(c',()))/\0<=x/\x<=255/\Cu c':=by
 have h0:=h.at0;have h1:=h.at1;have hl:=h.len;rw [qha];by_cases hi:c.2.1 < (c.1.length:Int)
 ·simp only [dYT hi,dYT h0,aS,cT];refine ⟨_,_,rfl,(qfX _).1,(qfX _).2,⟨hl,?_,?_⟩⟩
  ·show 0<=w64 (c.2.1+1);rw [show w64 (c.2.1+1)=c.2.1+1 from qo (by omega) (by omega)]; omega
  ·show w64 (c.2.1+1)<=(c.1.length:Int);rw [show w64 (c.2.1+1)=c.2.1+1 from qo (by omega) (by omega)]; omega
 ·simp only [dYF hi,cF];exact ⟨_,_,rfl,(qfX _).1,(qfX _).2,⟨hl,h0,h1⟩⟩
theorem qeh {x n:Int} (hx:0<=x) (hn:1<=n):0<=tmod x n/\tmod x n < n:=by
 rw [Int.tmod_eq_emod_of_nonneg hx];exact ⟨Int.emod_nonneg _ (by omega),Int.emod_lt_of_pos _ (by omega)⟩
theorem bneZ {n:Int} (h:1<=n):(n != 0)=true:=by rw [qm7,dYF (by omega)]; rfl
theorem q6j {c:Cur} (h:Cu c) (n:Int) (h1:1<=n) (h2:n<=1000000):∃ (x:Int) (c':Cur),zL c n=some (x,(c',()))/\0<=x/\x < n/\Cu c':=by
 rw [qfI];simp only [dYF (show ¬ n<=0 by omega),cF,bneZ h1,cT]
 by_cases hn:n<=256
 ·obtain ⟨x,c1,e1,a1,b1,k1⟩:=q8F h;simp only [dYT hn,cT,e1,oB];exact ⟨_,_,rfl,(qeh a1 h1).1,(qeh a1 h1).2,k1⟩
 ·obtain ⟨x,c1,e1,a1,b1,k1⟩:=q8F h;obtain ⟨y,c2,e2,a2,b2,k2⟩:=q8F k1;obtain ⟨z,c3,e3,a3,b3,k3⟩:=q8F k2;obtain ⟨w,c4,e4,a4,b4,k4⟩:=q8F k3;simp only [dYF hn,cF,e1,e2,e3,e4,oB];have w1:w64 (x * 16777216)=x * 16777216:=qo (by omega) (by omega)
  have w2:w64 (y * 65536)=y * 65536:=qo (by omega) (by omega)
  have w3:w64 (z * 256)=z * 256:=qo (by omega) (by omega)
  have w4:w64 (x * 16777216+y * 65536)=x * 16777216+y * 65536:=qo (by omega) (by omega)
  have w5:w64 (x * 16777216+y * 65536+z * 256)=x * 16777216+y * 65536+z * 256:=qo (by omega) (by omega)
  have w6:w64 (x * 16777216+y * 65536+z * 256+w)=x * 16777216+y * 65536+z * 256+w:=qo (by omega) (by omega)
  rw [w1,w2,w3,w4,w5,w6];exact ⟨_,_,rfl,(qeh (by omega) h1).1,(qeh (by omega) h1).2,k4⟩
theorem qb1 {c:Cur} (h:Cu c) (n:Int) (h1:1<=n) (h2:n<=1000000):∃ (b:Bool) (c':Cur),jd c n=some (b,(c',()))/\Cu c':=by
 obtain ⟨x,c1,e1,_,_,k1⟩:=q6j h n h1 h2;rw [qhb,e1];exact ⟨_,_,rfl,k1⟩
theorem qru {c:Cur} (h:Cu c) (l:List BA) (h1:1<=l.length) (h2:l.length<=1000):∃ (x:BA) (c':Cur),q5O c l=some (x,(c',()))/\x∈l/\Cu c':=by
 obtain ⟨x,c1,e1,a1,b1,k1⟩:=q6j h (l.length:Int) (by omega) (by omega)
 rw [qhc,e1];simp only [oB,dYT a1,dYT b1,aS,cT];exact ⟨_,_,rfl,q1K (by omega),k1⟩
theorem qkW (code:List Int) (hl:code.length<=1048576):∀ (m i:Nat) (x:Int),m+i=code.length->∃ c:Cur,q3R code x (i:Int)=some (c,())/\Cu c/\c.1=code
 | 0,i,x,hm=>by
  rw [q8c];simp only [dYF (show ¬ (i:Int) < (code.length:Int) by omega),cF]
  exact ⟨_,rfl,⟨hl,le_refl _,by show (0:Int)<=(code.length:Int); omega⟩,rfl⟩
 | m+1,i,x,hm=>by
  rw [q8c];simp only [dYT (show (i:Int) < (code.length:Int) by omega),cT]
  by_cases h4:(i:Int) < 4000
  ·simp only [dYT h4,cT,dYT (show (0:Int)<=(i:Int) by omega),aS,show w64 ((i:Int)+1)=((i+1:Nat):Int) from ql (by omega)]
   exact qkW code hl m (i+1) _ (by omega)
  ·simp only [dYF h4,cF];exact ⟨_,rfl,⟨hl,le_refl _,by show (0:Int)<=(code.length:Int); omega⟩,rfl⟩
theorem qsf (code:List Int) (hl:code.length<=1048576):∃ c:Cur,qau code=some (c,())/\Cu c:=by
 rw [qik];obtain ⟨c,e,k,_⟩:=qkW code hl code.length 0 (w64 (12701+(code.length:Int))) (by omega)
 exact ⟨c,e,k⟩
def q6T:List BA:=[c_a,c_b,c_c,c_d,qnc,c_kk]
theorem qoN:((List.range 6).all fun i=>(q6T.take i).all fun s=>blt s (q6T.getD i eB))=true:=by decide +kernel
theorem qq3 {i:Nat} (hi:i < 6) {s:BA} (hs:s∈q6T.take i):blt s (q6T.getD i eB)=true:=
 List.all_eq_true.1 (List.all_eq_true.1 qoN i (List.mem_range.2 hi)) s hs
theorem qgK {i:Nat} (h:i < 6):q6T.take (i+1)=q6T.take i++[q6T.getD i eB]:=by
 rw [List.take_add_one,List.getD_eq_getElem?_getD,List.getElem?_eq_getElem (show i < q6T.length from h)]; rfl
structure LI (i:Nat) (cs:List Chg):Prop where
 asc:AscK cs
 key:∀ c∈cs,c.1∈q6T.take i
 val:∀ c∈cs,c.2.1.size<=11/\(c.2.2=true->c.2.1.size=0)
 len:cs.length<=i
theorem LI.nil:LI 0 []:=⟨qhA,fun c h=>(by cases h),fun c h=>(by cases h),Nat.le_refl _⟩
theorem LI.skip {i:Nat} {cs:List Chg} (h:LI i cs) (hi:i < 6):LI (i+1) cs:=
 ⟨h.asc,fun c hc=>by rw [qgK hi]; exact List.mem_append_left _ (h.key c hc),h.val,Nat.le_succ_of_le h.len⟩
theorem LI.add {i:Nat} {cs:List Chg} (h:LI i cs) (hi:i < 6) {v:BA} {g:Bool} (hv:v.size<=11/\(g=true->v.size=0)):LI (i+1) (cs++[(q6T.getD i eB,(v,g))]) where
 asc:=List.pairwise_append.2 ⟨h.asc,List.pairwise_singleton ..,fun a ha b hb=>by
  rw [mem_singleton] at hb;subst hb;exact qq3 hi (h.key a ha)⟩
 key:=fun c hc=>by
  rw [qgK hi];rcases List.mem_append.1 hc with hc | hc
  ·exact List.mem_append_left _ (h.key c hc)
  ·rw [mem_singleton] at hc;subst hc;exact List.mem_append_right _ (mem_singleton.2 rfl)
 val:=fun c hc=>by
  rcases List.mem_append.1 hc with hc | hc
  ·exact h.val c hc
  ·rw [mem_singleton] at hc;subst hc;exact hv
 len:=by
  have:=h.len;rw [lA,lS]; omega
structure Gc (cs:List Chg):Prop where
 l1:1<=cs.length
 l6:cs.length<=6
 asc:AscK cs
 key:∀ c∈cs,1<=c.1.size/\c.1.size<=3
 val:∀ c∈cs,c.2.1.size<=11/\(c.2.2=true->c.2.1.size=0)
theorem qr8 {cs:List Chg} {b:Nat} (h:∀ c∈cs,(chL c).length<=b):(cs.flatMap chL).length<=b * cs.length:=by
 induction cs with
 | nil=>exact Nat.zero_le _
 | cons c cs ih=>
  have h1:=h c (List.mem_cons_self ..);have h2:=ih fun x hx=>h x (List.mem_cons_of_mem _ hx)
  rw [List.flatMap_cons,lA,List.length_cons,Nat.mul_succ]; omega
end Go.Den.S
namespace Go.Den.S
open Go Go.Den
open Classical
set_option maxRecDepth 4000
structure Rt (n:Nat) (e:Eng):Prop where
 ok:eOkP e
 len:e.1.length<=n+1
 seq:e.2.2.2.1<=(n:Int)
 room:(zO e.1:Int)<=e.2.1
theorem Rt.mono {n m:Nat} {e:Eng} (h:Rt n e) (k:n<=m):Rt m e:=⟨h.ok,by have:=h.len; omega,by have:=h.seq; omega,h.room⟩
noncomputable def fmE (room:Int):Eng:=([(nmL 0,(bOf (qL 0 0),((bOf (qL 0 0)).size:Int)))],(room,(0,(0,[]))))
theorem qmq:Says [(nmL 0,(bOf (qL 0 0),((bOf (qL 0 0)).size:Int)))] [0] fun _=>(0,[]) where
 lt:=fun n hn=>by rw [mem_singleton.1 hn]; omega
 asc:=List.pairwise_singleton ..
 ne:=by simp
 has:=fun n hn h=>by
  left
  unfold hasN at h;obtain ⟨v,hv⟩:=Option.isSome_iff_exists.1 h;have:=(yO (List.pairwise_singleton ..)).1 hv;rw [mem_singleton] at this;have e:=(Prod.mk.inj this).1;rw [q4S hn (by omega) e]; exact mem_singleton.2 rfl
 file:=fun n hn=>by
  rw [mem_singleton.1 hn];refine ⟨bOf (qL 0 0),(yO (List.pairwise_singleton ..)).2 (mem_singleton.2 rfl),?_⟩;simp [bats]
 hd:=fun m hm n hn=>Nat.zero_le _
 bt:=fun n hn b hb=>by cases hb
 up:=rfl
theorem qgd:(bOf (qL 0 0)).size=8:=by rw [qz]; exact q9H (by omega) (by omega)
theorem qsp:dOkB [(nmL 0,(bOf (qL 0 0),((bOf (qL 0 0)).size:Int)))]=true:=by
 have h:=qgd;refine qK.2 ⟨by simp,fun f hf=>?_,List.pairwise_singleton ..⟩
 rw [mem_singleton.1 hf];have hn:=qft 0;exact q6t hn.1 (by omega) (by omega) (by omega) (le_refl _)
theorem qko:Clean [(nmL 0,(bOf (qL 0 0),((bOf (qL 0 0)).size:Int)))] [0]/\allB [(nmL 0,(bOf (qL 0 0),((bOf (qL 0 0)).size:Int)))] [0]=[]:=by
 obtain ⟨h1,_,h3⟩:=qmq.clean (q7q.2 ⟨qsp,fun f hf=>by rw [mem_singleton.1 hf]⟩) (fun n hn h=>by
  rcases qmq.has n hn h with h | ⟨m,_,h⟩
  ·exact h
  ·exact absurd h (Nat.not_lt_zero _)) (zq.2 fun x hx=>by rw [mem_singleton.1 hx]; exact qe9 0)
 exact ⟨h1,h3⟩
theorem qpT {room:Int} (h1:400<=room) (h2:room<=20000):Rt 0 (fmE room):=by
 obtain ⟨C,ha⟩:=qko;refine ⟨q6q.2 ⟨by show 100<=room; omega,h2,[0],C,?_⟩,by show [_].length<=_; simp,le_refl _,?_⟩
 ·unfold fmE mkE;have hb:batD [(nmL 0,(bOf (qL 0 0),((bOf (qL 0 0)).size:Int)))] 0=[]:=by
   have:=ha;unfold allB at this;simpa using this
  have hd:dirD [(nmL 0,(bOf (qL 0 0),((bOf (qL 0 0)).size:Int)))] [0]=[]:=by
   rw [qdU,List.flatMap_cons,List.flatMap_nil,qb2,hb]; rfl
  rw [ha,hd]; rfl
 ·show ((zO [(nmL 0,(bOf (qL 0 0),((bOf (qL 0 0)).size:Int)))]:Nat):Int)<=room;rw [q1C];show (((bOf (qL 0 0)).size+0:Nat):Int)<=room;rw [qgd]; omega
theorem qoB {room:Int} (h1:100<=room) (h2:room<=20000):q44 room=some ((fmE room,true),()):=by
 rw [qbX,jg,q1u,dYT ⟨h1,h2⟩];have hh:htO 0 0=(bOf (qL 0 0),true):=by unfold htO; rw [if_pos (by omega)]; rfl
 have hn:nmO 0=nmL 0:=q0d (n:=0) (by omega)
 simp only [oB,nT,cF];rw [q4H,hh];simp only [oB];rw [zC,hn]; rfl
theorem qi5 {e:Eng} (h:eOkP e) {cs:List Chg} (h0:(puO e cs).2.2=0):∃ xs x l',batT (e.2.2.2.1+1,cs)=true/\putA e.1 (segN e.1) (e.2.2.2.1+1,cs)=some xs/\allA e.1 xs x/\(zO x:Int)<=e.2.1/\Clean x l'/\allB x l'=allB e.1 (segN e.1)++[(e.2.2.2.1+1,cs)]/\puO e cs=(mkE x x e.2.1 l',(xs,0)):=by
 obtain ⟨r1,r2,C,_,hq,_⟩:=q46 h;unfold puO at h0 ⊢;by_cases hb:batT (e.2.2.2.1+1,cs)=true
 ·rw [dif_pos ⟨h,hb⟩] at h0 ⊢;cases hp:putA e.1 (segN e.1) (e.2.2.2.1+1,cs) with
  | none=>rw [hp] at h0; exact absurd h0 (show ¬ (2:Int)=0 by decide)
  | some xs=>
   rw [hp] at h0;rw [q9W] at h0 ⊢;cases hg:(decide ((y9 e.1 xs).2 < xs.length)||decide ((zO (y9 e.1 xs).1:Int) > e.2.1)) with
   | true=>rw [hg] at h0; exact absurd h0 (show ¬ (2:Int)=0 by decide)
   | false=>
    rw [Bool.or_eq_false_iff,decide_eq_false_iff_not,decide_eq_false_iff_not] at hg;have hle:=q8D xs e.1;have hall:allA e.1 xs (y9 e.1 xs).1:=qjZ.2 (by omega)
    obtain ⟨l',C',ha⟩:=qla C hb (by rw [hq]; show _ < q1w _+1; omega) hp hall
    refine ⟨xs,_,l',hb,rfl,hall,by omega,C',ha,?_⟩
    simp only [cF];rw [qg6 C' r1 r2]
 ·rw [dif_neg fun c=>hb c.2] at h0
  exact absurd h0 (show ¬ (1:Int)=0 by decide)
theorem ql7 {d x:List Fil} {l:List Nat} (C:Clean d l) {b:Bat} {xs:List Act} (ha:putA d l b=some xs) (hx:allA d xs x):x.length<=d.length+1:=by
 unfold putA at ha;split at ha
 ·have ha:=(Option.some.inj ha).symm;rw [ha] at hx;obtain ⟨t1,t2⟩:=C.txt (q6D C.ne);obtain ⟨d1,a1,hx⟩:=qbh hx;obtain ⟨_,o1⟩:=qfW a1 (qcV t1);have hs:=qbN C.asc o1;rw [qf1,qz,lA,<- yj] at hs;obtain ⟨_,o2,b1,b2⟩:=q9T C (b:=b) t1 hs;have hx':=q8E (wK a1 hx) (wK b1 (wK b2 (q4s _)));rw [hx']; exact q0E _ _ _
 ·split at ha
  ·rename_i hm;have ha:=(Option.some.inj ha).symm;rw [ha] at hx;obtain ⟨d1,a1,hx⟩:=qbh hx;obtain ⟨_,o1⟩:=qfW a1 (qcU C.new);have hs:=qbN C.asc o1;rw [qz] at hs;have hl:=(qK.1 o1).1;rw [qfv,qmd C.new] at hl;obtain ⟨_,_,o3,b1,b2,b3⟩:=qdn C (by omega) hs (l.getLastD 0+1)
   have hx':=q8E (wK a1 hx) (wK b1 (wK b2 (wK b3 (q4s _))));rw [hx']; exact q0E _ _ _
  ·cases ha
theorem Rt.put {n:Nat} {e:Eng} (h:Rt n e) {cs:List Chg} (h0:(puO e cs).2.2=0):Rt (n+1) (puO e cs).1:=by
 obtain ⟨xs,x,l',hb,hp,hx,hs,C',ha,he⟩:=qi5 h.ok h0;obtain ⟨r1,r2,C,_,hq,_⟩:=q46 h.ok;have hlen:=ql7 C hp hx;have hn:=h.len;have hsq:=h.seq;rw [he];refine ⟨q6q.2 ⟨r1,r2,l',C',rfl⟩,by show x.length<=_; omega,?_,hs⟩
 show q1w (allB x l')<=_;rw [ha,qgN];show e.2.2.2.1+1<=_;omega
theorem qrY (a b:Chg):(decide (a.1=b.1)&&(decide (a.2.1=b.2.1)&&((a.2.2==b.2.2)&&true)))=decide (a=b):=by
 obtain ⟨a0,a1,a2⟩:=a;obtain ⟨b0,b1,b2⟩:=b;rw [Bool.eq_iff_iff];simp only [Bool.and_eq_true,decide_eq_true_eq,beq_iff_eq,and_true,Prod.mk.injEq]
theorem qic (a b:List Chg) (ha:a.length<=1000000000):q4D a b=some (decide (a=b),()):=by
 rw [qcz];by_cases hl:a.length=b.length
 ·have e:((a.length:Int) != (b.length:Int))=false:=by simp [hl]
  simp only [e,cF];refine qaH (fun i=>q1c a b i) a b dC hl (fun i hi'=>?_) ?_
  ·rw [q4d];have e:w64 ((i:Int)+1)=(i:Int)+1:=qo (by omega) (by omega)
   have h1:decide ((i:Int) < (a.length:Int))=true:=dYT (by omega)
   have h2:decide ((i:Int) < (b.length:Int))=true:=dYT (by omega)
   have h3:decide (0<=(i:Int))=true:=dYT (by omega)
   simp only [h1,h2,h3,e,aS,cT,tN,y5,qrY];by_cases h:a.getD i dC=b.getD i dC
   ·rw [dYT h,if_pos h,nT,cF]
   ·rw [dYF h,if_neg h,nF,cT]
  ·rw [q4d];simp
 ·have e:((a.length:Int) != (b.length:Int))=true:=by simp; omega
  simp only [e,cT];rw [dYF fun h=>hl (by rw [h])]
theorem qpD (m:List (BA×BA)):(chgs m).length=m.length:=by unfold chgs; rw [List.length_map]
theorem qoi (x:BA×BA) (r:List (BA×BA)):chgs (x::r)=(x.1,(x.2,false))::chgs r:=rfl
theorem qqS {e:Eng} (h:eOkP e):coO e=(chgs (conD e.1 (segN e.1)),true):=by
 obtain ⟨r1,r2,C,_,_,_,he⟩:=q46 h;rw [he];exact qs0 C r1 r2
theorem qrX (code:List Int):qfq code=some (decide ((code.length:Int) > 1048576),()):=qlR code
end Go.Den.S
