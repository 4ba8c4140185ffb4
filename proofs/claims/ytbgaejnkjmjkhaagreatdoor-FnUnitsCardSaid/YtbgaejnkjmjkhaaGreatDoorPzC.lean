/- PzC: equations of the functions of this seat as the executor tells them, or plain facts about them. Conditions: none here. -/
import Derived.Test.YtbgaejnkjmjkhaaGreatDoorPzA
set_option linter.all false
namespace Go.Den.S
open Go Go.Den
theorem qis {t:List DE}:tabB t=true↔t.length<=20/\(∀ e∈t,1<=e.1.size/\e.1.size<=20/\valB e.2=true)/\Asc t:=by
 constructor
 ·intro h
  refine ⟨q0j h,fun e he=>?_,q1x h⟩
  obtain ⟨i,hi,rfl⟩:=List.mem_iff_getElem.1 he
  have:=qgE h hi
  unfold enB at this
  rw [show ge t i=t[i] from wS hi] at this
  simp only [Bool.and_eq_true,decide_eq_true_eq] at this
  exact ⟨this.1.1.1,this.1.1.2,this.1.2⟩
 ·rintro ⟨h1,h2,h3⟩
  unfold tabB
  simp only [Bool.and_eq_true,decide_eq_true_eq,List.all_eq_true,List.mem_range]
  refine ⟨h1,fun i hi=>?_⟩
  unfold enB
  rw [show ge t i=t[i] from wS hi]
  obtain ⟨k1,k2,k3⟩:=h2 _ (List.getElem_mem hi)
  simp only [k1,k2,k3,decide_true,Bool.and_self,Bool.true_and,Bool.or_eq_true,Bool.not_eq_true',decide_eq_false_iff_not]
  by_cases hz:0 < i
  ·right
   rw [show ge t (i - 1)=t[i - 1] from wS (by omega)]
   exact (List.pairwise_iff_getElem.1 h3) (i - 1) i (by omega) hi (by omega)
  ·left; exact hz
def q3O (now:Int) (e:DE):Bool:=decide (e.2.2.1=0)||decide (now < e.2.2.1)
def wG (t:List DE) (now:Int):List DE:=t.filter (q3O now)
theorem qa3 {t:List DE} (h:tabB t=true) (now:Int):tabB (wG t now)=true:=by
 obtain ⟨h1,h2,h3⟩:=qis.1 h
 exact qis.2 ⟨Nat.le_trans (List.length_filter_le _ _) h1,fun e he=>h2 e (List.mem_filter.1 he).1,h3.filter _⟩
theorem qbf (t:List DE) (now:Int) (h:Bd t):q7I t now=some (wG t now,()):=by
 have hl:=h.len
 rw [qh1]
 have:=wX (fun acc i=>q2k t now acc i) t dflt (fun a e=>bif q3O now e then a++[e] else a) (fun acc=>some (acc,())) (fun acc i=>acc.length<=i)
  (fun acc i hi hI=>by
   have hm:=h.its _ (yj (d:=dflt) hi)
   constructor
   ·conv=>lhs; rw [q96]
    simp only [dYT (show (i:Int) < (t.length:Int) by omega),dYT (show (0:Int)<=(i:Int) by omega),Bool.and_self,cT,Int.toNat_natCast,wL,qI (show (acc.length+1) * 72<=140737488355328 by omega),show w64 ((i:Int)+1)=((i+1:Nat):Int) from qz (by omega),q6o (t.getD i dflt).2 (by omega),oB]
    unfold q3O
    by_cases h1:(t.getD i dflt).2.2.1=0
    ·simp only [dYT h1,cT,Bool.true_or]
    ·by_cases h2:now < (t.getD i dflt).2.2.1
     ·simp only [dYF h1,gt_iff_lt,dYT h2,cT,cF,Bool.false_or]
     ·simp only [dYF h1,gt_iff_lt,dYF h2,cF,Bool.false_or]
   ·cases q3O now (t.getD i dflt)<;>simp<;>omega)
  (fun acc hI=>by
   show q2k t now acc (t.length:Int)=_
   rw [q96]
   simp only [Int.lt_irrefl,decide_false,cF]) [] (by simp)
 rw [this,q79 (q3O now) (fun e:DE=>e),List.nil_append,List.map_id']
 rfl
theorem qhF (e:DE) (now:Int):q77 e now=some (!(q3O now e),()):=by
 rw [qeF,bneI]
 unfold q3O
 by_cases h:e.2.2.1=0
 ·simp only [dYT h,Bool.not_true,cF,Bool.true_or]
 ·by_cases h2:now < e.2.2.1
  ·simp only [dYF h,Bool.not_false,cT,Bool.false_or,dYT h2,dYF (show ¬ e.2.2.1<=now by omega),Bool.not_true]
  ·simp only [dYF h,Bool.not_false,cT,Bool.false_or,dYF h2,dYT (show e.2.2.1<=now by omega)]
theorem qhk (t:List DE) (now:Int) (h:Bd t):qaQ t now=some (wG t now,()):=by
 have hl:t.length<=4194304:=h.len
 rw [qhp,q17 t h,oB,q5Q,q5Y]
 have hi:=qak (fun i=>za t (t.length:Int) i now) (fun e:DE=>!(q3O now e)) dflt t (fun n=>some (n,((),())))
  (fun i hi=>by
   conv=>lhs; rw [q1W]
   have e1:decide ((i:Int) < (t.length:Int))=true:=dYT (by omega)
   have e2:decide (0<=(i:Int))=true:=dYT (by omega)
   have e3:w64 ((i:Int)+1)=((i+1:Nat):Int):=qz (by omega)
   simp only [e1,e2,e3,Bool.and_self,cT,Int.toNat_natCast,qhF (t.getD i dflt) now,oB])
  (by
   show za t (t.length:Int) (t.length:Int) now=_
   rw [q1W]
   simp only [Int.lt_irrefl,decide_false,cF])
 have hf:wG t now=t.filter fun e=>!(!(q3O now e)):=by
  simp only [wG,Bool.not_not]
 have hd:(bif idxI (fun e:DE=>!(q3O now e)) t 0==-1 then some (t,((),())) else wh t (idxI (fun e:DE=>!(q3O now e)) t 0) (w64 (idxI (fun e:DE=>!(q3O now e)) t 0+1)) now)=some (wG t now,((),())):=by
  rw [hf]
  rcases q95 (fun e:DE=>!(q3O now e)) t 0 with ⟨h1,h2⟩ | ⟨j,h1,h2,h3,h4⟩
  ·rw [h1,filter_none h2]; rfl
  ·rw [h2]
   have hne:((((0+j:Nat):Int))==-1)=false:=by rw [wL]; exact dYF (by omega)
   rw [hne,cF,Nat.zero_add,show w64 ((j:Int)+1)=((j+1:Nat):Int) from qz (by omega)]
   exact qfd (fun xs i j=>wh xs i j now) (fun e:DE=>!(q3O now e)) dflt t (fun l=>some (l,((),())))
    (fun xs i j hj hij hxs _=>by
     conv=>lhs; rw [q1J]
     have e1:decide ((j:Int) < (xs.length:Int))=true:=dYT (by omega)
     have e2:decide (0<=(j:Int))=true:=dYT (by omega)
     have e3:w64 ((j:Int)+1)=((j+1:Nat):Int):=qz (by omega)
     have e4:w64 ((i:Int)+1)=((i+1:Nat):Int):=qz (by omega)
     have e5:decide ((i:Int) < (xs.length:Int))=true:=dYT (by omega)
     have e6:decide (0<=(i:Int))=true:=dYT (by omega)
     simp only [e1,e2,e3,e4,e5,e6,Bool.and_self,cT,Int.toNat_natCast,qhF (xs.getD j dflt) now,oB])
    (fun xs i hi hxs=>by
     show wh xs (i:Int) (t.length:Int) now=_
     rw [q1J,<- hxs]
     have hz:(((List.take i xs)++(List.replicate (xs.length - i) dflt))++(List.drop xs.length xs)).length=xs.length:=by
      simp only [List.length_append,List.length_take,List.length_replicate,List.length_drop]; omega
     have hz':(((List.take i xs)++(List.replicate (xs.length - i) (eB,((0:Int),((0:Int),(eB,([]:List BA)))))))++(List.drop xs.length xs)).length=xs.length:=hz
     simp only [Int.lt_irrefl,decide_false,cF,dYT (show (0:Int)<=(i:Int) by omega),dYT (show (i:Int)<=(xs.length:Int) by omega),Int.le_refl,decide_true,Bool.and_self,cT,Int.toNat_natCast,hz',show Int.toNat 0=0 from rfl,Nat.sub_zero,List.drop_zero]
     rw [List.append_assoc,List.take_append_of_le_length (by rw [List.length_take]; omega),List.take_take,Nat.min_self])
    j h1 h3 h4
 rw [show za t (t.length:Int) 0 (now,()).1=some (idxI (fun e:DE=>!(q3O now e)) t 0,((),())) from hi]
 simp only [oB]
 rw [hd]; rfl
abbrev noR:RS:=([],(eB,false))
def q0i (t:List DE) (args:List BA):RS:=bif isB t args setN then zJ (match args with | a::k::vals=>setD t (upB a) k vals | _=>(t,(eB,false))) t else noR
def zX (t:List DE) (args:List BA):RS:=bif isB t args fldN then zJ (match args with | a::k::vals=>fldD t (upB a) k vals | _=>(t,(eB,false))) t else noR
def jE (t:List DE) (args:List BA):RS:=bif isB t args lstN then zJ (match args with | a::k::vals=>lstD t (upB a) k vals | _=>(t,(eB,false))) t else noR
def jF (t:List DE) (args:List BA):RS:=bif isB t args txtN then zJ (match args with
 | a::r=>bif decide (upB a=wV) then (t,(arrB (q2C t r),false)) else bif decide (upB a=yX) then (q7f r t,(jV c_OK,false)) else match r with | k::vals=>txtD t (upB a) k vals | _=>(t,(eB,false))
 | _=>(t,(eB,false))) t else noR
def q4o (t:List DE) (now:Int) (args:List BA):RS:=bif (decide (0<=now)&&decide (now<=100000))&&isB t args keyN then zJ (match args with
 | a::r=>bif decide (upB a=zf) then (t,(jV q5j,false)) else bif decide (upB a=zn) then (t,(arrB ((q31 t).map zI),false)) else bif decide (upB a=yT) then (t,(numB (t.length:Int),false)) else bif decide (upB a=yD) then ([],(jV c_OK,false)) else match r with | k::vals=>keyD t now (upB a) k vals | _=>(t,(eB,false))
 | _=>(t,(eB,false))) t else noR
theorem q7F {α:Type} {f g:Option (α×Unit)} {r x:α} (hf:f=some (r,())) (hg:g=some (r,())) (h:f=some (x,())):f=some (x,())/\g=some (x,()):=
 ⟨h,hg.trans (hf.symm.trans h)⟩
theorem ql0 (t:List DE) (args:List BA) (h:Bd t) (ha:wB args<=1048576):q1V t args=some (q0i t args,())/\q7a t args=some (q0i t args,()):=by
 obtain ⟨r,_,hS,hI⟩:=qle t args h ha
 refine q7F hS hI ?_
 have hl:args.length<=1048576:=q0q ha
 have hs:∀ s∈args,s.size<=1048576:=fun s hs=>q2p ha hs
 unfold q0i
 cases hp:isB t args setN with
 | false=>
  rw [q6W,show yS t args [jN,q08,wu,q06,q0w]=some (isB t args setN,()) from zh t _ _ h (by omega) (fun s h=>by have:=hs s h; omega) (by decide),hp]
  rfl
 | true=>
  have hp':=hp
  unfold isB at hp'
  simp only [Bool.and_eq_true] at hp'
  obtain ⟨ht,hm,har⟩:=hp'
  match args,hl,hs,hp,hm,har with
  | a::r,hl,hs,hp,hm,har=>
   obtain ⟨k,vals,rfl,h2⟩:=qcC (wO.1 hm) har
   have hlen:(a::k::vals).length=vals.length+2:=rfl
   have hks:k.size<=4194304:=by have:=hs k (List.mem_cons_of_mem _ (List.mem_cons_self ..)); omega
   exact q9W t ht k vals (by omega) a (wO.1 hm) hp hks (fun s h=>by have:=hs s h; omega) h2 (by omega)
theorem qic (t:List DE) (args:List BA) (h:Bd t) (ha:wB args<=1048576):q2H t args=some (zX t args,())/\q5p t args=some (zX t args,()):=by
 obtain ⟨r,_,hS,hI⟩:=qib t args h ha
 refine q7F hS hI ?_
 have hl:args.length<=1048576:=q0q ha
 have hs:∀ s∈args,s.size<=1048576:=fun s hs=>q2p ha hs
 unfold zX
 cases hp:isB t args fldN with
 | false=>
  rw [q5x,show yS t args [jm,jL,q0I,q1M,jD,q54]=some (isB t args fldN,()) from zh t _ _ h (by omega) (fun s h=>by have:=hs s h; omega) (by decide),hp]
  rfl
 | true=>
  have hp':=hp
  unfold isB at hp'
  simp only [Bool.and_eq_true] at hp'
  obtain ⟨ht,hm,har⟩:=hp'
  match args,hl,hs,hp,hm,har with
  | a::r,hl,hs,hp,hm,har=>
   obtain ⟨k,vals,rfl,h2⟩:=qcL (wO.1 hm) har
   have hlen:(a::k::vals).length=vals.length+2:=rfl
   have hks:k.size<=4194304:=by have:=hs k (List.mem_cons_of_mem _ (List.mem_cons_self ..)); omega
   exact q8K t ht k vals (by omega) a hp hks (fun s h=>by have:=hs s h; omega) h2 (by omega)
theorem qjY (t:List DE) (args:List BA) (h:Bd t) (ha:wB args<=1048576):q4B t args=some (jE t args,())/\q61 t args=some (jE t args,()):=by
 obtain ⟨r,_,hS,hI⟩:=qkc t args h ha
 refine q7F hS hI ?_
 have hl:args.length<=1048576:=q0q ha
 have hs:∀ s∈args,s.size<=1048576:=fun s hs=>q2p ha hs
 unfold jE
 cases hp:isB t args lstN with
 | false=>
  rw [q60,show yS t args [zH,zK,q2l,q1g,q1I,j5,zm]=some (isB t args lstN,()) from zh t _ _ h (by omega) (fun s h=>by have:=hs s h; omega) (by decide),hp]
  rfl
 | true=>
  have hp':=hp
  unfold isB at hp'
  simp only [Bool.and_eq_true] at hp'
  obtain ⟨ht,hm,har⟩:=hp'
  match args,hl,hs,hp,hm,har with
  | a::r,hl,hs,hp,hm,har=>
   obtain ⟨k,vals,rfl,h2⟩:=qcU (wO.1 hm) har
   have hlen:(a::k::vals).length=vals.length+2:=rfl
   have hks:k.size<=4194304:=by have:=hs k (List.mem_cons_of_mem _ (List.mem_cons_self ..)); omega
   exact q8T t ht k vals (by omega) a hp (wO.1 hm) hks (fun s h=>by have:=hs s h; omega) h2 (by omega)
theorem qjJ (t:List DE) (args:List BA) (h:Bd t) (ha:wB args<=1048576):q4M t args=some (jF t args,())/\q6b t args=some (jF t args,()):=by
 obtain ⟨r,_,hS,hI⟩:=qjR t args h ha
 refine q7F hS hI ?_
 have hl:args.length<=1048576:=q0q ha
 have hs:∀ s∈args,s.size<=1048576:=fun s hs=>q2p ha hs
 have hsp:=zh t args txtN h (by omega) (fun s h=>by have:=hs s h; omega) (by decide)
 unfold jF
 cases hp:isB t args txtN with
 | false=>
  rw [hp] at hsp
  rw [q0S,show yS t args [jk,q0s,zV,zl,zi,yP,j6,jh,q0y,zT,wV,yX]=some (false,()) from hsp]
  rfl
 | true=>
  have hp':=hp
  unfold isB at hp'
  simp only [Bool.and_eq_true] at hp'
  obtain ⟨ht,hm,har⟩:=hp'
  have hbn:BdN 20 t:=⟨q0j ht,h.its,h.szs⟩
  have has:=q1x ht
  rw [hp] at hsp
  match args,hl,hs,hp,hm,har,hsp with
  | a::r,hl,hs,hp,hm,har,hsp=>
   simp only [List.length_cons] at hl
   have hrs:∀ s∈r,s.size<=4194304:=fun s hs'=>by have:=hs s (List.mem_cons_of_mem _ hs'); omega
   have k0:(decide ((0:Int)<=0)&&decide ((0:Int) < ((a::r).length:Int)))=true:=by rw [dYT (show (0:Int) < ((a::r).length:Int) by simp only [List.length_cons]; omega)]; rfl
   have g0':yC (List.getD (a::r) (Int.toNat 0) eB)=some (upB a,()):=zx a (by have:=hs a (List.mem_cons_self ..); omega)
   by_cases m1:upB a=wV
   ·rw [q0S,show yS t (a::r) [jk,q0s,zV,zl,zi,yP,j6,jh,q0y,zT,wV,yX]=some (true,()) from hsp]
    simp only [oB,Bool.not_true,cF,k0,cT,g0',qN,dYT m1]
    rw [qfI t ht a r (by omega),yR t ht [] (by simp)]
   ·by_cases m2:upB a=yX
    ·have hmb:=qeE r t 20 hbn has hrs
     have hmB:Bd (q7f r t):=hmb.bd (by omega)
     rw [q0S,show yS t (a::r) [jk,q0s,zV,zl,zi,yP,j6,jh,q0y,zT,wV,yX]=some (true,()) from hsp]
     simp only [oB,Bool.not_true,cF,k0,cT,g0',qN,dYF m1,dYT m2]
     have:=qfK t r.length r [a] t 20 (Nat.le_refl _) hbn has (by omega) (by simp; omega) hrs
     rw [show ([a]++r)=a::r from rfl] at this
     refine (show q10 t (a::r) t 1=_ from this).trans ?_
     rw [q5I t _ _ h hmB]; rfl
    ·obtain ⟨k,vals,rfl,h2⟩:=qcN (wO.1 hm) har m1 m2
     simp only [List.length_cons] at hl
     have hks:k.size<=4194304:=hrs k (List.mem_cons_self ..)
     simp only [cT,dYF m1,dYF m2,cF]
     exact qbh t ht k vals (by omega) a hp m1 m2 hks (fun s h=>by have:=hs s h; omega) h2 (by simp only [List.length_cons]; omega)
theorem qkG (t:List DE) (now:Int) (args:List BA) (h:Bd t) (ha:wB args<=1048576):jC t now args=some (q4o t now args,())/\q7c t now args=some (q4o t now args,()):=by
 obtain ⟨r,_,hS,hI⟩:=qkE t now args h ha
 refine q7F hS hI ?_
 have hl:args.length<=1048576:=q0q ha
 have hs:∀ s∈args,s.size<=1048576:=fun s hs=>q2p ha hs
 have hsp:=zh t args keyN h (by omega) (fun s h=>by have:=hs s h; omega) (by decide)
 have hsp:yS t args [zf,jc,wQ,yN,q02,zy,q1Q,q1u,zn,yT,yD]=some (isB t args keyN,()):=hsp
 unfold q4o
 cases hp:isB t args keyN with
 | false=>
  rw [jv,jW,hsp,hp]
  simp only [oB]
  cases (decide (0<=now)&&decide (now<=100000))<;>rfl
 | true=>
  cases hn:(decide (0<=now)&&decide (now<=100000)) with
  | false=>rw [jv,jW,hn]; rfl
  | true=>
   have hn':=hn
   simp only [Bool.and_eq_true,decide_eq_true_eq] at hn'
   have hp':=hp
   unfold isB at hp'
   simp only [Bool.and_eq_true] at hp'
   obtain ⟨ht,hm,har⟩:=hp'
   match args,hl,hs,hp,hm,har,hsp with
   | a::r,hl,hs,hp,hm,har,hsp=>
    simp only [List.length_cons] at hl
    rw [hp] at hsp
    have hu:=wO.1 hm
    have k0:(decide ((0:Int)<=0)&&decide ((0:Int) < ((a::r).length:Int)))=true:=by rw [dYT (show (0:Int) < ((a::r).length:Int) by simp only [List.length_cons]; omega)]; rfl
    have g0':yC (List.getD (a::r) (Int.toNat 0) eB)=some (upB a,()):=zx a (by have:=hs a (List.mem_cons_self ..); omega)
    by_cases m1:upB a=zf
    ·rw [jv,jW,hn,hsp]
     simp only [oB,Bool.not_true,cF,k0,cT,g0',qN,yw t h,q1j q5j (by decide),dYT m1,Bool.and_self]
     rw [yR t ht [] (by simp)]
    ·by_cases m2:upB a=zn
     ·have q1:¬ upB a=jc:=by rw [m2]; decide +kernel
      have q2:¬ upB a=wQ:=by rw [m2]; decide +kernel
      have q3:¬ upB a=yN:=by rw [m2]; decide +kernel
      have q4:¬ upB a=q02:=by rw [m2]; decide +kernel
      rw [jv,jW,hn,hsp]
      simp only [oB,Bool.not_true,cF,k0,cT,g0',qN,dYF m1,dYT m2,dYF q1,dYF q2,dYF q3,dYF q4,qfx t ht,Bool.and_self]
      rw [yR t ht [] (by simp)]
     ·by_cases m3:upB a=yT
      ·have q1:¬ upB a=jc:=by rw [m3]; decide +kernel
       have q2:¬ upB a=wQ:=by rw [m3]; decide +kernel
       have q3:¬ upB a=yN:=by rw [m3]; decide +kernel
       have q4:¬ upB a=q02:=by rw [m3]; decide +kernel
       rw [jv,jW,hn,hsp]
       simp only [oB,Bool.not_true,cF,k0,cT,g0',qN,dYF m1,dYF m2,dYT m3,dYF q1,dYF q2,dYF q3,dYF q4,yw t h,qW (t.length:Int) (by have:=q0j ht; omega) (by have:=q0j ht; omega),Bool.and_self]
       rw [yR t ht [] (by simp)]
      ·by_cases m4:upB a=yD
       ·have q1:¬ upB a=jc:=by rw [m4]; decide +kernel
        have q2:¬ upB a=wQ:=by rw [m4]; decide +kernel
        have q3:¬ upB a=yN:=by rw [m4]; decide +kernel
        have q4:¬ upB a=q02:=by rw [m4]; decide +kernel
        rw [jv,jW,hn,hsp]
        simp only [oB,Bool.not_true,cF,k0,cT,g0',qN,dYF m1,dYF m2,dYF m3,dYT m4,dYF q1,dYF q2,dYF q3,dYF q4,q1j c_OK (by decide),Bool.and_self]
        rfl
       ·obtain ⟨k,vals,rfl,h2⟩:=qcA hu har m1 m2 m3 m4
        simp only [List.length_cons] at hl
        have hks:k.size<=4194304:=by have:=hs k (List.mem_cons_of_mem _ (List.mem_cons_self ..)); omega
        simp only [Bool.and_self,cT,dYF m1,dYF m2,dYF m3,dYF m4,cF]
        exact qcf t ht now hn' a k vals (by omega) hp hks h2 (fun s h=>by have:=hs s h; omega) hu m1 m2 m3 m4
end Go.Den.S
