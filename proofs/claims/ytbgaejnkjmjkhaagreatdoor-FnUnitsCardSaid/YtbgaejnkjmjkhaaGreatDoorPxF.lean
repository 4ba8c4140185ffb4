/- PxF: equations of the functions of this seat as the executor tells them, or plain facts about them. Conditions: none here. -/
import Derived.Test.YtbgaejnkjmjkhaaGreatDoorPxE
set_option linter.all false
namespace Go.Den.S
open Go Go.Den
abbrev RS:Type:=List DE×BA×Bool
def isB (t:List DE) (args:List BA) (l:List BA):Bool:=tabB t&&((match args with | []=>false | a::_=>memB (upB a) l)&&jo args)
theorem q4g (t:List DE) (args:List BA) (names:BA) (l:List BA) (h:Bd t) (hl:args.length<=2097152) (hs:∀ s∈args,s.size<=2097152) (hf:strings_Fields names=some (l,())) (hll:l.length<=2097152) :
  q3P t args names=some ((bif isB t args l then (some (t,(eB,false)),true) else (none,false)),()):=by
 rw [qgt,q5S t h]
 unfold isB
 simp only [oB,q93 args hl hs,q17 t h]
 match args,hl,hs with
 | [],_,_=>
  rw [qb2]
  cases tabB t<;>rfl
 | a::r,hl,hs=>
  rw [q0Z hf (hs a (List.mem_cons_self ..)) hll]
  simp only [oB]
  cases tabB t<;>cases memB (upB a) l<;>cases jo (a::r)<;>rfl
theorem zh (t:List DE) (args l:List BA) (h:Bd t) (hl:args.length<=2097152) (hs:∀ s∈args,s.size<=2097152) (hll:l.length<=2097152):yS t args l=some (isB t args l,()):=by
 rw [qg6,q4v t h]
 unfold isB
 simp only [oB,q8V args hl hs]
 match args,hl,hs with
 | [],_,_=>cases tabB t<;>rfl
 | a::r,hl,hs=>
  have k2:(decide ((0:Int)<=0)&&decide ((0:Int) < (((a::r).length:Nat):Int)))=true:=by
   rw [dYT (show (0:Int) < (((a::r).length:Nat):Int) by simp only [List.length_cons]; omega)]; rfl
  have k4:yC (List.getD (a::r) (Int.toNat 0) eB)=some (upB a,()):=zx a (by have:=hs a (List.mem_cons_self ..); omega)
  simp only [k2,k4,cT,oB,q3G l (upB a) hll]
  cases tabB t<;>cases jo (a::r)<;>cases memB (upB a) l<;>rfl
def sayB (d:DD) (r:BA):DD:=bif d.2.2 then d else (d.1,(r,d.2.2))
theorem wz (d:DD) (r:BA):q9 d r=some ((),(sayB d r,())):=by
 rw [q4i]
 obtain ⟨t,q,b⟩:=d
 cases b<;>rfl
def badB (d:DD) (r:BA):DD:=bif d.2.2 then d else (d.1,(y5 r,true))
theorem q2x (d:DD) (r:BA) (h:r.size<=2097152):qU d r=some ((),(badB d r,())):=by
 rw [q3w,q4k r h]
 obtain ⟨t,q,b⟩:=d
 cases b<;>rfl
def q1v (t:List DE) (k:BA) (v:DV):List DE:=bif decide (v.2.2.2=[]) then q1T t k else putB t k v
theorem qeG (d:DD) (k:BA) (v:DV) (h:Bd d.1) (ha:Asc d.1):yg d k v=some ((),((bif d.2.2 then d else (q1v d.1 k v,d.2)),())):=by
 rw [q3K,yZ d k v h ha,q8z d k h ha]
 obtain ⟨t,q,b⟩:=d
 obtain ⟨v1,v2,v3,v4⟩:=v
 unfold q1v
 cases v4 with
 | nil=>
  simp only [List.length_nil,show decide (((0:Nat):Int) > 0)=false from rfl,cF,oB,decide_true,cT]
  cases b<;>rfl
 | cons x r=>
  rw [dYT (show (((x::r).length:Nat):Int) > 0 by simp only [List.length_cons]; omega),dYF (show ¬ (x::r)=[] by simp)]
  rfl
def zJ (d:DD) (t:List DE):RS:=bif d.2.2 then (t,(d.2.1,true)) else bif tabB d.1 then (d.1,(d.2.1,true)) else (t,(y5 yG,true))
theorem q4n (d:DD) (t:List DE) (h:Bd t) (hd:Bd d.1):∃ d',qw d t=some (zJ d t,(d',())):=by
 rw [q3S,q5S d.1 hd,q17 t h,q17 d.1 hd,q2x d yG (by decide)]
 obtain ⟨r,q,b⟩:=d
 unfold zJ badB
 simp only [oB]
 cases b with
 | true=>exact ⟨_,rfl⟩
 | false=>
  simp only [Bool.not_false,cT,cF]
  cases tabB r with
  | true=>exact ⟨_,rfl⟩
  | false=>exact ⟨_,rfl⟩
def qk6 (t t':List DE) (r:BA):RS:=bif tabB t' then (t',(r,true)) else (t,(y5 yG,true))
theorem q5I (t t':List DE) (r:BA) (h:Bd t) (h':Bd t'):yA t t' r=some (qk6 t t' r,()):=by
 rw [qdU,q4v t' h',yw t h,yw t' h',q2G yG (by decide)]
 unfold qk6
 simp only [oB]
 cases tabB t'<;>rfl
theorem q68 (t:List DE) (r:BA) (h:Bd t) (hr:r.size<=2097152):j4 t r=some ((t,(y5 r,true)),()):=by
 rw [qg1,yw t h,q2G r hr]; rfl
theorem qfk {t:List DE} {k:BA} {e:DE} (h:e∈lowB t k):e∈t:=(List.mem_filter.1 h).1
theorem qd0 {t:List DE} {k:BA} {e:DE} (h:e∈q4T t k):e∈t:=(List.mem_filter.1 h).1
theorem qda {t:List DE} {k:BA} (ha:Asc t):(lowB t k).length+(q4T t k).length<=t.length:=by
 rw [<- List.length_append,show lowB t k++q4T t k=q1T t k from rfl,<- q7d t k ha]
 exact List.length_filter_le _ _
theorem qeY {t:List DE} {k:BA} (h:Bd t) (ha:Asc t):Bd (q1T t k):=by
 have hm:∀ e∈q1T t k,e∈t:=fun e he=>by
  rcases List.mem_append.1 he with he | he
  ·exact qfk he
  ·exact qd0 he
 refine ⟨?_,fun e he=>h.its e (hm e he),fun e he=>h.szs e (hm e he)⟩
 have:=qda (k:=k) ha
 have:=h.len
 unfold q1T
 rw [List.length_append]; omega
theorem qbb {t:List DE} {k:BA} {v:DV} (h:tabB t=true) (hk:k.size<=4194304) (hv:v.2.2.2.length<=4194304) (hz:v.2.2.1.size<=4194304) (hs:∀ s∈v.2.2.2,s.size<=4194304):Bd (putB t k v):=by
 have hb:=z8 h
 have hm:∀ e∈putB t k v,e∈t\/e=(k,v):=fun e he=>by
  unfold putB at he
  rcases List.mem_append.1 he with he | he
  ·exact .inl (qfk he)
  ·rcases List.mem_cons.1 he with he | he
   ·exact .inr he
   ·exact .inl (qd0 he)
 refine ⟨?_,fun e he=>?_,fun e he=>?_⟩
 ·have:=qda (k:=k) (q1x h)
  have:=q0j h
  unfold putB
  rw [List.length_append,List.length_cons]; omega
 ·rcases hm e he with h | rfl
  ·exact hb.its e h
  ·exact hv
 ·rcases hm e he with h | rfl
  ·exact hb.szs e h
  ·exact ⟨hk,hz,hs⟩
theorem qly {t:List DE} {k:BA} (ha:Asc t):Asc (q1T t k):=by
 rw [<- q7d t k ha]
 exact List.Pairwise.filter _ ha
theorem q5P {t:List DE} {k:BA} {v:DV} (h:tabB t=true) (hk:k.size<=4194304) (hv:v.2.2.2.length<=4194304) (hz:v.2.2.1.size<=4194304) (hs:∀ s∈v.2.2.2,s.size<=4194304):Bd (q1v t k v):=by
 unfold q1v
 cases decide (v.2.2.2=[]) with
 | true=>exact qeY (z8 h) (q1x h)
 | false=>exact qbb h hk hv hz hs
theorem q4N (t:List DE) (k:BA) (v:DV) (r:BA) (h:tabB t=true) (hv0:v.1≠0) (hk:k.size<=4194304) (hv:v.2.2.2.length<=4194304) (hz:v.2.2.1.size<=4194304) (hs:∀ s∈v.2.2.2,s.size<=4194304):wC t k v r=some (qk6 t (q1v t k v) r,()):=by
 have hb:=z8 h
 have hkb:=q5P (k:=k) h hk hv hz hs
 rw [qdD,q0Q t k _ hb,q0Q t k v hb]
 obtain ⟨v1,v2,v3,v4⟩:=v
 unfold q1v at hkb ⊢
 cases v4 with
 | nil=>
  have e0:((([]:List BA).length:Int)==0)=true:=rfl
  simp only [decide_true,cT] at hkb
  simp only [e0,decide_true,cT,oB,q5I t _ r hb hkb]
 | cons x l=>
  have e0:(((x::l).length:Int)==0)=false:=by rw [wL]; exact dYF (by simp only [List.length_cons]; omega)
  have e1:decide ((x::l)=[])=false:=dYF (by simp)
  simp only [e1,cF] at hkb
  simp only [e0,e1,cF,oB,dYF hv0,q5I t _ r hb hkb]
def q8J (t:List DE) (k:BA) (n:Int):DV×Bool:=bif !(fndB t k).2 then ((n,(0,(eB,[]))),true) else ((fndB t k).1,decide ((fndB t k).1.1=n))
theorem qcQ (t:List DE) (k:BA) (n:Int) (h:Bd t):q48 t k n=some (q8J t k n,()):=by
 rw [qcw,q2e t k h]
 unfold q8J
 simp only [oB,wL]
 cases (fndB t k).2<;>rfl
theorem qca (d:DD) (k:BA) (n:Int) (h:Bd d.1):qF d k n=some (fndB d.1 k,((bif (fndB d.1 k).2&&!(decide ((fndB d.1 k).1.1=n)) then badB d yh else d),())):=by
 rw [q41,q2A d.1 k h]
 have hne:∀ a b:Int,(a != b)=!decide (a=b):=fun a b=>by
  by_cases e:a=b
  ·simp [e]
  ·simp [e]
 simp only [oB,hne,q2x d yh (by decide)]
 cases (fndB d.1 k).2<;>cases decide ((fndB d.1 k).1.1=n)<;>rfl
end Go.Den.S
