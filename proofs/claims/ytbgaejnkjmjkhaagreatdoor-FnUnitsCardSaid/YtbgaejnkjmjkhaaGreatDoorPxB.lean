/- PxB: equations of the functions of this seat as the executor tells them, or plain facts about them. Conditions: none here. -/
import Derived.Test.YtbgaejnkjmjkhaaGreatDoorPxA
set_option linter.all false
namespace Go.Den.S
open Go Go.Den
abbrev DE:Type:=BA×Int×Int×BA×List BA
abbrev DV:Type:=Int×Int×BA×List BA
def wB (l:List BA):Nat:=wl ByteArray.size l
theorem qlk (l:List BA):(l.flatMap yO).length=(l.map ByteArray.size).sum:=by
 induction l with
 | nil=>rfl
 | cons x r ih=>rw [List.flatMap_cons,List.length_append,ih,q7D]; simp
def arrB (l:List BA):BA:=q4G (yO ((q1b++decB (l.length:Int))++qA)++l.flatMap yO)
theorem q9U (l:List BA) (h:wB l<=10000000000000):q05 l=some (arrB l,()):=by
 have hl:l.length<=10000000000000:=q0q h
 have hs:(l.map ByteArray.size).sum<=10000000000000:=by unfold wB wl at h; omega
 rw [qgc,q0d _ (by omega) (by omega)]
 have e1:(q1b:BA).size=1:=rfl
 have e2:(qA:BA).size=2:=rfl
 have hd:=q0F (l.length:Int) (by omega) (by omega)
 simp only [oB,e1,e2,ByteArray.size_append,yF (show 1+(decB (l.length:Int)).size<=9223372036854775807 by omega),yF (show 1+(decB (l.length:Int)).size+2<=9223372036854775807 by omega),cT]
 have hh:(yO ((q1b++decB (l.length:Int))++qA)).length<=30:=by rw [q7D]; simp only [ByteArray.size_append,e1,e2]; omega
 have:=wX (fun acc i=>q4d acc l (l.length:Int) i) l eB (fun a x=>a++yO x) (fun acc=>some (q4G acc,())) (fun acc i=>acc.length<=30+((l.take i).map ByteArray.size).sum)
  (fun acc i hi hI=>by
   have hle:((l.take (i+1)).map ByteArray.size).sum<=(l.map ByteArray.size).sum:=by
    conv=>rhs; rw [<- List.take_append_drop (i+1) l,List.map_append,List.sum_append]
    omega
   have htk:l.take (i+1)=l.take i++[l[i]]:=by rw [List.take_add_one,List.getElem?_eq_getElem hi]; rfl
   rw [htk,List.map_append,List.sum_append] at hle ⊢
   simp only [List.map_cons,List.map_nil,List.sum_cons,List.sum_nil,Nat.add_zero] at hle ⊢
   have hb:(yO (l.getD i eB)).length=l[i].size:=by rw [wS hi,q7D]
   constructor
   ·conv=>lhs; rw [q8D]
    simp only [dYT (show (i:Int) < (l.length:Int) by omega),dYT (show (0:Int)<=(i:Int) by omega),Bool.and_self,cT,Int.toNat_natCast,qI (show (acc.length+(yO (l.getD i eB)).length) * 1<=140737488355328 by omega),show w64 ((i:Int)+1)=((i+1:Nat):Int) from qz (by omega)]
   ·rw [List.length_append,hb]; omega)
  (fun acc hI=>by
   show q4d acc l (l.length:Int) (l.length:Int)=_
   rw [q8D]
   simp only [Int.lt_irrefl,decide_false,cF]
   rfl) _ (by simpa using hh)
 rw [this,qcG]
 rfl
theorem q2F (l:List BA) (h:wB l<=100000000):q05 l=some (arrB l,()):=q9U l (by omega)
theorem q9J (l:List BA) (h:wB l<=10000000000000):q1O l=some (arrB l,()):=by
 have hl:l.length<=10000000000000:=q0q h
 have hs:(l.map ByteArray.size).sum<=10000000000000:=by unfold wB wl at h; omega
 rw [qg3,jH _ (by omega) (by omega)]
 have e1:(q1b:BA).size=1:=rfl
 have e2:(qA:BA).size=2:=rfl
 have hd:=q0F (l.length:Int) (by omega) (by omega)
 simp only [oB,e1,e2,ByteArray.size_append,yF (show 1+(decB (l.length:Int)).size<=9223372036854775807 by omega),yF (show 1+(decB (l.length:Int)).size+2<=9223372036854775807 by omega),cT]
 have hh:(yO ((q1b++decB (l.length:Int))++qA)).length<=30:=by rw [q7D]; simp only [ByteArray.size_append,e1,e2]; omega
 have:=wX (fun acc i=>q47 l acc i) l eB (fun a x=>a++yO x) (fun acc=>some (q4G acc,())) (fun acc i=>acc.length<=30+((l.take i).map ByteArray.size).sum)
  (fun acc i hi hI=>by
   have hle:((l.take (i+1)).map ByteArray.size).sum<=(l.map ByteArray.size).sum:=by
    conv=>rhs; rw [<- List.take_append_drop (i+1) l,List.map_append,List.sum_append]
    omega
   have htk:l.take (i+1)=l.take i++[l[i]]:=by rw [List.take_add_one,List.getElem?_eq_getElem hi]; rfl
   rw [htk,List.map_append,List.sum_append] at hle ⊢
   simp only [List.map_cons,List.map_nil,List.sum_cons,List.sum_nil,Nat.add_zero] at hle ⊢
   have hb:(yO (l.getD i eB)).length=l[i].size:=by rw [wS hi,q7D]
   constructor
   ·conv=>lhs; rw [q8M]
    simp only [dYT (show (i:Int) < (l.length:Int) by omega),dYT (show (0:Int)<=(i:Int) by omega),Bool.and_self,cT,Int.toNat_natCast,qI (show (acc.length+(yO (l.getD i eB)).length) * 1<=140737488355328 by omega),show w64 ((i:Int)+1)=((i+1:Nat):Int) from qz (by omega)]
   ·rw [List.length_append,hb]; omega)
  (fun acc hI=>by
   show q47 l acc (l.length:Int)=_
   rw [q8M]
   simp only [Int.lt_irrefl,decide_false,cF]
   rfl) _ (by simpa using hh)
 rw [this,qcG]
 rfl
theorem qaE (l:List BA) (h:wB l<=100000000):q1O l=some (arrB l,()):=q9J l (by omega)
theorem q4a (l:List BA) (hl:l.length<=100000000) (hs:∀ s∈l,s.size<=100000000):q0W l=some (l.map zI,()):=by
 rw [qgm]
 have:=wX (fun acc i=>q4j acc l (l.length:Int) i) l eB (fun a x=>a++[zI x]) (fun acc=>some (acc,())) (fun acc i=>acc.length=i)
  (fun acc i hi hI=>by
   constructor
   ·conv=>lhs; rw [q8G]
    simp only [dYT (show (i:Int) < (l.length:Int) by omega),dYT (show (0:Int)<=(i:Int) by omega),Bool.and_self,cT,Int.toNat_natCast,qI (show (acc.length+1) * 16<=140737488355328 by omega),show w64 ((i:Int)+1)=((i+1:Nat):Int) from qz (by omega),q2t (l.getD i eB) (by have:=hs _ (yj (d:=eB) hi); omega),oB]
   ·rw [List.length_append,hI]; rfl)
  (fun acc hI=>by
   show q4j acc l (l.length:Int) (l.length:Int)=_
   rw [q8G]
   simp only [Int.lt_irrefl,decide_false,cF]) [] rfl
 rw [this,q2W]
 rfl
theorem q8f (l:List BA) (h:wB l<=2097152):wB (l.map zI)<=100000000:=by
 have hl:l.length<=2097152:=q0q h
 have key:∀ r:List BA,(∀ s∈r,s.size<=2097152)->((r.map zI).map ByteArray.size).sum<=(r.map ByteArray.size).sum+30 * r.length:=by
  intro r
  induction r with
  | nil=>intro _; simp
  | cons x r ih=>
   intro hr
   have h1:=q4V x (by have:=hr x (List.mem_cons_self ..); omega)
   have h2:=ih fun s hs=>hr s (List.mem_cons_of_mem _ hs)
   simp only [List.map_cons,List.sum_cons,List.length_cons]
   omega
 have:=key l fun s hs=>q2p h hs
 unfold wB wl at h ⊢
 rw [List.length_map]
 omega
theorem q2f (l:List BA) (h:wB l<=2097152):jr l=some (arrB (l.map zI),()):=by
 have hl:l.length<=2097152:=q0q h
 have hs:∀ s∈l,s.size<=2097152:=fun s hs=>q2p h hs
 rw [qcO]
 have:=wX (fun acc i=>q2v l acc i) l eB (fun a x=>a++[zI x]) (fun acc=>(q1O acc).bind fun r5=>some (r5.1,())) (fun acc i=>acc.length=i)
  (fun acc i hi hI=>by
   constructor
   ·conv=>lhs; rw [q6y]
    simp only [dYT (show (i:Int) < (l.length:Int) by omega),dYT (show (0:Int)<=(i:Int) by omega),Bool.and_self,cT,Int.toNat_natCast,qI (show (acc.length+1) * 16<=140737488355328 by omega),show w64 ((i:Int)+1)=((i+1:Nat):Int) from qz (by omega),q2j (l.getD i eB) (by have:=hs _ (yj (d:=eB) hi); omega),oB]
   ·rw [List.length_append,hI]; rfl)
  (fun acc hI=>by
   show q2v l acc (l.length:Int)=_
   rw [q6y]
   simp only [Int.lt_irrefl,decide_false,cF]) [] rfl
 rw [this,q2W,List.nil_append,qaE _ (q8f l h)]
 rfl
theorem q8X (v:DV) (h:v.2.2.2.length<=100000000):q6x v=some (v,()):=by
 rw [qe0]
 simp only [qI (show (0+v.2.2.2.length) * 16<=140737488355328 by omega),cT,List.nil_append]
theorem q6o (v:DV) (h:v.2.2.2.length<=100000000):q3q v=some (v,()):=by
 rw [qdv]
 simp only [qI (show (0+v.2.2.2.length) * 16<=140737488355328 by omega),cT,List.nil_append]
structure Bd (t:List DE):Prop where
 len:t.length<=4194304
 its:∀ e∈t,e.2.2.2.2.length<=4194304
 szs:∀ e∈t,e.1.size<=4194304/\e.2.2.2.1.size<=4194304/\∀ s∈e.2.2.2.2,s.size<=4194304
abbrev dflt:DE:=(eB,(0,(0,(eB,[]))))
theorem qcm {α:Type} (l acc:List α):l.foldl (fun a x=>a++[x]) acc=acc++l:=by
 have:=q2W (fun x:α=>x) l acc
 simpa using this
theorem q17 (t:List DE) (h:Bd t):wY t=some (t,()):=by
 have hl:=h.len
 rw [qc0]
 have:=wX (fun acc i=>q1K acc t (t.length:Int) i) t dflt (fun a x=>a++[x]) (fun acc=>some (acc,())) (fun acc i=>acc.length=i)
  (fun acc i hi hI=>by
   constructor
   ·conv=>lhs; rw [q66]
    have hm:=h.its _ (yj (d:=dflt) hi)
    simp only [dYT (show (i:Int) < (t.length:Int) by omega),dYT (show (0:Int)<=(i:Int) by omega),Bool.and_self,cT,Int.toNat_natCast,qI (show (acc.length+1) * 72<=140737488355328 by omega),show w64 ((i:Int)+1)=((i+1:Nat):Int) from qz (by omega),q8X (t.getD i dflt).2 (by omega),oB]
   ·rw [List.length_append,hI]; rfl)
  (fun acc hI=>by
   show q1K acc t (t.length:Int) (t.length:Int)=_
   rw [q66]
   simp only [Int.lt_irrefl,decide_false,cF]) [] rfl
 rw [this,qcm]
 rfl
theorem yw (t:List DE) (h:Bd t):qm t=some (t,()):=by
 have hl:=h.len
 rw [qav]
 have:=wX (fun acc i=>q11 t acc i) t dflt (fun a x=>a++[x]) (fun acc=>some (acc,())) (fun acc i=>acc.length=i)
  (fun acc i hi hI=>by
   constructor
   ·conv=>lhs; rw [q5b]
    have hm:=h.its _ (yj (d:=dflt) hi)
    simp only [dYT (show (i:Int) < (t.length:Int) by omega),dYT (show (0:Int)<=(i:Int) by omega),Bool.and_self,cT,Int.toNat_natCast,qI (show (acc.length+1) * 72<=140737488355328 by omega),show w64 ((i:Int)+1)=((i+1:Nat):Int) from qz (by omega),q6o (t.getD i dflt).2 (by omega),oB]
   ·rw [List.length_append,hI]; rfl)
  (fun acc hI=>by
   show q11 t acc (t.length:Int)=_
   rw [q5b]
   simp only [Int.lt_irrefl,decide_false,cF]) [] rfl
 rw [this,qcm]
 rfl
end Go.Den.S
