/- ExtH: equations of the functions of this seat as the executor tells them, or plain facts about them. Conditions: none here. -/
import Derived.Test.YthejgmhimclmdaaGreatDoorExtE
import Derived.Test.YthejgmhimclmdaaGreatDoorShelfU
import Derived.Test.YthejgmhimclmdaaGreatDoorEmA
import Derived.Shelf.SlSortCmp.NoneTotal
import Derived.WalkKit
set_option linter.all false
open Array (getElem?_eq_getElem)
open List (length)
namespace Go.Den
open Go
def encC (x:BA×BA×Bool):List Value:=[.string x.1,.string x.2.1,.bool x.2.2]
abbrev TC:Ty:=.pr .str (.pr .str .bool)
theorem nthC (xs:List TC.D) {i:Nat} (hi:i < xs.length):nth TC xs i=xs[i]:=by
 unfold nth;rw [List.getD_eq_getElem?_getD,List.getElem?_eq_getElem hi]; rfl
theorem qsh {w:World} {fz:Nat->Prop} {vs:List Value} {x:TC.D} {φ:Nat->Prop} (h:Ow w fz TC vs x φ):vs=encC x:=by
 obtain ⟨c1,c2,φ1,φ2,rfl,⟨rfl,_⟩,⟨c3,c4,φ3,φ4,rfl,⟨rfl,_⟩,⟨rfl,_⟩,_⟩,_⟩:=h;rfl
theorem qrZ {w:World} {fz:Nat->Prop} (x:TC.D):Ow w fz TC (encC x) x (fun _=>False):=
 ⟨[.string x.1],[.string x.2.1,.bool x.2.2],fun _=>False,fun _=>False,rfl,⟨rfl,fun _ h=>h⟩,⟨[.string x.2.1],[.bool x.2.2],fun _=>False,fun _=>False,rfl,⟨rfl,fun _ h=>h⟩,⟨rfl,fun _ h=>h⟩,fun _ h=>h.elim,fun _=>⟨fun h=>h.elim,fun h=>h.elim id id⟩⟩,fun _ h=>h.elim,fun _=>⟨fun h=>h.elim,fun h=>h.elim id id⟩⟩
theorem qrr {w:World} {fz:Nat->Prop} {b off c:Nat} {M:Array Value} {e:TypeId} {fr:Nat×Nat} {xs:List TC.D} (hM:w.heap[b]?=some (.cells M e fr)) (hmu:MutR TC M fr) (hs:off+c * 3<=M.size) (hl:xs.length<=c)
  (hc:∀ i,(h:i < xs.length)->∀ j,(k:j < 3)->M[off+i * 3+j]?=(encC xs[i])[j]?):Ow w fz (.sl TC) [.slice (some ⟨b,off,none⟩) xs.length c] xs (fun b'=>b'=b):=by
 refine ⟨_,c,rfl,.inr ⟨b,off,M,e,fr,fun _ _=>False,rfl,hM,hmu,hs,hl,fun i hi=>?_,fun _ _ h=>h,fun _ _ _ _ _ _ h=>h.elim,fun b=>⟨fun h=>.inl h,fun h=>h.elim id fun ⟨_,_,h⟩=>h.elim⟩⟩⟩
 have hi:i < xs.length:=hi;refine ⟨encC (nth TC xs i),rfl,⟨M,e,fr,hM,?_,fun j hj=>?_⟩,qrZ _⟩
 ·show off+i * 3+3<=M.size;omega
 ·have hj:j < 3:=hj;show M[off+i * 3+j]?=_;rw [hc i hi j hj,nthC xs hi];exact List.getElem?_eq_getElem hj
end Go.Den
namespace Go.Den.S
open Go Go.Den Go.Proofs Go.RowKit Go.Sort
def cfC (x y:Chg):Int:=Lib.compareBytes x.1.data.toList y.1.data.toList
theorem qgQ (x y:Chg):ltOf cfC x y=blt x.1 y.1:=by
 unfold ltOf cfC;rw [qlJ];cases h:blt x.1 y.1 with
 | true=>rfl
 | false=>
  by_cases e:x.1=y.1
  ·rw [if_neg (by simp),if_pos e]; rfl
  ·rw [if_neg (by simp),if_neg e]; rfl
theorem swoC:SWO (ltOf cfC) where
 irrefl x:=by rw [qgQ]; exact q0v _
 trans x y z h1 h2:=by rw [qgQ] at *; exact q1n h1 h2
 ntrans x y z h1 h2:=by
  rw [qgQ] at *;cases h:blt x.1 z.1 with
  | false=>rfl
  | true=>
   have:=qg1 h1 h;rw [h2] at this; cases this
set_option maxHeartbeats 1000000 in
theorem qni (x y:Chg) (W:World):Calls Tryz.prog 139 #[.agg #[.string x.1,.string x.2.1,.bool x.2.2],.agg #[.string y.1,.string y.2.1,.bool y.2.2]] W fun e w'=>e=.returned (.int .i64 (cfC x y))/\∃ q os',w'=grow (W.drewN q) os':=by
 have hcon:=fun W'=>Tryz.strings_Compare x.1 y.1 W'
 change ∀ W',Calls Tryz.prog 140 _ _ _ at hcon
 unfold cfC;generalize Lib.compareBytes x.1.data.toList y.1.data.toList=r at hcon ⊢
 go_enter Tryz.func139,Tryz.ntmps139
 go_wp2_with (go_at_call 140; refine (hcon _).mono ?_; rintro e w' ⟨rfl,rfl⟩)
 go_ret
 exact ⟨rfl,0,_,by rw [alloc_eq_grow,alloc_eq_grow,grow_grow]; rfl⟩
theorem qnj (blk off size:Nat) (w:World):CmpLays Tryz.prog 139 #[] encC 3 cfC blk off size w:=
 fun _ _ _ _ x y=>qni x y _
theorem qpq {xs:List Chg} (hn:(xs.map (·.1)).Nodup) {d':Array Chg} (hp:PermIn 0 xs.toArray.size xs.toArray d') (hs:SortedIn (ltOf cfC) 0 xs.toArray.size d'):d'.toList=sortC xs:=by
 obtain ⟨h1,_,h3⟩:=hp;have hp':d'.toList.Perm xs:=by
  have e1:d'.extract 0 xs.toArray.size=d':=by rw [<- h1]; exact Array.extract_size ..
  have e2:xs.toArray.extract 0 xs.toArray.size=xs.toArray:=Array.extract_size ..;rw [e1,e2] at h3;exact h3
 obtain ⟨s1,s2⟩:=qjg hn;have hn':(d'.toList.map (·.1)).Nodup:=(hp'.map _).nodup_iff.2 hn;unfold List.Nodup at hn';rw [List.pairwise_map] at hn';have hpw:d'.toList.Pairwise fun x y=>blt y.1 x.1=false:=by
  rw [List.pairwise_iff_getElem];intro i j hi hj hij;have hi':i < d'.size:=by simpa using hi
  have hj':j < d'.size:=by simpa using hj
  have:=hs i j (Nat.zero_le _) hij (by rw [<- h1]; exact hj')
  rw [qgQ,getElem!_pos d' j hj',getElem!_pos d' i hi'] at this;simpa using this
 exact q2k ((hpw.and hn').imp fun q=>q0D (fun z=>q.2 z.symm) q.1) s1 fun c=>hp'.mem_iff.trans (s2 c).symm
theorem flat_get (xs:List Chg) {i j:Nat} (hi:i < xs.length) (hj:j < 3):(flatK encC 3 xs.toArray)[i * 3+j]?=(encC xs[i])[j]?:=by
 have ht:i * 3+j < xs.toArray.size * 3:=by
  have:xs.toArray.size=xs.length:=by simp
  omega
 have hsz:i * 3+j < (flatK encC 3 xs.toArray).size:=by rw [size_flatK]; exact ht
 have h:=get_flatK encC 3 xs.toArray (i * 3+j) ht;rw [show (i * 3+j) / 3=i by omega,show (i * 3+j) % 3=j by omega] at h
 have hx:xs.toArray[i]! = xs[i]:=by rw [getElem!_pos xs.toArray i (by simpa using hi)]; simp
 have hj':j < (encC xs[i]).length:=hj;have e1:=getElem!_pos (flatK encC 3 xs.toArray) (i * 3+j) hsz;have e2:=getElem!_pos (encC xs[i]) j hj';rw [e1,hx,e2] at h;rw [getElem?_eq_getElem hsz,h,List.getElem?_eq_getElem hj']
theorem qpo (blk off cap:Nat) (d:Array Chg) (w:World) (hH:HoldsK encC 3 w blk off d) (hblk:blk < w.heap.size) (hsz:d.size < 4611686018427387904) :
  Calls Tryz.prog 138 #[.slice (some ⟨blk,off,none⟩) d.size cap,.func (.func 139) #[] #[]] w fun e w'=>e=.returned (.tuple #[])/\∃ d' n os,PermIn 0 d.size d d'/\SortedIn (ltOf cfC) 0 d.size d'/\w'=sortWorldK encC 3 w blk off n d' os:=by
 have eg:∀ args w,(callFunc 139 args).run Tryz.prog w=.ok (.enter 139 args) w:=enters_of Tryz.func139 (by kernel_rfl) rfl
 exact AnyQ.slices_SortFunc Tryz.sortC 3 Tryz.isAgg100 Tryz.sizeOf100 encC (fun _=>rfl) (fun x v hv=>by simp [encC] at hv; rcases hv with rfl | rfl | rfl<;>rfl) cfC swoC 139 #[] blk off cap d w eg (qnj blk off d.size w) hH hblk hsz
theorem qo4 (p:Option Addr) (cap:Nat) (fv:Value) (w:World):Calls Tryz.prog 138 #[.slice p 0 cap,fv] w fun e w'=>e=.returned (.tuple #[])/\w'=w:=AnyF.slices_SortFunc_none Tryz.sortC p cap fv w
set_option maxRecDepth 100000 in
theorem qqm (gl:Nat->Obj->Prop):∀ (x:List Chg×Unit×Unit) (r:Unit×List Chg×Unit×Unit),qdz x=some r->q2O Tryz.prog gl ⟨138,[.mut (.sl qy),.clo 139 []],[]⟩ x r:=by
 intro ⟨xs,u1,u⟩ r h fn w fz φ vals hfn hargs hφ hlt hg;have hfe:fn=Tryz.f138:=Option.some.inj (hfn.symm.trans Tryz.func138);subst hfe;obtain ⟨v1,r1,φ1,φr1,rfl,h1,⟨v2,r2,φ2,φr2,rfl,⟨ps,rfl,rfl,hn1⟩,⟨rfl,hn⟩,tw2⟩,tw⟩:=hargs;have hag:q0I Tryz.prog Tryz.f138.params.toList=false:=by kernel_rfl
 have h1:ArgO w fz false (.own (.sl qy)) v1 xs φ1:=by rw [<- hag]; exact h1
 obtain ⟨A,n,c,rfl,o1⟩:=qb8 h1;unfold qdz at h;simp only at h;cases hb:(decide (xs.length < 4611686018427387904)&&decide ((xs.map (·.1)).Nodup)) with
 | false=>rw [hb] at h; cases h
 | true=>
  rw [hb] at h;rw [Bool.and_eq_true,decide_eq_true_eq,decide_eq_true_eq] at hb;obtain ⟨hb,hnd⟩:=hb;obtain rfl:=Option.some.inj h;have hres:Tryz.f138.resultTypes.toList=[]:=by kernel_rfl
  obtain ⟨A',c',he,hcase⟩:=id o1;simp only [List.cons.injEq,Value.slice.injEq,and_true] at he;obtain ⟨rfl,rfl,rfl⟩:=he;refine .inr ⟨zK (c:=_) Tryz.func138 (by rfl) (by kernel_rfl),?_⟩
  rw [hres];have clo0:∀ w':World,zM w' fz [Par.clo 139 []] [.func (.func 139) #[] #[]] ((),()) (fun _=>False):=fun w'=>⟨[],[],fun _=>False,fun _=>False,rfl,fun _ h=>h,fun _ h=>h,⟨fun _ h=>h.elim,fun b=>⟨False.elim,fun h=>h.elim id id⟩⟩⟩
  rcases hcase with ⟨rfl,h0,rfl,hnp⟩ | ⟨b,off,M,e,fr,ψ,rfl,hM,hmu,hs,hl,hit,_,_,hφ1⟩
  ·have hx:xs=[]:=List.length_eq_zero_iff.1 h0;subst hx;refine (qo4 none 0 _ w).mono fun e w' ⟨he,hw⟩=>⟨_,he,?_⟩
   subst hw;have hs0:sortC []=[]:=by rw [qbT]; simp
   refine ⟨⟨[],fz,fun _=>False,fun _=>False,fun _=>False,rfl,⟨rfl,rfl,fun _ h=>h⟩,⟨_,_,fun _=>False,fun _=>False,rfl,?_,clo0 _,⟨fun _ h=>h.elim,fun b=>⟨False.elim,fun h=>h.elim id id⟩⟩⟩,⟨fun _ h=>h.elim,fun b=>⟨False.elim,fun h=>h.elim id id⟩⟩,fun _ h=>h.elim,fun _ h=>h,fun _ h=>.inl h,fun _ h=>h.elim,hlt,fun _ h=>h.elim⟩,fun _ _ _=>rfl,Nat.le_refl _,rfl,rfl,rfl⟩
   show Ow _ fz (.sl qy) [.slice none 0 0] (sortC []) _;rw [hs0];exact ⟨none,0,rfl,.inl ⟨rfl,rfl,rfl,fun _ h=>h⟩⟩
  ·have hs:off+c * 3<=M.size:=hs;have hl:length (α:=Chg) xs<=c:=hl;have hcell:∀ t,t < xs.length * 3->M[off+t]?=(flatK encC 3 xs.toArray)[t]?:=fun t ht=>by
    obtain ⟨vs,k1,⟨c0,e0,fr0,q1,q2,q3⟩,k3⟩:=hit (t / 3) (show t / 3 < xs.length by omega)
    rw [hM] at q1;obtain ⟨rfl,rfl,rfl⟩:M=c0/\e=e0/\fr=fr0:=by simpa using q1
    have hi:t / 3 < xs.length:=by omega
    have hv:=qsh k3;rw [show nth qy xs (t / 3)=xs[t / 3] from nthC xs hi] at hv
    subst hv;have h3:t % 3 < (encC xs[t / 3]).length:=Nat.mod_lt _ (by decide)
    have h4:=q3 (t % 3) h3;have h4:M[off+t / 3 * 3+t % 3]?=some (encC xs[t / 3])[t % 3]:=h4;have h5:=flat_get xs hi (show t % 3 < 3 from Nat.mod_lt _ (by decide))
    rw [show off+t / 3 * 3+t % 3=off+t by omega] at h4
    rw [show t / 3 * 3+t % 3=t by omega,List.getElem?_eq_getElem h3] at h5
    rw [h4,h5]
   have hbl:b < w.heap.size:=(Array.getElem?_eq_some_iff.1 hM).1;have hH:HoldsK encC 3 w b off xs.toArray:=fun t ht=>by
    have ht':t < xs.length * 3:=by simpa using ht
    constructor
    ·show w.cell? ⟨b,off+t,none⟩=_;unfold World.cell?;simp only [hM];have e1:=getElem!_pos (flatK encC 3 xs.toArray) t ht;rw [hcell t ht',getElem?_eq_getElem ht,e1]; rfl
    ·exact q3I hM (hmu.1 _ (by omega))
   have hrun:=qpo b off c xs.toArray w hH hbl (by simpa using hb)
   rw [show xs.toArray.size=xs.length by simp] at hrun
   refine hrun.mono fun e' w' ⟨he,d',k,os,hp,hso,hw⟩=>⟨_,he,?_⟩
   have hd:d'=(sortC xs).toArray:=by
    rw [<- qpq hnd (d':=d') (by simpa using hp) (by simpa using hso)]
   subst hd;have hslen:(sortC xs).length=xs.length:=by rw [qbT,List.length_mergeSort]
   obtain ⟨M',hM'⟩:∃ M',M'=putCells id off (flatK encC 3 (sortC xs).toArray) M:=⟨_,rfl⟩
   have hsz:M'.size=M.size:=by rw [hM']; simp [putCells]
   have hheap:w'.heap[b]?=some (.cells M' e fr):=by
    rw [hw];unfold sortWorldK;rw [heap_grow_old _ _ (by unfold putRowK; simpa using hbl)]
    show ((Sort.ahead w k).heap.modify b (onCells (putCells id off (flatK encC 3 (sortC xs).toArray))))[b]?=_;rw [Array.getElem?_modify,if_pos rfl];show Option.map _ (w.heap[b]?)=_;rw [hM,hM']; rfl
   have hkeep:∀ b',b' < w.heap.size->b'≠b->w'.heap[b']?=w.heap[b']?:=fun b' hb' hne=>by
    rw [hw];unfold sortWorldK;rw [heap_grow_old _ _ (by unfold putRowK; simpa using hb')]
    show ((Sort.ahead w k).heap.modify b _)[b']?=_;rw [Array.getElem?_modify,if_neg (fun e=>hne e.symm)]; rfl
   have hsize:w.heap.size<=w'.heap.size:=by
    rw [hw];simp [sortWorldK,putRowK,grow,putRow,mapBlock,Sort.ahead]
   have hcell':∀ i,(h:i < (sortC xs).length)->∀ j,j < 3->M'[off+i * 3+j]?=(encC (sortC xs)[i])[j]?:=fun i hi j hj=>by
    rw [<- flat_get (sortC xs) hi hj,hM'];have hft:i * 3+j < (flatK encC 3 (sortC xs).toArray).size:=by
     rw [size_flatK];have:(sortC xs).toArray.size=(sortC xs).length:=by simp
     omega
    have e1:=getElem!_pos (flatK encC 3 (sortC xs).toArray) (i * 3+j) hft;unfold putCells;have hlt:off+i * 3+j < M.size:=by omega
    rw [Array.getElem?_mapIdx,getElem?_eq_getElem hlt];simp only [Option.map_some];rw [if_pos ⟨by omega,by omega⟩,show off+i * 3+j - off=i * 3+j by omega,getElem?_eq_getElem hft,e1]
    rfl
   have ho:Ow w' fz (.sl qy) [.slice (some ⟨b,off,none⟩) (sortC xs).length c] (sortC xs) (fun b'=>b'=b):=qrr hheap (hmu.same hsz) (by rw [hsz]; exact hs) (Nat.le_trans (Nat.le_of_eq hslen) hl) hcell'
   have ho:Ow w' fz (.sl qy) [.slice (some ⟨b,off,none⟩) (length (α:=Chg) xs) c] (sortC xs) (fun b'=>b'=b):=by rw [<- hslen]; exact ho
   have hφb:φ b:=(tw.2 b).2 (.inl ((hφ1 b).2 (.inl rfl)));refine ⟨⟨[],fz,fun _=>False,fun b'=>b'=b,fun b'=>b'=b,rfl,⟨rfl,rfl,fun _ h=>h⟩,⟨_,_,fun b'=>b'=b,fun _=>False,rfl,ho,clo0 _,⟨fun _ _ h=>h,fun b=>⟨.inl,fun h=>h.elim id False.elim⟩⟩⟩,⟨fun _ h=>h.elim,fun b=>⟨.inr,fun h=>h.elim False.elim id⟩⟩,fun b' h=>.inl (by rw [h]; exact hφb),fun _ h=>h,fun _ h=>.inl h,fun b' h=>by rw [h]; exact hφ b hφb,fun b' h=>Nat.lt_of_lt_of_le (hlt b' h) hsize,fun b' h=>by rw [h]; exact Nat.lt_of_lt_of_le hbl hsize⟩,fun b' h1 h2=>hkeep b' h1 fun e=>h2 (by rw [e]; exact hφb),hsize,by rw [hw]; rfl,by rw [hw]; rfl,by rw [hw]; rfl⟩
end Go.Den.S
