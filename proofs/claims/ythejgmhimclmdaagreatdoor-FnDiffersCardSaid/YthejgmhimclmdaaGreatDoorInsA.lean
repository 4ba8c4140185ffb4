/- InsA: equations of the functions of this seat as the executor tells them, or plain facts about them. Conditions: none here. -/
import Derived.Test.YthejgmhimclmdaaGreatDoorDenFour
import Derived.Shelf.Spec.SlicesInsert
import Derived.Shelf.Spec.SlicesInsertGrow
import Derived.Shelf.Slices.Delete
import Derived.Test.YthejgmhimclmdaaGreatDoorProg
import Derived.KernelRfl
set_option linter.all false
open List (length_drop)
open Nat (add_assoc)
namespace Go.Den.S
open Go Go.Den Go.Proofs Go.Lib Go.Shelf Go.RowKit Go.Sort

set_option maxHeartbeats 4000000 in
set_option maxRecDepth 100000 in
theorem qnB (b off n c i vb voff m vc:Nat) (cs vs:List Value) (w:World) (hi:i < n) (hm:0 < m) (hroom:n+m<=c) (h63:n+m<=9223372036854775807) (hvb:vb≠b)
  (hcl:cs.length=n * 3) (hvl:vs.length=m * 3)
  (hcs:∀ j v,cs[j]?=some v->w.cell? ⟨b,off+j,none⟩=some v) (hsp:∀ j,j < (n+m) * 3->(w.cell? ⟨b,off+j,none⟩).isSome=true) (hfz:∀ j,j < (n+m) * 3->w.frozen? ⟨b,off+j,none⟩=false)
  (hvs:∀ j v,vs[j]?=some v->w.cell? ⟨vb,voff+j,none⟩=some v) (h1c:∀ v∈cs,v.oneCell'=true) (h1v:∀ v∈vs,v.oneCell'=true)
  (tA tB:TypeId) (kA kB:Nat) (hsa:w.shape? vb=some (tA,kA)) (hsb:w.shape? b=some (tB,kB)) (hkB:kB≠0) (hfa:w.frozen? ⟨vb,voff,none⟩=false) (hfe:w.frozen? ⟨vb,kA,none⟩=false) :
  Calls Tryz.prog 245 #[.slice (some ⟨b,off,none⟩) n c,.int .i64 i,.slice (some ⟨vb,voff,none⟩) m vc] w fun e w'=>
   e=.returned (.slice (some ⟨b,off,none⟩) (n+m) c)/\w'=(w.drew.setCells b (off+(i+m) * 3) (cs.drop (i * 3))).setCells b (off+i * 3) vs:=by
 have t0:=Tryz.underlying0; have a0:=Tryz.isAgg0; have z0:=Tryz.sizeOf0; have v0:=Tryz.zeroValue0; have u0:=run_underlying Tryz.underlying0;have t3:=Tryz.underlying3; have a3:=Tryz.isAgg3; have z3:=Tryz.sizeOf3; have v3:=Tryz.zeroValue3; have u3:=run_underlying Tryz.underlying3;have t4:=Tryz.underlying4; have a4:=Tryz.isAgg4; have z4:=Tryz.sizeOf4; have v4:=Tryz.zeroValue4; have u4:=run_underlying Tryz.underlying4;have t32:=Tryz.underlying32; have a32:=Tryz.isAgg32; have z32:=Tryz.sizeOf32; have v32:=Tryz.zeroValue32; have u32:=run_underlying Tryz.underlying32;have z146:=Tryz.sizeOf146;have mixed:Tryz.prog.follows .mixedOrders=true:=by kernel_rfl
 have hsz:(Tryz.prog.info? 146).map (·.size)=some 3:=by kernel_rfl
 have hz1:¬ ((m:Int)=0):=by omega
 have hz2:¬ ((i:Int)=(n:Int)):=by omega
 have hov:∀ lb cb,(callFunc 279 #[.slice (some ⟨vb,voff,none⟩) m vc,.slice (some ⟨b,off+(i+m) * 3,none⟩) lb cb]).run Tryz.prog w=.ok (.value (.bool false)) w:=fun lb cb=>by
  rw [run_callFunc_extern Tryz.func279 (by kernel_rfl) (by kernel_rfl) (by kernel_rfl) (e:=Extern.SlicesOverlaps.overlaps #[32,32] #[4]) (by kernel_rfl),
   Lib.run_overlaps_apart w 32 4 146 Tryz.underlying32 3 Tryz.sizeOf146 ⟨vb,voff,none⟩ ⟨b,off+(i+m) * 3,none⟩ m vc lb cb hvb tA tB kA kB hsa hsb hkB hfa hfe]
  rfl
 have hdl:(cs.drop (i * 3)).length=(n - i) * 3:=by rw [length_drop,hcl]; try omega
 have hw1:IntKind.i64.wrap ((i:Int)+(m:Int))=(i:Int)+(m:Int):=by rw [IntKind.wrap_i64]; omega
 have hb1:(0:Int)<=(i:Int)+(m:Int):=by omega
 have hin:i<=n:=by omega
 have htn:((i:Int)+(m:Int)).toNat=i+m:=by omega
 have hb2:¬ (c=i+m):=by omega
 have hb3:(i:Int)<=(n:Int)+(m:Int):=by omega
 have hb4:¬ (c=i):=by omega
 have hcp1:∀ ty dc sc,(Builtin.copy_ #[32,32] ty #[.slice (some ⟨b,off+(i+m) * 3,none⟩) (n+m - (i+m)) dc,.slice (some ⟨b,off+i * 3,none⟩) (n+m - i) sc]).run Tryz.prog w.drew=.ok (goInt ((n - i:Nat):Int)) (w.drew.setCells b (off+(i+m) * 3) (cs.drop (i * 3))):=fun ty dc sc=>by
  have hmin:Nat.min (n+m - i) (n+m - (i+m))=n - i:=by simp only [Nat.min_def]; split<;>omega
  have:=q8r (P:=Tryz.prog) w.drew 32 32 ty 146 3 b (off+(i+m) * 3) (n+m - (i+m)) dc ⟨b,off+i * 3,none⟩ (n+m - i) sc (cs.drop (i * 3)) Tryz.underlying32 hsz (by rw [hdl,hmin]; try omega)
   (fun j v hj=>by rw [Addr.add_lit,add_assoc]; exact hcs (i * 3+j) v (by rwa [List.getElem?_drop] at hj))
   (fun j hj=>by rw [add_assoc]; exact hsp _ (by omega)) (fun j hj=>by rw [add_assoc]; exact hfz _ (by omega)) (fun v hv=>h1c v (List.mem_of_mem_drop hv))
  rw [hmin] at this;exact this
 obtain ⟨W1,hW1⟩:∃ W1,W1=w.drew.setCells b (off+(i+m) * 3) (cs.drop (i * 3)):=⟨_,rfl⟩
 have hsp1:∀ k,k < (n+m) * 3->(W1.cell? ⟨b,off+k,none⟩).isSome=true:=fun k hk=>by
  rw [hW1];exact isSome_setCells b _ _ _ (fun j hj=>by rw [add_assoc]; exact hsp _ (by omega)) _ (hsp k hk)
 have hcp2:∀ (W:World),(∀ x,W.cell? x=W1.cell? x)->(∀ x,W.frozen? x=W1.frozen? x)->∀ ty dc,(Builtin.copy_ #[32,32] ty #[.slice (some ⟨b,off+i * 3,none⟩) (n+m - i) dc,.slice (some ⟨vb,voff,none⟩) m vc]).run Tryz.prog W=.ok (goInt m) (W.setCells b (off+i * 3) vs):=fun W hWc hWf ty dc=>by
  have hmin:Nat.min m (n+m - i)=m:=by simp only [Nat.min_def]; split<;>omega
  have:=q8r (P:=Tryz.prog) W 32 32 ty 146 3 b (off+i * 3) (n+m - i) dc ⟨vb,voff,none⟩ m vc vs Tryz.underlying32 hsz (by rw [hvl,hmin]; try omega)
   (fun j v hj=>by
    rw [Addr.add_lit,hWc,hW1,World.cell?_setCells_out b _ _ _ _ (fun h _=>absurd h hvb)]
    exact hvs j v hj)
   (fun j hj=>by rw [hWc,add_assoc]; exact hsp1 _ (by omega)) (fun j hj=>by rw [hWf,hW1,World.frozen?_setCells,add_assoc]; exact hfz _ (by omega)) h1v
  rw [hmin] at this;exact this
 rw [<- hW1] at hcp1
 go_enter Tryz.func245,Tryz.ntmps245
 go_wp2_with (simp only [hov])
 go_region_law_o (refine step_copy_runI rfl _ _ 32 32 rfl _ _ (by simp [Act.eval,Act.put]) (by simp [Act.eval,Act.put]) (hcp1 _ _ _) ?_)
 go_wp2_with (at_builtin; refine wpList_copy_runI _ rfl _ _ 32 32 rfl _ _ rfl rfl (hcp2 _ (fun _=>rfl) (fun _=>rfl) _ _) ?_)
 go_ret
 first | exact ⟨rfl,rfl⟩ | exact ⟨rfl,by rw [hW1]⟩

set_option maxHeartbeats 4000000 in
set_option maxRecDepth 100000 in
theorem qjB (b off n c vb voff m vc:Nat) (vs:List Value) (w:World) (hm:0 < m) (hroom:n+m<=c)
  (hvl:vs.length=m * 3) (hsp:∀ j,j < vs.length->(w.cell? ⟨b,off+n * 3+j,none⟩).isSome=true) (hfz:∀ j,j < vs.length->w.frozen? ⟨b,off+n * 3+j,none⟩=false)
  (hvs:∀ j v,vs[j]?=some v->w.cell? ⟨vb,voff+j,none⟩=some v) (h1v:∀ v∈vs,v.oneCell'=true) :
  Calls Tryz.prog 245 #[.slice (some ⟨b,off,none⟩) n c,.int .i64 n,.slice (some ⟨vb,voff,none⟩) m vc] w fun e w'=>
   e=.returned (.slice (some ⟨b,off,none⟩) (n+m) c)/\w'=w.setCells b (off+n * 3) vs:=by
 have t0:=Tryz.underlying0; have a0:=Tryz.isAgg0; have z0:=Tryz.sizeOf0; have v0:=Tryz.zeroValue0; have u0:=run_underlying Tryz.underlying0;have t3:=Tryz.underlying3; have a3:=Tryz.isAgg3; have z3:=Tryz.sizeOf3; have v3:=Tryz.zeroValue3; have u3:=run_underlying Tryz.underlying3;have t4:=Tryz.underlying4; have a4:=Tryz.isAgg4; have z4:=Tryz.sizeOf4; have v4:=Tryz.zeroValue4; have u4:=run_underlying Tryz.underlying4;have t32:=Tryz.underlying32; have a32:=Tryz.isAgg32; have z32:=Tryz.sizeOf32; have v32:=Tryz.zeroValue32; have u32:=run_underlying Tryz.underlying32;have z146:=Tryz.sizeOf146;have mixed:Tryz.prog.follows .mixedOrders=true:=by kernel_rfl
 have hsz:(Tryz.prog.info? 146).map (·.size)=some 3:=by kernel_rfl
 have hz1:¬ ((m:Int)=0):=by omega
 obtain ⟨i0,hi0,hz0,hzs,hzb⟩:=info_parts (show (Tryz.prog.info? 146).map (fun i=>(i.zero,i.size,i.bytes))=some (some (Value.agg #[Value.string { data:=#[] },Value.string { data:=#[] },Value.int IntKind.i64 0]),3,40) by kernel_rfl)
 have hrun:∀ ty,(Builtin.append_ #[32,32] ty #[.slice (some ⟨b,off,none⟩) n c,.slice (some ⟨vb,voff,none⟩) m vc]).run Tryz.prog w=.ok (.slice (some ⟨b,off,none⟩) (n+m) c) (w.setCells b (off+n * 3) vs):=fun ty=>by
  have h:=run_append_fits (ty:=ty) (ts:=[]) Tryz.underlying32 (show qaY Tryz.prog 32=true by kernel_rfl) hi0 (A:=some ⟨b,off,none⟩) (n:=n) (c:=c) (k:=m) (xv:=.slice (some ⟨vb,voff,none⟩) m vc) (news:=vs.toArray) (w:=w) rfl
   (by rw [hzs]; exact run_firstCells_some w 3 m ⟨vb,voff,none⟩ m vc vs (by rw [hvl]; try omega) (fun j u hj=>by rw [Addr.add_lit]; exact hvs j u hj)) hroom
  refine h.trans ?_;have hst:=run_storeCells_cells (P:=Tryz.prog) b (off+n * 3) vs 0 w (by simpa using hsp) (by simpa using hfz) h1v
  simp only [addr_add,hzs,Nat.mul_one,List.toList_toArray];rw [hst];rfl
 go_enter Tryz.func245,Tryz.ntmps245
 go_wp2_with (at_builtin; refine Lib.wpList_append_run _ rfl _ _ _ _ rfl _ _ rfl rfl _ _ (hrun _) ?_)
 go_ret
 exact ⟨rfl,rfl⟩

set_option maxHeartbeats 4000000 in
set_option maxRecDepth 100000 in
theorem qjA (base:Option Addr) (n c vb voff m vc:Nat) (cs vs:List Value) (w:World) (hm:0 < m) (hnc:n<=c) (hroom:c < n+m) (hbig:(n+m) * 40<=140737488355328)
  (hcl:cs.length=n * 3) (hvl:vs.length=m * 3) (hnil:base=none->n=0)
  (hcs:∀ a,base=some a->∀ j v,cs[j]?=some v->w.cell? (a.add j)=some v)
  (hvs:∀ j v,vs[j]?=some v->w.cell? ⟨vb,voff+j,none⟩=some v) :
  Calls Tryz.prog 245 #[.slice base n c,.int .i64 n,.slice (some ⟨vb,voff,none⟩) m vc] w fun e w'=>∃ cap,n+m<=cap /\
   e=.returned (.slice (some ⟨w.heap.size,0,none⟩) (n+m) cap) /\
   w'=w.drew.alloc (.cells ((cs++vs).toArray++Builtin.zeroCells (Value.cells (Value.agg #[Value.string { data:=#[] },Value.string { data:=#[] },Value.int IntKind.i64 0])) (cap - (n+m))) 146):=by
 have t0:=Tryz.underlying0; have a0:=Tryz.isAgg0; have z0:=Tryz.sizeOf0; have v0:=Tryz.zeroValue0; have u0:=run_underlying Tryz.underlying0;have t3:=Tryz.underlying3; have a3:=Tryz.isAgg3; have z3:=Tryz.sizeOf3; have v3:=Tryz.zeroValue3; have u3:=run_underlying Tryz.underlying3;have t4:=Tryz.underlying4; have a4:=Tryz.isAgg4; have z4:=Tryz.sizeOf4; have v4:=Tryz.zeroValue4; have u4:=run_underlying Tryz.underlying4;have t32:=Tryz.underlying32; have a32:=Tryz.isAgg32; have z32:=Tryz.sizeOf32; have v32:=Tryz.zeroValue32; have u32:=run_underlying Tryz.underlying32;have z146:=Tryz.sizeOf146;have mixed:Tryz.prog.follows .mixedOrders=true:=by kernel_rfl
 have hsz:(Tryz.prog.info? 146).map (·.size)=some 3:=by kernel_rfl
 have hz1:¬ ((m:Int)=0):=by omega
 obtain ⟨i0,hi0,hz0,hzs,hzb⟩:=info_parts (show (Tryz.prog.info? 146).map (fun i=>(i.zero,i.size,i.bytes))=some (some (Value.agg #[Value.string { data:=#[] },Value.string { data:=#[] },Value.int IntKind.i64 0]),3,40) by kernel_rfl)
 obtain ⟨cap,hcap,hrun⟩:∃ cap,n+m<=cap/\∀ ty,(Builtin.append_ #[32,32] ty #[.slice base n c,.slice (some ⟨vb,voff,none⟩) m vc]).run Tryz.prog w=.ok (.slice (some ⟨w.heap.size,0,none⟩) (n+m) cap) (w.drew.alloc (.cells ((cs++vs).toArray++Builtin.zeroCells (Value.cells (Value.agg #[Value.string { data:=#[] },Value.string { data:=#[] },Value.int IntKind.i64 0])) (cap - (n+m))) 146)):=by
  have hcell:∀ (W:World) (x:Addr),W.heap=w.heap->W.cell? x=w.cell? x:=fun W x h=>by simp only [World.cell?,h]
  have h:=fun ty=>q91 (ty:=ty) (ts:=[]) Tryz.underlying32 (show qaY Tryz.prog 32=true by kernel_rfl) hi0 hz0 (A:=base) (n:=n) (c:=c) (k:=m) (xv:=.slice (some ⟨vb,voff,none⟩) m vc) (olds:=cs.toArray) (news:=vs.toArray) (w:=w)
   (fun W hW=>by
    rw [hzs];cases base with
    | none=>
     have h0:=hnil rfl;subst h0;have:cs=[]:=List.length_eq_zero_iff.1 (by omega)
     subst this;exact run_firstCells_none W 3 0 0 c
    | some a=>exact run_firstCells_some W 3 n a n c cs (by rw [hcl]; try omega) (fun j v hj=>by rw [hcell W _ hW]; exact hcs a rfl j v hj))
   (fun W hW=>⟨rfl,by rw [hzs]; exact run_firstCells_some W 3 m ⟨vb,voff,none⟩ m vc vs (by rw [hvl]; try omega) (fun j u hj=>by rw [Addr.add_lit,hcell W _ hW]; exact hvs j u hj)⟩) hroom (by rw [hzb]; exact hbig) (by rw [hzb]; decide)
  obtain ⟨cap,h1,h2⟩:=h 0;refine ⟨cap,h1,fun ty=>?_⟩
  have e:(Builtin.append_ #[32,32] ty #[.slice base n c,.slice (some ⟨vb,voff,none⟩) m vc]).run Tryz.prog w=(Builtin.append_ #[32,32] 0 #[.slice base n c,.slice (some ⟨vb,voff,none⟩) m vc]).run Tryz.prog w:=rfl;rw [e];rw [<- List.append_toArray];exact h2
 go_enter Tryz.func245,Tryz.ntmps245
 cases base with
 | none=>
  have h0:=hnil rfl;subst h0
  go_wp2_with (at_builtin; refine Lib.wpList_append_run _ rfl _ _ _ _ rfl _ _ rfl rfl _ _ (hrun _) ?_)
  go_ret
  exact ⟨cap,by omega,rfl,rfl⟩
 | some a=>
  obtain ⟨ab,ao,asp⟩:=a
  go_wp2_with (at_builtin; refine Lib.wpList_append_run _ rfl _ _ _ _ rfl _ _ rfl rfl _ _ (hrun _) ?_)
  all_goals (go_ret; exact ⟨cap,by omega,rfl,rfl⟩)

set_option maxHeartbeats 4000000 in
set_option maxRecDepth 100000 in
theorem qoJ (b off n c i vb voff m vc:Nat) (cs vs:List Value) (w:World) (hi:i < n) (hm:0 < m) (hnc:n<=c) (hroom:c < n+m) (hbig:(n+m) * 40<=140737488355328)
  (hcl:cs.length=n * 3) (hvl:vs.length=m * 3)
  (hcs:∀ j v,cs[j]?=some v->w.cell? ⟨b,off+j,none⟩=some v)
  (hvs:∀ j v,vs[j]?=some v->w.cell? ⟨vb,voff+j,none⟩=some v) (h1c:∀ v∈cs,v.oneCell'=true) (h1v:∀ v∈vs,v.oneCell'=true) :
  Calls Tryz.prog 245 #[.slice (some ⟨b,off,none⟩) n c,.int .i64 i,.slice (some ⟨vb,voff,none⟩) m vc] w fun e w'=>∃ cap,n+m<=cap /\
   e=.returned (.slice (some ⟨w.heap.size,0,none⟩) (n+m) cap) /\
   w'=(((w.alloc (.cells ((cs.take (i * 3)).toArray++Builtin.zeroCells (Value.cells (Value.agg #[Value.string { data:=#[] },Value.string { data:=#[] },Value.int IntKind.i64 0])) (n+m - i)++Builtin.zeroCells (Value.cells (Value.agg #[Value.string { data:=#[] },Value.string { data:=#[] },Value.int IntKind.i64 0])) (cap - (n+m))) 146)).drew.setCells w.heap.size (i * 3) vs).drew).setCells w.heap.size ((i+m) * 3) (cs.drop (i * 3)):=by
 have t0:=Tryz.underlying0; have a0:=Tryz.isAgg0; have z0:=Tryz.sizeOf0; have v0:=Tryz.zeroValue0; have u0:=run_underlying Tryz.underlying0;have t3:=Tryz.underlying3; have a3:=Tryz.isAgg3; have z3:=Tryz.sizeOf3; have v3:=Tryz.zeroValue3; have u3:=run_underlying Tryz.underlying3;have t4:=Tryz.underlying4; have a4:=Tryz.isAgg4; have z4:=Tryz.sizeOf4; have v4:=Tryz.zeroValue4; have u4:=run_underlying Tryz.underlying4;have t32:=Tryz.underlying32; have a32:=Tryz.isAgg32; have z32:=Tryz.sizeOf32; have v32:=Tryz.zeroValue32; have u32:=run_underlying Tryz.underlying32;have z146:=Tryz.sizeOf146;have mixed:Tryz.prog.follows .mixedOrders=true:=by kernel_rfl
 have hsz:(Tryz.prog.info? 146).map (·.size)=some 3:=by kernel_rfl
 have hz1:¬ ((m:Int)=0):=by omega
 obtain ⟨i0,hi0,hz0,hzs,hzb⟩:=info_parts (show (Tryz.prog.info? 146).map (fun i=>(i.zero,i.size,i.bytes))=some (some (Value.agg #[Value.string { data:=#[] },Value.string { data:=#[] },Value.int IntKind.i64 0]),3,40) by kernel_rfl)
 have hz2:¬ ((i:Int)=(n:Int)):=by omega
 have hz3:(c:Int) < (n:Int)+(m:Int):=by omega
 have hbw:b < w.heap.size:=block_lt_of_cell (hcs 0 _ (List.getElem?_eq_getElem (by omega)))
 have hvw:vb < w.heap.size:=block_lt_of_cell (hvs 0 _ (List.getElem?_eq_getElem (by omega)))
 have hkk:(n:Int)+(m:Int) - (i:Int)=((n+m - i:Nat):Int):=by omega
 have hik:i+(n+m - i)=n+m:=by omega
 have hold:(Builtin.firstCells i0.size i (.slice (some ⟨b,off,none⟩) i c)).run Tryz.prog w.drew=.ok (cs.take (i * 3)).toArray w.drew:=by
  rw [hzs];exact run_firstCells_some w.drew 3 i ⟨b,off,none⟩ i c (cs.take (i * 3)) (by rw [List.length_take]; omega) (fun j v hj=>by
   rw [Addr.add_lit];rw [List.getElem?_take] at hj;split at hj
   ·exact hcs j v hj
   ·cases hj)
 obtain ⟨G,hG⟩:∃ G,G=grownCap w (n+m) c 146:=⟨_,rfl⟩
 have hrz:∀ ty,(Builtin.append_ #[32,3] ty #[.slice (some ⟨b,off,none⟩) i c,.int .i64 ((n:Int)+(m:Int) - (i:Int))]).run Tryz.prog w =
   .ok (.slice (some ⟨w.heap.size,0,none⟩) (n+m) G) (w.drew.alloc (.cells ((cs.take (i * 3)).toArray++Builtin.zeroCells (Value.cells (Value.agg #[Value.string { data:=#[] },Value.string { data:=#[] },Value.int IntKind.i64 0])) (n+m - i)++Builtin.zeroCells (Value.cells (Value.agg #[Value.string { data:=#[] },Value.string { data:=#[] },Value.int IntKind.i64 0])) (G - (n+m))) 146)):=fun ty=>by
  have h:=Lib.run_append_grow_zeros w 32 3 ty 146 i0 _ .i64 .i64 Tryz.underlying32 Tryz.underlying3 hi0 hz0 (some ⟨b,off,none⟩) i c (cs.take (i * 3)) hold (n+m - i) (by omega) (by omega) (by omega) (by omega) (by rw [hzb]; omega) (by rw [hzb,hik]; exact growslice_fits hroom hbig)
  rw [hik] at h;rw [hkk,hG];exact h
 obtain ⟨ROW,hROW⟩:∃ ROW:Array Value,ROW=(cs.take (i * 3)).toArray++Builtin.zeroCells (Value.cells (Value.agg #[Value.string { data:=#[] },Value.string { data:=#[] },Value.int IntKind.i64 0])) (n+m - i)++Builtin.zeroCells (Value.cells (Value.agg #[Value.string { data:=#[] },Value.string { data:=#[] },Value.int IntKind.i64 0])) (G - (n+m)):=⟨_,rfl⟩
 have hRl:(n+m) * 3<=ROW.size:=by
  have hk:(Value.cells (Value.agg #[Value.string { data:=#[] },Value.string { data:=#[] },Value.int IntKind.i64 0])).size=3:=by decide
  rw [hROW];simp only [Array.size_append,q36,hk,List.size_toArray,List.length_take,hcl];omega
 have hend:∀ W':World,W'=(((w.alloc (.cells ROW 146)).drew.setCells w.heap.size (i * 3) vs).drew).setCells w.heap.size ((i+m) * 3) (cs.drop (i * 3))->
   W'=(((w.alloc (.cells ((cs.take (i * 3)).toArray++Builtin.zeroCells (Value.cells (Value.agg #[Value.string { data:=#[] },Value.string { data:=#[] },Value.int IntKind.i64 0])) (n+m - i)++Builtin.zeroCells (Value.cells (Value.agg #[Value.string { data:=#[] },Value.string { data:=#[] },Value.int IntKind.i64 0])) (G - (n+m))) 146)).drew.setCells w.heap.size (i * 3) vs).drew).setCells w.heap.size ((i+m) * 3) (cs.drop (i * 3)):=fun W' h=>by rw [h,hROW]
 rw [<- hROW] at hrz;obtain ⟨W1,hW1⟩:∃ W1,W1=w.drew.alloc (.cells ROW 146):=⟨_,rfl⟩
 rw [<- hW1] at hrz;have hN:∀ j,j < (n+m) * 3->(W1.cell? ⟨w.heap.size,j,none⟩).isSome=true:=fun j hj=>by
  rw [hW1,World.cell?_alloc_at (w:=w.drew) ROW _ w.heap.size j rfl,Array.getElem?_eq_getElem (by omega)]; rfl
 have hNf:∀ j,W1.frozen? ⟨w.heap.size,j,none⟩=false:=fun j=>by rw [hW1]; exact World.frozen?_alloc_at (w:=w.drew) ROW _ w.heap.size j rfl
 have hOb:∀ j v,w.cell? ⟨b,j,none⟩=some v->W1.cell? ⟨b,j,none⟩=some v:=fun j v h=>by rw [hW1,World.cell?_alloc_past (w:=w.drew) _ b j hbw]; exact h
 have hOv:∀ j v,w.cell? ⟨vb,j,none⟩=some v->W1.cell? ⟨vb,j,none⟩=some v:=fun j v h=>by rw [hW1,World.cell?_alloc_past (w:=w.drew) _ vb j hvw]; exact h
 have hcpA:∀ (W:World),(∀ x,W.cell? x=W1.cell? x)->(∀ x,W.frozen? x=W1.frozen? x)->∀ ty dc,(Builtin.copy_ #[32,32] ty #[.slice (some ⟨w.heap.size,i * 3,none⟩) (n+m - i) dc,.slice (some ⟨vb,voff,none⟩) m vc]).run Tryz.prog W=.ok (goInt m) (W.setCells w.heap.size (i * 3) vs):=fun W hWc hWf ty dc=>by
  have hmin:Nat.min m (n+m - i)=m:=by simp only [Nat.min_def]; split<;>omega
  have:=q8r (P:=Tryz.prog) W 32 32 ty 146 3 w.heap.size (i * 3) (n+m - i) dc ⟨vb,voff,none⟩ m vc vs Tryz.underlying32 hsz (by rw [hvl,hmin]; try omega)
   (fun j v hj=>by rw [Addr.add_lit,hWc]; exact hOv _ v (hvs j v hj))
   (fun j hj=>by rw [hWc]; exact hN _ (by omega)) (fun j hj=>by rw [hWf]; exact hNf _) h1v
  rw [hmin] at this;exact this
 have hGn:n+m<=G:=by rw [hG]; exact grownCap_ge w _ _ _
 have hGi:¬ (G=i):=by omega
 have hGim:¬ (G=i+m):=by omega
 have hci:¬ (c=i):=by omega
 have hbN:b≠w.heap.size:=by omega
 have hdl:(cs.drop (i * 3)).length=(n - i) * 3:=by rw [length_drop,hcl]; try omega
 have hcpB:∀ (W:World),(∀ x,W.cell? x=(W1.setCells w.heap.size (i * 3) vs).cell? x)->(∀ x,W.frozen? x=(W1.setCells w.heap.size (i * 3) vs).frozen? x)->∀ ty dc sc,(Builtin.copy_ #[32,32] ty #[.slice (some ⟨w.heap.size,(i+m) * 3,none⟩) (n+m - (i+m)) dc,.slice (some ⟨b,off+i * 3,none⟩) (n - i) sc]).run Tryz.prog W=.ok (goInt ((n - i:Nat):Int)) (W.setCells w.heap.size ((i+m) * 3) (cs.drop (i * 3))):=fun W hWc hWf ty dc sc=>by
  have hmin:Nat.min (n - i) (n+m - (i+m))=n - i:=by simp only [Nat.min_def]; split<;>omega
  have:=q8r (P:=Tryz.prog) W 32 32 ty 146 3 w.heap.size ((i+m) * 3) (n+m - (i+m)) dc ⟨b,off+i * 3,none⟩ (n - i) sc (cs.drop (i * 3)) Tryz.underlying32 hsz (by rw [hdl,hmin]; try omega)
   (fun j v hj=>by
    rw [Addr.add_lit,hWc,World.cell?_setCells_out _ _ _ _ _ (fun h _=>absurd h hbN),add_assoc]
    exact hOb _ v (hcs (i * 3+j) v (by rwa [List.getElem?_drop] at hj)))
   (fun j hj=>by rw [hWc]; exact isSome_setCells _ _ _ _ (fun t ht=>hN _ (by omega)) _ (hN _ (by omega)))
   (fun j hj=>by rw [hWf,World.frozen?_setCells]; exact hNf _) (fun v hv=>h1c v (List.mem_of_mem_drop hv))
  rw [hmin] at this;exact this
 subst hW1;have hE1:∀ x,((w.alloc (.cells ROW 146)).drew).cell? x=(w.drew.alloc (.cells ROW 146)).cell? x:=fun x=>rfl
 have hE2:∀ x,((w.alloc (.cells ROW 146)).drew).frozen? x=(w.drew.alloc (.cells ROW 146)).frozen? x:=fun x=>rfl
 have hF1:∀ x,(((w.alloc (.cells ROW 146)).drew.setCells w.heap.size (i * 3) vs).drew).cell? x=((w.drew.alloc (.cells ROW 146)).setCells w.heap.size (i * 3) vs).cell? x:=fun x=>rfl
 have hF2:∀ x,(((w.alloc (.cells ROW 146)).drew.setCells w.heap.size (i * 3) vs).drew).frozen? x=((w.drew.alloc (.cells ROW 146)).setCells w.heap.size (i * 3) vs).frozen? x:=fun x=>rfl
 have hw1:IntKind.i64.wrap ((i:Int)+(m:Int))=(i:Int)+(m:Int):=by rw [IntKind.wrap_i64]; omega
 have hb1:(0:Int)<=(i:Int)+(m:Int):=by omega
 have hin:i<=n:=by omega
 have htn:((i:Int)+(m:Int)).toNat=i+m:=by omega
 have hb3:(i:Int)<=(n:Int):=by omega
 clear hkk hik hold hROW hG hRl
 go_enter Tryz.func245,Tryz.ntmps245
 go_wp2_with (first
  | (at_builtin; refine Lib.wpList_append_run _ rfl _ _ _ _ rfl _ _ rfl rfl _ _ (hrz _) ?_)
  | (at_builtin; refine wpList_copy_runI _ rfl _ _ 32 32 rfl _ _ rfl rfl (hcpA _ hE1 hE2 _ _) ?_)
  | (at_builtin; refine wpList_copy_runI _ rfl _ _ 32 32 rfl _ _ rfl rfl (hcpB _ (fun _=>rfl) (fun _=>rfl) _ _ _) ?_))
 go_region_law_o (refine step_copy_runI rfl _ _ 32 32 rfl (.slice (some ⟨w.heap.size,(i+m) * 3,none⟩) (n+m - (i+m)) (G - (i+m))) (.slice (some ⟨b,off+i * 3,none⟩) (n - i) (c - i)) (by simp [Act.eval,Act.put]) (by simp [Act.eval,Act.put]) (hcpB _ hF1 hF2 3 (G - (i+m)) (c - i)) ?_)
 go_wp2
 go_ret
 exact ⟨G,hGn,rfl,hend _ rfl⟩
end Go.Den.S
namespace Go.Den.S
open Go Go.Den Go.Proofs Go.Lib Go.Shelf Go.RowKit Go.Sort

set_option maxHeartbeats 4000000 in
set_option maxRecDepth 100000 in
theorem qom (base:Option Addr) (n c i:Nat) (w:World) (hnc:n<=c) (hi:i<=n) (h63:n<=4611686018427387903) (hnil:base=none->n=0/\c=0) :
  Calls Tryz.prog 187 #[.slice base n c,.int .i64 i,.int .i64 i] w fun e w'=>e=.returned (.slice base n c)/\w'=w:=by
 have t0:=Tryz.underlying0; have a0:=Tryz.isAgg0; have z0:=Tryz.sizeOf0; have v0:=Tryz.zeroValue0; have u0:=run_underlying Tryz.underlying0;have t3:=Tryz.underlying3; have a3:=Tryz.isAgg3; have z3:=Tryz.sizeOf3; have v3:=Tryz.zeroValue3; have u3:=run_underlying Tryz.underlying3;have t4:=Tryz.underlying4; have a4:=Tryz.isAgg4; have z4:=Tryz.sizeOf4; have v4:=Tryz.zeroValue4; have u4:=run_underlying Tryz.underlying4;have t32:=Tryz.underlying32; have a32:=Tryz.isAgg32; have z32:=Tryz.sizeOf32; have v32:=Tryz.zeroValue32; have u32:=run_underlying Tryz.underlying32;have z146:=Tryz.sizeOf146; have v146:=Tryz.zeroValue146;have mixed:Tryz.prog.follows .mixedOrders=true:=by kernel_rfl
 go_enter Tryz.func187,Tryz.ntmps187
 cases base with
 | none=>
  obtain ⟨h0,h1⟩:=hnil rfl;subst h0; subst h1;have hi0:i=0:=by omega
  subst hi0
  go_wp2
  all_goals (go_ret; exact ⟨rfl,rfl⟩)
 | some a=>
  obtain ⟨ab,ao,asp⟩:=a
  go_wp2
  all_goals (go_ret; exact ⟨rfl,rfl⟩)
set_option maxHeartbeats 4000000 in
set_option maxRecDepth 100000 in
theorem qon (b off n c i j:Nat) (cs:List Value) (w:World) (hnc:n<=c) (hij:i < j) (hj:j<=n) (h63:n<=4611686018427387903) (hcl:cs.length=n * 3)
  (hcs:∀ k v,cs[k]?=some v->w.cell? ⟨b,off+k,none⟩=some v) (hfz:∀ k,k < n * 3->w.frozen? ⟨b,off+k,none⟩=false) (h1c:∀ v∈cs,v.oneCell'=true) :
  Calls Tryz.prog 187 #[.slice (some ⟨b,off,none⟩) n c,.int .i64 i,.int .i64 j] w fun e w'=>e=.returned (.slice (some ⟨b,off,none⟩) (i+(n - j)) c) /\
   w'=(w.drew.setCells b (off+i * 3) (cs.drop (j * 3))).setCells b (off+(i+(n - j)) * 3) (Builtin.zeroCells (Value.agg #[Value.string { data:=#[] },Value.string { data:=#[] },Value.int IntKind.i64 0]).cells (n - (i+(n - j)))).toList:=by
 have t0:=Tryz.underlying0; have a0:=Tryz.isAgg0; have z0:=Tryz.sizeOf0; have v0:=Tryz.zeroValue0; have u0:=run_underlying Tryz.underlying0;have t3:=Tryz.underlying3; have a3:=Tryz.isAgg3; have z3:=Tryz.sizeOf3; have v3:=Tryz.zeroValue3; have u3:=run_underlying Tryz.underlying3;have t4:=Tryz.underlying4; have a4:=Tryz.isAgg4; have z4:=Tryz.sizeOf4; have v4:=Tryz.zeroValue4; have u4:=run_underlying Tryz.underlying4;have t32:=Tryz.underlying32; have a32:=Tryz.isAgg32; have z32:=Tryz.sizeOf32; have v32:=Tryz.zeroValue32; have u32:=run_underlying Tryz.underlying32;have z146:=Tryz.sizeOf146; have v146:=Tryz.zeroValue146;have mixed:Tryz.prog.follows .mixedOrders=true:=by kernel_rfl
 obtain ⟨i0,hi0,hz0,hz1,hz2⟩:=info_parts (show (Tryz.prog.info? 146).map (fun i=>(i.zero,i.size,i.bytes))=some (some (Value.agg #[Value.string { data:=#[] },Value.string { data:=#[] },Value.int IntKind.i64 0]),3,40) by kernel_rfl)
 have hsp:∀ k,k < n * 3->(w.cell? ⟨b,off+k,none⟩).isSome=true:=fun k hk=>by rw [hcs k _ (List.getElem?_eq_getElem (by omega))]; rfl
 have hdl:(cs.drop (j * 3)).length=(n - j) * 3:=by rw [length_drop,hcl]; omega
 obtain ⟨X,hA,hsrc⟩:∃ X:Addr,(if c=j then some (⟨b,off,none⟩:Addr) else some ⟨b,off+j * 3,none⟩)=some X/\Hid (∀ t u,(cs.drop (j * 3))[t]?=some u->w.drew.cell? (X.add t)=some u):=by
  by_cases h:c=j
  ·refine ⟨⟨b,off,none⟩,by simp [h],fun t u hu=>?_⟩
   have h0:(cs.drop (j * 3)).length=0:=by rw [hdl]; omega
   rw [List.length_eq_zero_iff.1 h0] at hu;simp at hu
  ·refine ⟨⟨b,off+j * 3,none⟩,by simp [h],fun t u hu=>?_⟩
   rw [Addr.add_lit,add_assoc];exact hcs (j * 3+t) u (by rwa [List.getElem?_drop] at hu)
 obtain ⟨news,hnews⟩:∃ news,news=cs.drop (j * 3):=⟨_,rfl⟩
 rw [<- hnews] at hsrc hdl ⊢;have s1:Hid (news.length=(n - j) * 3):=hdl;have s2:Hid (∀ u∈news,u.oneCell'=true):=fun u hu=>h1c u (by rw [hnews] at hu; exact List.mem_of_mem_drop hu)
 have s3:Hid (∀ t,t < news.length->(w.drew.cell? ⟨b,off+i * 3+t,none⟩).isSome=true/\w.drew.frozen? ⟨b,off+i * 3+t,none⟩=false):=by
  intro t ht;rw [hdl] at ht;rw [add_assoc];exact ⟨hsp (i * 3+t) (by omega),hfz (i * 3+t) (by omega)⟩
 obtain ⟨W1,hW1⟩:∃ W1,W1=w.drew.setCells b (off+i * 3) news:=⟨_,rfl⟩
 have hsp1:∀ k,k < n * 3->(W1.cell? ⟨b,off+k,none⟩).isSome=true:=fun k hk=>by
  rw [hW1];exact isSome_setCells b _ _ _ (fun t ht=>by rw [add_assoc]; exact hsp _ (by omega)) _ (hsp k hk)
 have hfz1:∀ k,k < n * 3->W1.frozen? ⟨b,off+k,none⟩=false:=fun k hk=>by rw [hW1,World.frozen?_setCells]; exact hfz k hk
 have hzl:(Builtin.zeroCells (Value.agg #[Value.string { data:=#[] },Value.string { data:=#[] },Value.int IntKind.i64 0]).cells (n - (i+(n - j)))).toList.length=(n - (i+(n - j))) * 3:=by simp [Builtin.zeroCells,Value.cells]
 have hcl:∀ ty,(Builtin.clear_ #[32] ty #[.slice (some ⟨b,off+(i+(n - j)) * 3,none⟩) (n - (i+(n - j))) (c - (i+(n - j)))]).run Tryz.prog W1=.ok (.tuple #[]) (W1.setCells b (off+(i+(n - j)) * 3) (Builtin.zeroCells (Value.agg #[Value.string { data:=#[] },Value.string { data:=#[] },Value.int IntKind.i64 0]).cells (n - (i+(n - j)))).toList):=
  fun ty=>qlW W1 _ _ ty _ t32 v146 b (off+(i+(n - j)) * 3) _ _ (by omega) (fun t ht=>by rw [hzl] at ht; rw [add_assoc]; exact hsp1 _ (by omega)) (fun t ht=>by rw [hzl] at ht; rw [add_assoc]; exact hfz1 _ (by omega)) (qjo (by simp [Value.cells,Value.oneCell']) _)
 have hW:Hid (W1=w.drew.setCells b (off+i * 3) news):=hW1;have hic:i<=c:=by omega
 have hjc:j<=c:=by omega
 clear hW1 hsp1 hfz1 hnews hdl
 go_enter Tryz.func187,Tryz.ntmps187
 go_wp2_with fail
 go_region_law_o (refine step_append_room rfl (.tmp 22) (.tmp 25) 32 rfl 146 i0 3 t32 hi0 hz1 b off i c (by simp [Act.eval,Act.put]) X (n - j) (c - j) news (by simp [Act.eval,Act.put]) s1.out hsrc.out s2.out (by omega) s3.out ?_; rw [<- hW.out])
 go_wp2
 go_ret
 refine ⟨rfl,?_⟩;have:=hW.out;rw [<- this]; rfl
end Go.Den.S
