/- InsA: equations of the functions of this seat as the executor tells them, or plain facts about them. Conditions: none here. -/
import Derived.Test.YtbgaejnkjmjkhaaGreatDoorDenFour
import Derived.Shelf.Spec.SlicesInsert
import Derived.Shelf.Spec.SlicesInsertGrow
import Derived.Shelf.Slices.Delete
import Derived.Test.YtbgaejnkjmjkhaaGreatDoorProg
import Derived.KernelRfl
set_option linter.all false
namespace Go.Den.S
open Go Go.Den Go.Proofs Go.Lib Go.Shelf Go.RowKit Go.Sort

set_option maxHeartbeats 4000000 in
set_option maxRecDepth 100000 in
theorem qjl (b off n c i vb voff m vc:Nat) (cs vs:List Value) (w:World) (hi:i < n) (hm:0 < m) (hroom:n+m<=c) (h63:n+m<=9223372036854775807) (hvb:vb≠b)
  (hcl:cs.length=n * 5) (hvl:vs.length=m * 5)
  (hcs:∀ j v,cs[j]?=some v->w.cell? ⟨b,off+j,none⟩=some v) (hsp:∀ j,j < (n+m) * 5->(w.cell? ⟨b,off+j,none⟩).isSome=true) (hfz:∀ j,j < (n+m) * 5->w.frozen? ⟨b,off+j,none⟩=false)
  (hvs:∀ j v,vs[j]?=some v->w.cell? ⟨vb,voff+j,none⟩=some v) (h1c:∀ v∈cs,v.oneCell'=true) (h1v:∀ v∈vs,v.oneCell'=true)
  (tA tB:TypeId) (kA kB:Nat) (hsa:w.shape? vb=some (tA,kA)) (hsb:w.shape? b=some (tB,kB)) (hkB:kB≠0) (hfa:w.frozen? ⟨vb,voff,none⟩=false) (hfe:w.frozen? ⟨vb,kA,none⟩=false) :
  Calls Tryz.prog 154 #[.slice (some ⟨b,off,none⟩) n c,.int .i64 i,.slice (some ⟨vb,voff,none⟩) m vc] w fun e w'=>
   e=.returned (.slice (some ⟨b,off,none⟩) (n+m) c)/\w'=(w.drew.setCells b (off+(i+m) * 5) (cs.drop (i * 5))).setCells b (off+i * 5) vs:=by
 have t0:=Tryz.underlying0; have a0:=Tryz.isAgg0; have z0:=Tryz.sizeOf0; have v0:=Tryz.zeroValue0; have u0:=run_underlying Tryz.underlying0
 have t3:=Tryz.underlying3; have a3:=Tryz.isAgg3; have z3:=Tryz.sizeOf3; have v3:=Tryz.zeroValue3; have u3:=run_underlying Tryz.underlying3
 have t4:=Tryz.underlying4; have a4:=Tryz.isAgg4; have z4:=Tryz.sizeOf4; have v4:=Tryz.zeroValue4; have u4:=run_underlying Tryz.underlying4
 have t26:=Tryz.underlying26; have a26:=Tryz.isAgg26; have z26:=Tryz.sizeOf26; have v26:=Tryz.zeroValue26; have u26:=run_underlying Tryz.underlying26
 have z55:=Tryz.sizeOf55
 have mixed:Tryz.prog.follows .mixedOrders=true:=by kernel_rfl
 have hsz:(Tryz.prog.info? 55).map (·.size)=some 5:=by kernel_rfl
 have hz1:¬ ((m:Int)=0):=by omega
 have hz2:¬ ((i:Int)=(n:Int)):=by omega
 have hov:∀ lb cb,(callFunc 166 #[.slice (some ⟨vb,voff,none⟩) m vc,.slice (some ⟨b,off+(i+m) * 5,none⟩) lb cb]).run Tryz.prog w=.ok (.value (.bool false)) w:=fun lb cb=>by
  rw [run_callFunc_extern Tryz.func166 (by kernel_rfl) (by kernel_rfl) (by kernel_rfl) (e:=Extern.SlicesOverlaps.overlaps #[26,26] #[4]) (by kernel_rfl),
   Lib.run_overlaps_apart w 26 4 55 Tryz.underlying26 5 Tryz.sizeOf55 ⟨vb,voff,none⟩ ⟨b,off+(i+m) * 5,none⟩ m vc lb cb hvb tA tB kA kB hsa hsb hkB hfa hfe]
  rfl
 have hdl:(cs.drop (i * 5)).length=(n - i) * 5:=by rw [List.length_drop,hcl]; try omega
 have hw1:IntKind.i64.wrap ((i:Int)+(m:Int))=(i:Int)+(m:Int):=by rw [IntKind.wrap_i64]; omega
 have hb1:(0:Int)<=(i:Int)+(m:Int):=by omega
 have hin:i<=n:=by omega
 have htn:((i:Int)+(m:Int)).toNat=i+m:=by omega
 have hb2:¬ (c=i+m):=by omega
 have hb3:(i:Int)<=(n:Int)+(m:Int):=by omega
 have hb4:¬ (c=i):=by omega
 have hcp1:∀ ty dc sc,(Builtin.copy_ #[26,26] ty #[.slice (some ⟨b,off+(i+m) * 5,none⟩) (n+m - (i+m)) dc,.slice (some ⟨b,off+i * 5,none⟩) (n+m - i) sc]).run Tryz.prog w.drew=.ok (goInt ((n - i:Nat):Int)) (w.drew.setCells b (off+(i+m) * 5) (cs.drop (i * 5))):=fun ty dc sc=>by
  have hmin:Nat.min (n+m - i) (n+m - (i+m))=n - i:=by simp only [Nat.min_def]; split<;>omega
  have:=q2P (P:=Tryz.prog) w.drew 26 26 ty 55 5 b (off+(i+m) * 5) (n+m - (i+m)) dc ⟨b,off+i * 5,none⟩ (n+m - i) sc (cs.drop (i * 5)) Tryz.underlying26 hsz (by rw [hdl,hmin]; try omega)
   (fun j v hj=>by rw [Addr.add_lit,Nat.add_assoc]; exact hcs (i * 5+j) v (by rwa [List.getElem?_drop] at hj))
   (fun j hj=>by rw [Nat.add_assoc]; exact hsp _ (by omega)) (fun j hj=>by rw [Nat.add_assoc]; exact hfz _ (by omega)) (fun v hv=>h1c v (List.mem_of_mem_drop hv))
  rw [hmin] at this
  exact this
 obtain ⟨W1,hW1⟩:∃ W1,W1=w.drew.setCells b (off+(i+m) * 5) (cs.drop (i * 5)):=⟨_,rfl⟩
 have hsp1:∀ k,k < (n+m) * 5->(W1.cell? ⟨b,off+k,none⟩).isSome=true:=fun k hk=>by
  rw [hW1]
  exact isSome_setCells b _ _ _ (fun j hj=>by rw [Nat.add_assoc]; exact hsp _ (by omega)) _ (hsp k hk)
 have hcp2:∀ (W:World),(∀ x,W.cell? x=W1.cell? x)->(∀ x,W.frozen? x=W1.frozen? x)->∀ ty dc,(Builtin.copy_ #[26,26] ty #[.slice (some ⟨b,off+i * 5,none⟩) (n+m - i) dc,.slice (some ⟨vb,voff,none⟩) m vc]).run Tryz.prog W=.ok (goInt m) (W.setCells b (off+i * 5) vs):=fun W hWc hWf ty dc=>by
  have hmin:Nat.min m (n+m - i)=m:=by simp only [Nat.min_def]; split<;>omega
  have:=q2P (P:=Tryz.prog) W 26 26 ty 55 5 b (off+i * 5) (n+m - i) dc ⟨vb,voff,none⟩ m vc vs Tryz.underlying26 hsz (by rw [hvl,hmin]; try omega)
   (fun j v hj=>by
    rw [Addr.add_lit,hWc,hW1,World.cell?_setCells_out b _ _ _ _ (fun h _=>absurd h hvb)]
    exact hvs j v hj)
   (fun j hj=>by rw [hWc,Nat.add_assoc]; exact hsp1 _ (by omega)) (fun j hj=>by rw [hWf,hW1,World.frozen?_setCells,Nat.add_assoc]; exact hfz _ (by omega)) h1v
  rw [hmin] at this
  exact this
 rw [<- hW1] at hcp1
 go_enter Tryz.func154,Tryz.ntmps154
 go_wp2_with (simp only [hov])
 go_region_law_o (refine step_copy_runI rfl _ _ 26 26 rfl _ _ (by simp [Act.eval,Act.put]) (by simp [Act.eval,Act.put]) (hcp1 _ _ _) ?_)
 go_wp2_with (at_builtin; refine wpList_copy_runI _ rfl _ _ 26 26 rfl _ _ rfl rfl (hcp2 _ (fun _=>rfl) (fun _=>rfl) _ _) ?_)
 go_ret
 first | exact ⟨rfl,rfl⟩ | exact ⟨rfl,by rw [hW1]⟩

set_option maxHeartbeats 4000000 in
set_option maxRecDepth 100000 in
theorem qgh (b off n c vb voff m vc:Nat) (vs:List Value) (w:World) (hm:0 < m) (hroom:n+m<=c)
  (hvl:vs.length=m * 5) (hsp:∀ j,j < vs.length->(w.cell? ⟨b,off+n * 5+j,none⟩).isSome=true) (hfz:∀ j,j < vs.length->w.frozen? ⟨b,off+n * 5+j,none⟩=false)
  (hvs:∀ j v,vs[j]?=some v->w.cell? ⟨vb,voff+j,none⟩=some v) (h1v:∀ v∈vs,v.oneCell'=true) :
  Calls Tryz.prog 154 #[.slice (some ⟨b,off,none⟩) n c,.int .i64 n,.slice (some ⟨vb,voff,none⟩) m vc] w fun e w'=>
   e=.returned (.slice (some ⟨b,off,none⟩) (n+m) c)/\w'=w.setCells b (off+n * 5) vs:=by
 have t0:=Tryz.underlying0; have a0:=Tryz.isAgg0; have z0:=Tryz.sizeOf0; have v0:=Tryz.zeroValue0; have u0:=run_underlying Tryz.underlying0
 have t3:=Tryz.underlying3; have a3:=Tryz.isAgg3; have z3:=Tryz.sizeOf3; have v3:=Tryz.zeroValue3; have u3:=run_underlying Tryz.underlying3
 have t4:=Tryz.underlying4; have a4:=Tryz.isAgg4; have z4:=Tryz.sizeOf4; have v4:=Tryz.zeroValue4; have u4:=run_underlying Tryz.underlying4
 have t26:=Tryz.underlying26; have a26:=Tryz.isAgg26; have z26:=Tryz.sizeOf26; have v26:=Tryz.zeroValue26; have u26:=run_underlying Tryz.underlying26
 have z55:=Tryz.sizeOf55
 have mixed:Tryz.prog.follows .mixedOrders=true:=by kernel_rfl
 have hsz:(Tryz.prog.info? 55).map (·.size)=some 5:=by kernel_rfl
 have hz1:¬ ((m:Int)=0):=by omega
 obtain ⟨i0,hi0,hz0,hzs,hzb⟩:=info_parts (show (Tryz.prog.info? 55).map (fun i=>(i.zero,i.size,i.bytes))=some (some (Value.agg #[Value.string { data:=#[] },Value.int IntKind.i64 0,Value.int IntKind.i64 0,Value.string { data:=#[] },Value.slice none 0 0]),5,72) by kernel_rfl)
 have hrun:∀ ty,(Builtin.append_ #[26,26] ty #[.slice (some ⟨b,off,none⟩) n c,.slice (some ⟨vb,voff,none⟩) m vc]).run Tryz.prog w=.ok (.slice (some ⟨b,off,none⟩) (n+m) c) (w.setCells b (off+n * 5) vs):=fun ty=>by
  have h:=run_append_fits (ty:=ty) (ts:=[]) Tryz.underlying26 (show q7k Tryz.prog 26=true by kernel_rfl) hi0 (A:=some ⟨b,off,none⟩) (n:=n) (c:=c) (k:=m) (xv:=.slice (some ⟨vb,voff,none⟩) m vc) (news:=vs.toArray) (w:=w) rfl
   (by rw [hzs]; exact run_firstCells_some w 5 m ⟨vb,voff,none⟩ m vc vs (by rw [hvl]; try omega) (fun j u hj=>by rw [Addr.add_lit]; exact hvs j u hj)) hroom
  refine h.trans ?_
  have hst:=run_storeCells_cells (P:=Tryz.prog) b (off+n * 5) vs 0 w (by simpa using hsp) (by simpa using hfz) h1v
  simp only [addr_add,hzs,Nat.mul_one,List.toList_toArray]
  rw [hst]
  rfl
 go_enter Tryz.func154,Tryz.ntmps154
 go_wp2_with (at_builtin; refine Lib.wpList_append_run _ rfl _ _ _ _ rfl _ _ rfl rfl _ _ (hrun _) ?_)
 go_ret
 exact ⟨rfl,rfl⟩

set_option maxHeartbeats 4000000 in
set_option maxRecDepth 100000 in
theorem qgb (base:Option Addr) (n c vb voff m vc:Nat) (cs vs:List Value) (w:World) (hm:0 < m) (hnc:n<=c) (hroom:c < n+m) (hbig:(n+m) * 72<=140737488355328)
  (hcl:cs.length=n * 5) (hvl:vs.length=m * 5) (hnil:base=none->n=0)
  (hcs:∀ a,base=some a->∀ j v,cs[j]?=some v->w.cell? (a.add j)=some v)
  (hvs:∀ j v,vs[j]?=some v->w.cell? ⟨vb,voff+j,none⟩=some v) :
  Calls Tryz.prog 154 #[.slice base n c,.int .i64 n,.slice (some ⟨vb,voff,none⟩) m vc] w fun e w'=>∃ cap,n+m<=cap /\
   e=.returned (.slice (some ⟨w.heap.size,0,none⟩) (n+m) cap) /\
   w'=w.drew.alloc (.cells ((cs++vs).toArray++Builtin.zeroCells (Value.cells (Value.agg #[Value.string { data:=#[] },Value.int IntKind.i64 0,Value.int IntKind.i64 0,Value.string { data:=#[] },Value.slice none 0 0])) (cap - (n+m))) 55):=by
 have t0:=Tryz.underlying0; have a0:=Tryz.isAgg0; have z0:=Tryz.sizeOf0; have v0:=Tryz.zeroValue0; have u0:=run_underlying Tryz.underlying0
 have t3:=Tryz.underlying3; have a3:=Tryz.isAgg3; have z3:=Tryz.sizeOf3; have v3:=Tryz.zeroValue3; have u3:=run_underlying Tryz.underlying3
 have t4:=Tryz.underlying4; have a4:=Tryz.isAgg4; have z4:=Tryz.sizeOf4; have v4:=Tryz.zeroValue4; have u4:=run_underlying Tryz.underlying4
 have t26:=Tryz.underlying26; have a26:=Tryz.isAgg26; have z26:=Tryz.sizeOf26; have v26:=Tryz.zeroValue26; have u26:=run_underlying Tryz.underlying26
 have z55:=Tryz.sizeOf55
 have mixed:Tryz.prog.follows .mixedOrders=true:=by kernel_rfl
 have hsz:(Tryz.prog.info? 55).map (·.size)=some 5:=by kernel_rfl
 have hz1:¬ ((m:Int)=0):=by omega
 obtain ⟨i0,hi0,hz0,hzs,hzb⟩:=info_parts (show (Tryz.prog.info? 55).map (fun i=>(i.zero,i.size,i.bytes))=some (some (Value.agg #[Value.string { data:=#[] },Value.int IntKind.i64 0,Value.int IntKind.i64 0,Value.string { data:=#[] },Value.slice none 0 0]),5,72) by kernel_rfl)
 obtain ⟨cap,hcap,hrun⟩:∃ cap,n+m<=cap/\∀ ty,(Builtin.append_ #[26,26] ty #[.slice base n c,.slice (some ⟨vb,voff,none⟩) m vc]).run Tryz.prog w=.ok (.slice (some ⟨w.heap.size,0,none⟩) (n+m) cap) (w.drew.alloc (.cells ((cs++vs).toArray++Builtin.zeroCells (Value.cells (Value.agg #[Value.string { data:=#[] },Value.int IntKind.i64 0,Value.int IntKind.i64 0,Value.string { data:=#[] },Value.slice none 0 0])) (cap - (n+m))) 55)):=by
  have hcell:∀ (W:World) (x:Addr),W.heap=w.heap->W.cell? x=w.cell? x:=fun W x h=>by simp only [World.cell?,h]
  have h:=fun ty=>q5B (ty:=ty) (ts:=[]) Tryz.underlying26 (show q7k Tryz.prog 26=true by kernel_rfl) hi0 hz0 (A:=base) (n:=n) (c:=c) (k:=m) (xv:=.slice (some ⟨vb,voff,none⟩) m vc) (olds:=cs.toArray) (news:=vs.toArray) (w:=w)
   (fun W hW=>by
    rw [hzs]
    cases base with
    | none=>
     have h0:=hnil rfl
     subst h0
     have:cs=[]:=List.length_eq_zero_iff.1 (by omega)
     subst this
     exact run_firstCells_none W 5 0 0 c
    | some a=>exact run_firstCells_some W 5 n a n c cs (by rw [hcl]; try omega) (fun j v hj=>by rw [hcell W _ hW]; exact hcs a rfl j v hj))
   (fun W hW=>⟨rfl,by rw [hzs]; exact run_firstCells_some W 5 m ⟨vb,voff,none⟩ m vc vs (by rw [hvl]; try omega) (fun j u hj=>by rw [Addr.add_lit,hcell W _ hW]; exact hvs j u hj)⟩) hroom (by rw [hzb]; exact hbig) (by rw [hzb]; decide)
  obtain ⟨cap,h1,h2⟩:=h 0
  refine ⟨cap,h1,fun ty=>?_⟩
  have e:(Builtin.append_ #[26,26] ty #[.slice base n c,.slice (some ⟨vb,voff,none⟩) m vc]).run Tryz.prog w=(Builtin.append_ #[26,26] 0 #[.slice base n c,.slice (some ⟨vb,voff,none⟩) m vc]).run Tryz.prog w:=rfl
  rw [e]
  rw [<- List.append_toArray]
  exact h2
 go_enter Tryz.func154,Tryz.ntmps154
 cases base with
 | none=>
  have h0:=hnil rfl
  subst h0
  go_wp2_with (at_builtin; refine Lib.wpList_append_run _ rfl _ _ _ _ rfl _ _ rfl rfl _ _ (hrun _) ?_)
  go_ret
  exact ⟨cap,by omega,rfl,rfl⟩
 | some a=>
  obtain ⟨ab,ao,asp⟩:=a
  go_wp2_with (at_builtin; refine Lib.wpList_append_run _ rfl _ _ _ _ rfl _ _ rfl rfl _ _ (hrun _) ?_)
  all_goals (go_ret; exact ⟨cap,by omega,rfl,rfl⟩)

set_option maxHeartbeats 4000000 in
set_option maxRecDepth 100000 in
theorem qlj (b off n c i vb voff m vc:Nat) (cs vs:List Value) (w:World) (hi:i < n) (hm:0 < m) (hnc:n<=c) (hroom:c < n+m) (hbig:(n+m) * 72<=140737488355328)
  (hcl:cs.length=n * 5) (hvl:vs.length=m * 5)
  (hcs:∀ j v,cs[j]?=some v->w.cell? ⟨b,off+j,none⟩=some v)
  (hvs:∀ j v,vs[j]?=some v->w.cell? ⟨vb,voff+j,none⟩=some v) (h1c:∀ v∈cs,v.oneCell'=true) (h1v:∀ v∈vs,v.oneCell'=true) :
  Calls Tryz.prog 154 #[.slice (some ⟨b,off,none⟩) n c,.int .i64 i,.slice (some ⟨vb,voff,none⟩) m vc] w fun e w'=>∃ cap,n+m<=cap /\
   e=.returned (.slice (some ⟨w.heap.size,0,none⟩) (n+m) cap) /\
   w'=(((w.alloc (.cells ((cs.take (i * 5)).toArray++Builtin.zeroCells (Value.cells (Value.agg #[Value.string { data:=#[] },Value.int IntKind.i64 0,Value.int IntKind.i64 0,Value.string { data:=#[] },Value.slice none 0 0])) (n+m - i)++Builtin.zeroCells (Value.cells (Value.agg #[Value.string { data:=#[] },Value.int IntKind.i64 0,Value.int IntKind.i64 0,Value.string { data:=#[] },Value.slice none 0 0])) (cap - (n+m))) 55)).drew.setCells w.heap.size (i * 5) vs).drew).setCells w.heap.size ((i+m) * 5) (cs.drop (i * 5)):=by
 have t0:=Tryz.underlying0; have a0:=Tryz.isAgg0; have z0:=Tryz.sizeOf0; have v0:=Tryz.zeroValue0; have u0:=run_underlying Tryz.underlying0
 have t3:=Tryz.underlying3; have a3:=Tryz.isAgg3; have z3:=Tryz.sizeOf3; have v3:=Tryz.zeroValue3; have u3:=run_underlying Tryz.underlying3
 have t4:=Tryz.underlying4; have a4:=Tryz.isAgg4; have z4:=Tryz.sizeOf4; have v4:=Tryz.zeroValue4; have u4:=run_underlying Tryz.underlying4
 have t26:=Tryz.underlying26; have a26:=Tryz.isAgg26; have z26:=Tryz.sizeOf26; have v26:=Tryz.zeroValue26; have u26:=run_underlying Tryz.underlying26
 have z55:=Tryz.sizeOf55
 have mixed:Tryz.prog.follows .mixedOrders=true:=by kernel_rfl
 have hsz:(Tryz.prog.info? 55).map (·.size)=some 5:=by kernel_rfl
 have hz1:¬ ((m:Int)=0):=by omega
 obtain ⟨i0,hi0,hz0,hzs,hzb⟩:=info_parts (show (Tryz.prog.info? 55).map (fun i=>(i.zero,i.size,i.bytes))=some (some (Value.agg #[Value.string { data:=#[] },Value.int IntKind.i64 0,Value.int IntKind.i64 0,Value.string { data:=#[] },Value.slice none 0 0]),5,72) by kernel_rfl)
 have hz2:¬ ((i:Int)=(n:Int)):=by omega
 have hz3:(c:Int) < (n:Int)+(m:Int):=by omega
 have hbw:b < w.heap.size:=block_lt_of_cell (hcs 0 _ (List.getElem?_eq_getElem (by omega)))
 have hvw:vb < w.heap.size:=block_lt_of_cell (hvs 0 _ (List.getElem?_eq_getElem (by omega)))
 have hkk:(n:Int)+(m:Int) - (i:Int)=((n+m - i:Nat):Int):=by omega
 have hik:i+(n+m - i)=n+m:=by omega
 have hold:(Builtin.firstCells i0.size i (.slice (some ⟨b,off,none⟩) i c)).run Tryz.prog w.drew=.ok (cs.take (i * 5)).toArray w.drew:=by
  rw [hzs]
  exact run_firstCells_some w.drew 5 i ⟨b,off,none⟩ i c (cs.take (i * 5)) (by rw [List.length_take]; omega) (fun j v hj=>by
   rw [Addr.add_lit]
   rw [List.getElem?_take] at hj
   split at hj
   ·exact hcs j v hj
   ·cases hj)
 obtain ⟨G,hG⟩:∃ G,G=grownCap w (n+m) c 55:=⟨_,rfl⟩
 have hrz:∀ ty,(Builtin.append_ #[26,3] ty #[.slice (some ⟨b,off,none⟩) i c,.int .i64 ((n:Int)+(m:Int) - (i:Int))]).run Tryz.prog w =
   .ok (.slice (some ⟨w.heap.size,0,none⟩) (n+m) G) (w.drew.alloc (.cells ((cs.take (i * 5)).toArray++Builtin.zeroCells (Value.cells (Value.agg #[Value.string { data:=#[] },Value.int IntKind.i64 0,Value.int IntKind.i64 0,Value.string { data:=#[] },Value.slice none 0 0])) (n+m - i)++Builtin.zeroCells (Value.cells (Value.agg #[Value.string { data:=#[] },Value.int IntKind.i64 0,Value.int IntKind.i64 0,Value.string { data:=#[] },Value.slice none 0 0])) (G - (n+m))) 55)):=fun ty=>by
  have h:=Lib.run_append_grow_zeros w 26 3 ty 55 i0 _ .i64 .i64 Tryz.underlying26 Tryz.underlying3 hi0 hz0 (some ⟨b,off,none⟩) i c (cs.take (i * 5)) hold (n+m - i) (by omega) (by omega) (by omega) (by omega) (by rw [hzb]; omega) (by rw [hzb,hik]; exact growslice_fits hroom hbig)
  rw [hik] at h
  rw [hkk,hG]
  exact h
 obtain ⟨ROW,hROW⟩:∃ ROW:Array Value,ROW=(cs.take (i * 5)).toArray++Builtin.zeroCells (Value.cells (Value.agg #[Value.string { data:=#[] },Value.int IntKind.i64 0,Value.int IntKind.i64 0,Value.string { data:=#[] },Value.slice none 0 0])) (n+m - i)++Builtin.zeroCells (Value.cells (Value.agg #[Value.string { data:=#[] },Value.int IntKind.i64 0,Value.int IntKind.i64 0,Value.string { data:=#[] },Value.slice none 0 0])) (G - (n+m)):=⟨_,rfl⟩
 have hRl:(n+m) * 5<=ROW.size:=by
  have hk:(Value.cells (Value.agg #[Value.string { data:=#[] },Value.int IntKind.i64 0,Value.int IntKind.i64 0,Value.string { data:=#[] },Value.slice none 0 0])).size=5:=by decide
  rw [hROW]
  simp only [Array.size_append,q2T,hk,List.size_toArray,List.length_take,hcl]
  omega
 have hend:∀ W':World,W'=(((w.alloc (.cells ROW 55)).drew.setCells w.heap.size (i * 5) vs).drew).setCells w.heap.size ((i+m) * 5) (cs.drop (i * 5))->
   W'=(((w.alloc (.cells ((cs.take (i * 5)).toArray++Builtin.zeroCells (Value.cells (Value.agg #[Value.string { data:=#[] },Value.int IntKind.i64 0,Value.int IntKind.i64 0,Value.string { data:=#[] },Value.slice none 0 0])) (n+m - i)++Builtin.zeroCells (Value.cells (Value.agg #[Value.string { data:=#[] },Value.int IntKind.i64 0,Value.int IntKind.i64 0,Value.string { data:=#[] },Value.slice none 0 0])) (G - (n+m))) 55)).drew.setCells w.heap.size (i * 5) vs).drew).setCells w.heap.size ((i+m) * 5) (cs.drop (i * 5)):=fun W' h=>by rw [h,hROW]
 rw [<- hROW] at hrz
 obtain ⟨W1,hW1⟩:∃ W1,W1=w.drew.alloc (.cells ROW 55):=⟨_,rfl⟩
 rw [<- hW1] at hrz
 have hN:∀ j,j < (n+m) * 5->(W1.cell? ⟨w.heap.size,j,none⟩).isSome=true:=fun j hj=>by
  rw [hW1,World.cell?_alloc_at (w:=w.drew) ROW _ w.heap.size j rfl,Array.getElem?_eq_getElem (by omega)]; rfl
 have hNf:∀ j,W1.frozen? ⟨w.heap.size,j,none⟩=false:=fun j=>by rw [hW1]; exact World.frozen?_alloc_at (w:=w.drew) ROW _ w.heap.size j rfl
 have hOb:∀ j v,w.cell? ⟨b,j,none⟩=some v->W1.cell? ⟨b,j,none⟩=some v:=fun j v h=>by rw [hW1,World.cell?_alloc_past (w:=w.drew) _ b j hbw]; exact h
 have hOv:∀ j v,w.cell? ⟨vb,j,none⟩=some v->W1.cell? ⟨vb,j,none⟩=some v:=fun j v h=>by rw [hW1,World.cell?_alloc_past (w:=w.drew) _ vb j hvw]; exact h
 have hcpA:∀ (W:World),(∀ x,W.cell? x=W1.cell? x)->(∀ x,W.frozen? x=W1.frozen? x)->∀ ty dc,(Builtin.copy_ #[26,26] ty #[.slice (some ⟨w.heap.size,i * 5,none⟩) (n+m - i) dc,.slice (some ⟨vb,voff,none⟩) m vc]).run Tryz.prog W=.ok (goInt m) (W.setCells w.heap.size (i * 5) vs):=fun W hWc hWf ty dc=>by
  have hmin:Nat.min m (n+m - i)=m:=by simp only [Nat.min_def]; split<;>omega
  have:=q2P (P:=Tryz.prog) W 26 26 ty 55 5 w.heap.size (i * 5) (n+m - i) dc ⟨vb,voff,none⟩ m vc vs Tryz.underlying26 hsz (by rw [hvl,hmin]; try omega)
   (fun j v hj=>by rw [Addr.add_lit,hWc]; exact hOv _ v (hvs j v hj))
   (fun j hj=>by rw [hWc]; exact hN _ (by omega)) (fun j hj=>by rw [hWf]; exact hNf _) h1v
  rw [hmin] at this
  exact this
 have hGn:n+m<=G:=by rw [hG]; exact grownCap_ge w _ _ _
 have hGi:¬ (G=i):=by omega
 have hGim:¬ (G=i+m):=by omega
 have hci:¬ (c=i):=by omega
 have hbN:b≠w.heap.size:=by omega
 have hdl:(cs.drop (i * 5)).length=(n - i) * 5:=by rw [List.length_drop,hcl]; try omega
 have hcpB:∀ (W:World),(∀ x,W.cell? x=(W1.setCells w.heap.size (i * 5) vs).cell? x)->(∀ x,W.frozen? x=(W1.setCells w.heap.size (i * 5) vs).frozen? x)->∀ ty dc sc,(Builtin.copy_ #[26,26] ty #[.slice (some ⟨w.heap.size,(i+m) * 5,none⟩) (n+m - (i+m)) dc,.slice (some ⟨b,off+i * 5,none⟩) (n - i) sc]).run Tryz.prog W=.ok (goInt ((n - i:Nat):Int)) (W.setCells w.heap.size ((i+m) * 5) (cs.drop (i * 5))):=fun W hWc hWf ty dc sc=>by
  have hmin:Nat.min (n - i) (n+m - (i+m))=n - i:=by simp only [Nat.min_def]; split<;>omega
  have:=q2P (P:=Tryz.prog) W 26 26 ty 55 5 w.heap.size ((i+m) * 5) (n+m - (i+m)) dc ⟨b,off+i * 5,none⟩ (n - i) sc (cs.drop (i * 5)) Tryz.underlying26 hsz (by rw [hdl,hmin]; try omega)
   (fun j v hj=>by
    rw [Addr.add_lit,hWc,World.cell?_setCells_out _ _ _ _ _ (fun h _=>absurd h hbN),Nat.add_assoc]
    exact hOb _ v (hcs (i * 5+j) v (by rwa [List.getElem?_drop] at hj)))
   (fun j hj=>by rw [hWc]; exact isSome_setCells _ _ _ _ (fun t ht=>hN _ (by omega)) _ (hN _ (by omega)))
   (fun j hj=>by rw [hWf,World.frozen?_setCells]; exact hNf _) (fun v hv=>h1c v (List.mem_of_mem_drop hv))
  rw [hmin] at this
  exact this
 subst hW1
 have hE1:∀ x,((w.alloc (.cells ROW 55)).drew).cell? x=(w.drew.alloc (.cells ROW 55)).cell? x:=fun x=>rfl
 have hE2:∀ x,((w.alloc (.cells ROW 55)).drew).frozen? x=(w.drew.alloc (.cells ROW 55)).frozen? x:=fun x=>rfl
 have hF1:∀ x,(((w.alloc (.cells ROW 55)).drew.setCells w.heap.size (i * 5) vs).drew).cell? x=((w.drew.alloc (.cells ROW 55)).setCells w.heap.size (i * 5) vs).cell? x:=fun x=>rfl
 have hF2:∀ x,(((w.alloc (.cells ROW 55)).drew.setCells w.heap.size (i * 5) vs).drew).frozen? x=((w.drew.alloc (.cells ROW 55)).setCells w.heap.size (i * 5) vs).frozen? x:=fun x=>rfl
 have hw1:IntKind.i64.wrap ((i:Int)+(m:Int))=(i:Int)+(m:Int):=by rw [IntKind.wrap_i64]; omega
 have hb1:(0:Int)<=(i:Int)+(m:Int):=by omega
 have hin:i<=n:=by omega
 have htn:((i:Int)+(m:Int)).toNat=i+m:=by omega
 have hb3:(i:Int)<=(n:Int):=by omega
 clear hkk hik hold hROW hG hRl
 go_enter Tryz.func154,Tryz.ntmps154
 go_wp2_with (first
  | (at_builtin; refine Lib.wpList_append_run _ rfl _ _ _ _ rfl _ _ rfl rfl _ _ (hrz _) ?_)
  | (at_builtin; refine wpList_copy_runI _ rfl _ _ 26 26 rfl _ _ rfl rfl (hcpA _ hE1 hE2 _ _) ?_)
  | (at_builtin; refine wpList_copy_runI _ rfl _ _ 26 26 rfl _ _ rfl rfl (hcpB _ (fun _=>rfl) (fun _=>rfl) _ _ _) ?_))
 go_region_law_o (refine step_copy_runI rfl _ _ 26 26 rfl (.slice (some ⟨w.heap.size,(i+m) * 5,none⟩) (n+m - (i+m)) (G - (i+m))) (.slice (some ⟨b,off+i * 5,none⟩) (n - i) (c - i)) (by simp [Act.eval,Act.put]) (by simp [Act.eval,Act.put]) (hcpB _ hF1 hF2 3 (G - (i+m)) (c - i)) ?_)
 go_wp2
 go_ret
 exact ⟨G,hGn,rfl,hend _ rfl⟩
end Go.Den.S
