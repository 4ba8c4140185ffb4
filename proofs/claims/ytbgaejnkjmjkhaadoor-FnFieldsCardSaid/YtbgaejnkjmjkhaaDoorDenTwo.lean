/- Den, part two: each operation is right against the machine. Conditions: none here. -/
import Derived.Test.YtbgaejnkjmjkhaaDoorDenOne
import Derived.Laws.Append
import Derived.Laws.Slices
import Derived.Laws.BytesString
import Derived.Laws.AppendOwn
import Derived.Laws.MakeOwn
import Derived.Laws.IdiomStrings
set_option linter.all false
namespace Go.Den
open Go

section
variable {P : Program}
theorem q50 {t : TypeId} {i : TypeInfo} (h : P.info? t = some i) (w : World) : (typeInfo t).run P w = .ok i w := by
  simp [typeInfo, h]
theorem q4O {t : TypeId} {d : TypeDesc} (h : P.underlying t = some d) (w : World) : (sizeOf t).run P w = .ok (szB P t) w := by
  cases hi : P.info? t with
  | none => simp [Program.underlying, hi] at h
  | some i => simp [sizeOf, q50 hi, szB, hi]
theorem q2N {t : TypeId} (h : okT P t = true) : ∃ d, P.underlying t = some d := by
  unfold okT at h
  cases hd : P.underlying t with
  | none => rw [hd] at h; cases h
  | some d => exact ⟨d, rfl⟩
theorem q2H {t : TypeId} {d : TypeDesc} (h : P.underlying t = some d) (w : World) : (isAgg t).run P w = .ok (aggB P t) w := by
  simp only [isAgg, Sem.run_bind, run_underlying h, Result.andThen_ok, aggB, h]
  cases d <;> rfl
def Cl (w : World) (b off : Nat) (vs : List Value) : Prop := ∀ j, (h : j < vs.length) -> w.cell? ⟨b, off + j, none⟩ = some vs[j]
theorem At.cl {w : World} {b off : Nat} {vs : List Value} (h : At w b off vs) : Cl w b off vs := fun _ hj => h.cell hj
theorem Cl.drop {w : World} {b off : Nat} {vs : List Value} (h : Cl w b off vs) (n : Nat) : Cl w b (off + n) (vs.drop n) := fun j hj => by
  have := h (n + j) (by simp at hj; omega)
  rw [show off + n + j = off + (n + j) by omega, this]
  simp
theorem run_loadCellsFrom {w : World} {b off : Nat} {vs : List Value} (h : Cl w b off vs) : ∀ (n i : Nat) (acc : Array Value), i + n <= vs.length ->
    (loadCellsFrom ⟨b, off, none⟩ i n acc).run P w = .ok (acc ++ ((vs.drop i).take n).toArray) w
  | 0, i, acc, _ => by simp [loadCellsFrom]
  | n + 1, i, acc, hi => by
    have hc := h i (by omega)
    simp only [loadCellsFrom, Sem.run_bind, run_load, addr_add, hc, Result.andThen_ok]
    rw [run_loadCellsFrom h n (i + 1) _ (by omega)]
    congr 1
    have : (vs.drop i).take (n + 1) = vs[i] :: (vs.drop (i + 1)).take n := by
      rw [List.drop_eq_getElem_cons (by omega)]; rfl
    rw [this]
    apply Array.ext'
    simp
theorem run_loadCells {w : World} {b off : Nat} {vs : List Value} (h : Cl w b off vs) (n : Nat) (hn : n <= vs.length) : (loadCells ⟨b, off, none⟩ n).run P w = .ok (vs.take n).toArray w := by
  unfold loadCells
  rw [run_loadCellsFrom h n 0 _ (by omega)]
  simp

theorem setCell_at {w : World} {b off : Nat} {m : Array Value} {e : TypeId} {fr : Nat × Nat} (hb : w.heap[b]? = some (.cells m e fr)) (v : Value) :
    (w.setCell ⟨b, off, none⟩ v).heap[b]? = some (.cells (m.setIfInBounds off v) e fr) /\ Apart w (w.setCell ⟨b, off, none⟩ v) (· = b) := by
  have hlt := (Array.getElem?_eq_some_iff.1 hb).1
  refine ⟨?_, ?_, ?_, rfl, rfl, rfl⟩
  · simp only [World.setCell, Array.getElem?_modify, if_true, hb]; rfl
  · intro j hj
    simp only [World.setCell, Array.getElem?_modify]
    rw [if_neg (fun e => hj e.symm)]
  · simp [World.setCell]
theorem Apart.refl (w : World) (S : Nat -> Prop) : Apart w w S := ⟨fun _ _ => rfl, rfl, rfl, rfl, rfl⟩
theorem Apart.trans {a b c : World} {S : Nat -> Prop} (h : Apart a b S) (k : Apart b c S) : Apart a c S :=
  ⟨fun j hj => (k.heap j hj).trans (h.heap j hj), k.size.trans h.size, k.os.trans h.os, k.tape.trans h.tape, k.output.trans h.output⟩
theorem Apart.mono {w w' : World} {S T : Nat -> Prop} (h : Apart w w' S) (hs : ∀ b, S b -> T b) : Apart w w' T :=
  ⟨fun j hj => h.heap j fun hS => hj (hs j hS), h.size, h.os, h.tape, h.output⟩
theorem jy {b off : Nat} {e : TypeId} {fr : Nat × Nat} : ∀ (vs : List Value) (i : Nat) {w : World} {m : Array Value}, w.heap[b]? = some (.cells m e fr) -> Mut m fr -> off + i + vs.length <= m.size -> (∀ c ∈ vs, c.oneCell' = true) ->
    ∃ w', (storeCells ⟨b, off, none⟩ vs i).run P w = .ok () w' /\ Apart w w' (· = b) /\ ∃ m' : Array Value, w'.heap[b]? = some (.cells m' e fr) /\ m'.size = m.size /\
      ∀ j, m'[j]? = if off + i <= j /\ j < off + i + vs.length then vs[j - (off + i)]? else m[j]?
  | [], i, w, m, hb, hm, hs, ho => ⟨w, by simp [storeCells], Apart.refl _ _, m, hb, rfl, fun j => by rw [if_neg (by simp only [List.length_nil]; omega)]⟩
  | v :: vs, i, w, m, hb, hm, hs, ho => by
    simp only [List.length_cons] at hs
    have hv := ho v (by simp)
    have hlt : off + i < m.size := by omega
    have hcell : w.cell? ⟨b, off + i, none⟩ = some m[off + i] := by simp [World.cell?, hb, hlt]
    have hfro : w.frozen? ⟨b, off + i, none⟩ = false := by
      simp only [World.frozen?, hb]
      have := hm (off + i) hlt
      rcases fr with ⟨lo, hi⟩
      simpa using this
    obtain ⟨h1, h2⟩ := setCell_at (off := off + i) hb v
    have hm' : Mut (m.setIfInBounds (off + i) v) fr := fun j hj => hm j (by simpa using hj)
    obtain ⟨w', h3, h4, m', h5, h6, h7⟩ := jy (b := b) (off := off) (w := w.setCell ⟨b, off + i, none⟩ v) (m := m.setIfInBounds (off + i) v) vs (i + 1) h1 hm' (by rw [Array.size_setIfInBounds]; omega) fun c hc => ho c (by simp [hc])
    refine ⟨w', ?_, h2.trans h4, m', h5, by rw [h6]; simp, fun j => ?_⟩
    · simp only [storeCells, Sem.run_bind, addr_add, run_store P w _ v _ hv, hcell, hfro, Bool.false_eq_true, if_false, Result.andThen_ok]
      exact h3
    · rw [h7]
      by_cases hj : j = off + i
      · subst hj
        rw [if_neg (by omega), if_pos (by simp)]
        simp [hlt]
      · by_cases hr : off + (i + 1) <= j /\ j < off + (i + 1) + vs.length
        · rw [if_pos hr, if_pos (by simp; omega)]
          rw [show j - (off + i) = (j - (off + (i + 1))) + 1 by omega]
          simp
        · rw [if_neg hr, if_neg (by simp; omega)]
          rw [Array.getElem?_setIfInBounds_ne (by omega)]
end

structure Done (m : M) (v : PV) (u : Upd) (val : Value) (m' : M) : Prop where
  pr : m'.PR v val
  hr : HR m'
  ext : Ext m m'
  h : m'.h = m.h.upd u
  χ : ∀ b, ¬ m'.χ b
def qE (P : Program) (x : Sem Value) (m : M) (v : PV) (u : Upd) : Prop := ∃ val m', x.run P m.w = .ok val m'.w /\ Done m v u val m'
def Goes (P : Program) (x : Sem Next) (m : M) (v : PV) (u : Upd) : Prop :=
  (∃ val m', x.run P m.w = .ok (.value val) m'.w /\ Done m v u val m') \/
  (v = .un /\ ∃ m', x.run P m.w = .ok .skip m'.w /\ Done m v u undef m') \/
  (∃ f args, x.run P m.w = .ok (.enter f args) m.w /\ Calls P f args m.w fun e w' => ∃ val m', e = .returned val /\ m'.w = w' /\ Done m v u val m')
theorem Goes.ofV {P : Program} {x : Sem Value} {m : M} {v : PV} {u : Upd} (h : qE P x m v u) : Goes P (do pure (.value (<- x))) m v u := by
  obtain ⟨val, m', h1, h2⟩ := h
  exact .inl ⟨val, m', by simp [h1], h2⟩
theorem qE.same {P : Program} {x : Sem Value} {m : M} {v : PV} {val : Value} (H : HR m) (hχ : ∀ b, ¬ m.χ b) (hr : x.run P m.w = .ok val m.w) (hv : m.PR v val) : qE P x m v [] :=
  ⟨val, m, hr, hv, H, Ext.refl m, rfl, hχ⟩
theorem qE.congr {P : Program} {x y : Sem Value} {m : M} {v : PV} {u : Upd} (h : qE P x m v u) (e : y.run P m.w = x.run P m.w) : qE P y m v u := by
  obtain ⟨val, m', h1, h2⟩ := h
  exact ⟨val, m', e.trans h1, h2⟩
theorem qw {V : Nat -> Sig} {F : Tr.Fs V} {h : Heap} {x : SV} {v : PV} {u : Upd} {rd : List Nat} (hr : (val (V := V) x).run F h = some ((v, u), rd)) : v = .sv x /\ u = [] /\ rd = [] := by
  obtain ⟨e, e'⟩ := Tr.q9 hr
  obtain ⟨e1, e2⟩ := Prod.mk.inj e
  exact ⟨e1, e2, e'⟩
theorem yN {V : Nat -> Sig} {F : Tr.Fs V} {h : Heap} {x : PV} {y : Upd} {v : PV} {u : Upd} {rd : List Nat} (hr : (Tr.ret (V := V) (x, y)).run F h = some ((v, u), rd)) : v = x /\ u = y /\ rd = [] := by
  obtain ⟨e, e'⟩ := Tr.q9 hr
  obtain ⟨e1, e2⟩ := Prod.mk.inj e
  exact ⟨e1, e2, e'⟩
theorem q3R {p : TypeDesc -> Bool} {P : Program} {t : TypeId} (h : isK p P t = true) : ∃ d, P.underlying t = some d /\ p d = true := by
  unfold isK at h
  cases hd : P.underlying t with
  | none => rw [hd] at h; cases h
  | some d => rw [hd] at h; exact ⟨d, rfl, h⟩
theorem q3r {P : Program} {t : TypeId} (h : isStr P t = true) : P.underlying t = some .string := by
  obtain ⟨d, hd, hp⟩ := q3R h
  cases d <;> first | exact hd | cases hp
theorem qde {P : Program} {t : TypeId} (h : isBo P t = true) : P.underlying t = some .bool := by
  obtain ⟨d, hd, hp⟩ := q3R h
  cases d <;> first | exact hd | cases hp
theorem qdr {P : Program} {t : TypeId} (h : isPt P t = true) : ∃ e, P.underlying t = some (.pointer e) := by
  obtain ⟨d, hd, hp⟩ := q3R h
  cases d <;> first | exact ⟨_, hd⟩ | cases hp
theorem qdd {P : Program} {t : TypeId} (h : isIf P t = true) : ∃ ms, P.underlying t = some (.interface ms) := by
  obtain ⟨d, hd, hp⟩ := q3R h
  cases d <;> first | exact ⟨_, hd⟩ | cases hp
theorem q1e {P : Program} {t e : TypeId} (h : elB P t = some e) : P.underlying t = some (.slice e) := by
  unfold elB at h
  split at h
  · rename_i d hd; rw [hd, Option.some.inj h]
  · cases h

section
variable {P : Program} {V : Nat -> Sig} {F : Tr.Fs V} {m : M}
def Val2 (P : Program) (x : Sem Value) (v : PV) : Prop := ∃ val, (∀ w, x.run P w = .ok val w) /\ ∀ h ρ fz w, Den.PR h ρ fz w v val
theorem Val2.goes {x : Sem Value} {v : PV} (h : Val2 P x v) (H : HR m) (hχ : ∀ b, ¬ m.χ b) : qE P x m v [] := by
  obtain ⟨val, h1, h2⟩ := h
  exact qE.same H hχ (h1 _) (h2 _ _ _ _)
theorem Val2.sv {x : Sem Value} {val : Value} {sv : SV} (h : ∀ w, x.run P w = .ok val w) (h' : ∀ h ρ fz w, Den.SR h ρ fz w sv val) : Val2 P x (.sv sv) := ⟨val, h, h'⟩
theorem qdR {op : BinOp} {t : TypeId} {ox oy : Operand} {k : IntKind} {x y : Int} {h : Heap} {v : PV} {u : Upd} {rd : List Nat} (hr : (qci (V := V) op k x y).run F h = some ((v, u), rd)) :
    u = [] /\ Val2 P (do eqGuard op t ox oy (.int k x) (.int k y); binOp op t (.int k x) (.int k y)) v := by
  cases op <;> simp only [qci, qbu, qfF, qfb] at hr
  case quo =>
    obtain ⟨h0, hr⟩ := Tr.wV hr
    obtain ⟨rfl, rfl, _⟩ := qw hr
    have h0 : ¬ y = 0 := by simpa using h0
    exact ⟨rfl, Val2.sv (fun w => by simp only [eqGuard_at_int, binOp_quo, pure_bind, Op.intDiv, h0, if_false]; rfl) fun _ _ _ _ => rfl⟩
  case rem =>
    obtain ⟨h0, hr⟩ := Tr.wV hr
    obtain ⟨rfl, rfl, _⟩ := qw hr
    have h0 : ¬ y = 0 := by simpa using h0
    exact ⟨rfl, Val2.sv (fun w => by simp only [eqGuard_at_int, binOp_rem, pure_bind, Op.intDiv, h0, if_false]; rfl) fun _ _ _ _ => rfl⟩
  all_goals first
    | exact (Tr.q8 hr).elim
    | (obtain ⟨rfl, rfl, _⟩ := qw hr
       refine ⟨rfl, Val2.sv (fun w => ?_) fun _ _ _ _ => rfl⟩
       simp only [eqGuard_at_int, pure_bind, binOp_add, binOp_sub, binOp_mul, binOp_and, binOp_or, binOp_xor, binOp_eql, binOp_neq, binOp_lss, binOp_leq, binOp_gtr, binOp_geq, Op.intArith, Op.intBits]
       rfl)
theorem qdJ {op : BinOp} {t : TypeId} {ox oy : Operand} {x y : BA} {h : Heap} {v : PV} {u : Upd} {rd : List Nat} (hr : (qbZ (V := V) op x y).run F h = some ((v, u), rd)) :
    u = [] /\ Val2 P (do eqGuard op t ox oy (.string x) (.string y); binOp op t (.string x) (.string y)) v := by
  cases op <;> simp only [qbZ] at hr
  case add =>
    obtain ⟨h0, hr⟩ := Tr.wV hr
    obtain ⟨rfl, rfl, _⟩ := qw hr
    rw [qbr] at h0
    have h0 : ¬ ((x.size + y.size : Nat) : Int) > IntKind.i64.max := by
      have := of_decide_eq_true h0
      simp only [IntKind.max_i64]; omega
    exact ⟨rfl, Val2.sv (fun w => by simp only [eqGuard_at_string, binOp, pure_bind, Op.stringOp, h0, if_false]; rfl) fun _ _ _ _ => rfl⟩
  all_goals first
    | exact (Tr.q8 hr).elim
    | (obtain ⟨rfl, rfl, _⟩ := qw hr
       refine ⟨rfl, Val2.sv (fun w => ?_) fun _ _ _ _ => rfl⟩
       simp only [eqGuard_at_string, binOp, pure_bind, Op.stringOp]
       rfl)
theorem qea {h : Heap} {ρ : Env} {fz : Nat -> Prop} {w : World} {x : SV} {v : Value} {b : Bool} (hx : SR h ρ fz w x v) (hb : qce x = some b) : ∃ a, v = .pointer a /\ a.isNone = b := by
  cases x <;> simp only [qce, Option.some.injEq, reduceCtorEq] at hb <;> subst hb
  case ptr => exact ⟨_, hx.2, rfl⟩
  case rptr => obtain ⟨_, _, b, o, _, e⟩ := hx; exact ⟨_, e, rfl⟩
  case lptr => obtain ⟨_, b, o, vs, _, e, _⟩ := hx; exact ⟨_, e, rfl⟩
  case vptr => obtain ⟨_, ⟨a, b, e⟩, _⟩ := hx; exact ⟨_, e, rfl⟩
  case nilp => exact ⟨none, hx, rfl⟩
theorem qcr {t : TypeId} (hu : P.underlying t = some .bool) (a b : Bool) (w : World) : (Op.equal t (.bool a) (.bool b)).run P w = .ok (a == b) w := by
  show (Op.equalIn (9999 + 1) t _ _).run P w = _
  rw [Op.equalIn, Sem.run_bind, run_underlying hu]
  rfl
theorem qc0 {t e : TypeId} (hu : P.underlying t = some (.pointer e)) (p : Option Addr) (w : World) : (Op.equal t (.pointer p) (.pointer none)).run P w = .ok p.isNone w := by
  show (Op.equalIn (9999 + 1) t _ _).run P w = _
  rw [Op.equalIn, Sem.run_bind, run_underlying hu]
  cases p <;> rfl
theorem qbS {t : TypeId} {ms} (hu : P.underlying t = some (.interface ms)) (w : World) : (Op.equal t .nilIface .nilIface).run P w = .ok true w := by
  show (Op.equalIn (9999 + 1) t _ _).run P w = _
  rw [Op.equalIn, Sem.run_bind, run_underlying hu]
  rfl
theorem qaQ {t : TypeId} {ms} (hu : P.underlying t = some (.interface ms)) (d : TypeId) (x : Value) (w : World) : (Op.equal t (.iface d x) .nilIface).run P w = .ok false w := by
  show (Op.equalIn (9999 + 1) t _ _).run P w = _
  rw [Op.equalIn, Sem.run_bind, run_underlying hu]
  rfl
theorem q1X {op : BinOp} {t : TypeId} {x y : Value} {b : Bool} {w : World} (hx : (binOp .eql t x y) = (do pure (.bool (<- Op.equal t x y)))) (hx' : (binOp .neq t x y) = (do pure (.bool (!(<- Op.equal t x y)))))
    (he : (Op.equal t x y).run P w = .ok b w) : (binOp .eql t x y).run P w = .ok (.bool b) w /\ (binOp .neq t x y).run P w = .ok (.bool !b) w := by
  rw [hx, hx', Sem.run_bind, Sem.run_bind, he]
  exact ⟨rfl, rfl⟩
theorem qdU (H : HR m) (hχ : ∀ b, ¬ m.χ b) {op : BinOp} {t : TypeId} {yc : Bool} {ox oy : Operand} {px py : PV} {x y : Value} {v : PV} {u : Upd} {rd : List Nat} (hx : m.PR px x) (hy : m.PR py y)
    (hyc : yc = true -> ∃ c, oy = .const c) (hr : (binT (V := V) P op t yc px py).run F m.h = some ((v, u), rd)) : qE P (do eqGuard op t ox oy x y; binOp op t x y) m v u := by
  unfold binT at hr
  split at hr
  · rename_i k a l b
    rw [show x = _ from hx, show y = _ from hy]
    split at hr
    · obtain ⟨h0, hr⟩ := Tr.wV hr
      obtain ⟨rfl, rfl, _⟩ := qw hr
      have h0 : ¬ b < 0 := by simpa using of_decide_eq_true h0
      refine qE.same H hχ (val := .int k (k.wrap (a * 2 ^ (min b.toNat k.bits)))) ?_ (by rw [qeS]; rfl)
      simp only [eqGuard_at_int, pure_bind, binOp_shl, Op.shift, h0, if_false]
      rfl
    · obtain ⟨h0, hr⟩ := Tr.wV hr
      obtain ⟨rfl, rfl, _⟩ := qw hr
      have h0 : ¬ b < 0 := by simpa using of_decide_eq_true h0
      refine qE.same H hχ (val := .int k (a.fdiv (2 ^ (min b.toNat k.bits)))) ?_ (by rw [qbb]; rfl)
      simp only [eqGuard_at_int, pure_bind, binOp_shr, Op.shift, h0, if_false]
      rfl
    · rcases Tr.yI hr with ⟨hk, hr⟩ | ⟨_, hr⟩
      · rw [<- of_decide_eq_true hk]
        obtain ⟨rfl, h⟩ := qdR (P := P) (t := t) (ox := ox) (oy := oy) hr
        exact h.goes H hχ
      · exact (Tr.q8 hr).elim
  · rw [show x = _ from hx, show y = _ from hy]
    obtain ⟨rfl, h⟩ := qdJ (P := P) (t := t) (ox := ox) (oy := oy) hr
    exact h.goes H hχ
  · rename_i a b
    rw [show x = _ from hx, show y = _ from hy]
    rcases Tr.yI hr with ⟨hk, hr⟩ | ⟨_, hr⟩
    · have he := q1X (op := op) (P := P) (t := t) (x := .bool a) (y := .bool b) rfl rfl (qcr (qde hk) a b m.w)
      rw [eqGuard_at_bool, pure_bind]
      split at hr
      · obtain ⟨rfl, rfl, _⟩ := qw hr
        exact qE.same H hχ he.1 rfl
      · obtain ⟨rfl, rfl, _⟩ := qw hr
        exact qE.same H hχ he.2 rfl
      · exact (Tr.q8 hr).elim
    · exact (Tr.q8 hr).elim
  · rename_i a
    have hy : y = .nilIface := hy
    rw [hy]
    rcases Tr.yI hr with ⟨hk, hr⟩ | ⟨_, hr⟩
    · simp only [Bool.and_eq_true] at hk
      obtain ⟨c, hc⟩ := hyc hk.1
      obtain ⟨ms, hu⟩ := qdd hk.2
      have hx : if a = true then ∃ t v, x = .iface t v else x = .nilIface := hx
      have hv : eqGuard op t ox oy x .nilIface = pure () /\ (binOp .eql t x .nilIface).run P m.w = .ok (.bool !a) m.w /\ (binOp .neq t x .nilIface).run P m.w = .ok (.bool a) m.w := by
        rw [hc]
        cases a
        · simp at hx; rw [hx]
          exact ⟨by rw [eqGuard_nil_constR], q1X (op := op) rfl rfl (qbS hu _)⟩
        · simp at hx; obtain ⟨t', v', hx⟩ := hx
          rw [hx]
          exact ⟨by rw [eqGuard_at_iface], q1X (op := op) rfl rfl (qaQ hu _ _ _)⟩
      rw [hv.1, pure_bind]
      split at hr
      · obtain ⟨rfl, rfl, _⟩ := qw hr
        exact qE.same H hχ hv.2.1 rfl
      · obtain ⟨rfl, rfl, _⟩ := qw hr
        exact qE.same H hχ hv.2.2 rfl
      · exact (Tr.q8 hr).elim
    · exact (Tr.q8 hr).elim
  · rename_i sx
    have hy : y = .pointer none := hy
    rw [hy]
    rcases Tr.yI hr with ⟨hk, hr⟩ | ⟨_, hr⟩
    · obtain ⟨e, hu⟩ := qdr hk
      split at hr
      · rename_i b hb
        obtain ⟨p, hx', hp⟩ := qea hx hb
        have he := q1X (op := op) (P := P) (t := t) (x := .pointer p) (y := .pointer none) rfl rfl (qc0 hu p m.w)
        rw [hp] at he
        rw [hx', eqGuard_at_pointer, pure_bind]
        split at hr
        · obtain ⟨rfl, rfl, _⟩ := qw hr
          exact qE.same H hχ he.1 rfl
        · obtain ⟨rfl, rfl, _⟩ := qw hr
          exact qE.same H hχ he.2 rfl
        · exact (Tr.q8 hr).elim
      · exact (Tr.q8 hr).elim
    · exact (Tr.q8 hr).elim
  · exact (Tr.q8 hr).elim
theorem qfl (H : HR m) (hχ : ∀ b, ¬ m.χ b) {op : UnOp} {px : PV} {x : Value} {v : PV} {u : Upd} {rd : List Nat} (hx : m.PR px x) (hr : (unT (V := V) op px).run F m.h = some ((v, u), rd)) : qE P (Op.unary op x) m v u := by
  unfold unT at hr
  split at hr
  · rename_i b
    rw [show x = _ from hx]
    split at hr
    · obtain ⟨rfl, rfl, _⟩ := qw hr
      exact qE.same H hχ (val := .bool !b) rfl rfl
    · exact (Tr.q8 hr).elim
  · rename_i k n
    rw [show x = _ from hx]
    split at hr
    · obtain ⟨rfl, rfl, _⟩ := qw hr
      exact qE.same H hχ (val := .int k (k.wrap (0 - n))) rfl rfl
    · exact (Tr.q8 hr).elim
  · exact (Tr.q8 hr).elim
end
end Go.Den
namespace Go.Den
open Go

section
variable {P : Program} {V : Nat -> Sig} {F : Tr.Fs V} {m : M}
theorem qo {α : Type} {c : Bool} {t : Tr V α} {b : α} {h : Heap} {rd : List Nat} (hr : (bif c then t else .no : Tr V α).run F h = some (b, rd)) : c = true /\ t.run F h = some (b, rd) := by
 rcases Tr.yI hr with h | ⟨_, h⟩
 ·exact h
 ·exact (Tr.q8 h).elim
theorem jD {α : Type} {κ : Nat} {f : (t : Ty) -> List t.D -> Nat -> Tr V α} {g : Slot -> Tr V α} {a : α} {rd : List Nat} (hg : ∀ t xs v, g (.live (.row t xs v)) = f t xs v) (hn : ∀ s, (∀ t xs v, s ≠ .live (.row t xs v)) -> g s = .no)
  {h : Heap} (hr : (Tr.look κ g).run F h = some (a, rd)) : ∃ t xs v r, h κ = .live (.row t xs v) /\ (f t xs v).run F h = some (a, r) /\ rd = κ :: r := by
 obtain ⟨r, h1, h2⟩ := Tr.wO hr
 rcases hs : h κ with _ | _ | (c | c | ⟨t, xs, v⟩ | ⟨t, xs⟩)
 ·rw [hs, hn _ (by intros; simp)] at h1; exact (Tr.q8 h1).elim
 ·rw [hs, hn _ (by intros; simp)] at h1; exact (Tr.q8 h1).elim
 ·rw [hs, hn _ (by intros; simp)] at h1; exact (Tr.q8 h1).elim
 ·rw [hs, hn _ (by intros; simp)] at h1; exact (Tr.q8 h1).elim
 ·rw [hs, hg] at h1; exact ⟨t, xs, v, r, rfl, h1, h2⟩
 ·rw [hs, hn _ (by intros; simp)] at h1; exact (Tr.q8 h1).elim
theorem q2M {α : Type} {κ : Nat} {f g' : (t : Ty) -> List t.D -> Tr V α} {g : Slot -> Tr V α} {a : α} {rd : List Nat} (hg : ∀ t xs v, g (.live (.row t xs v)) = f t xs) (hl : ∀ t xs, g (.live (.lent t xs)) = g' t xs) (hn : ∀ s, (∀ t xs v, s ≠ .live (.row t xs v)) -> (∀ t xs, s ≠ .live (.lent t xs)) -> g s = .no)
  {h : Heap} (hr : (Tr.look κ g).run F h = some (a, rd)) : ∃ t xs r, ((∃ v, h κ = .live (.row t xs v)) /\ (f t xs).run F h = some (a, r) \/ h κ = .live (.lent t xs) /\ (g' t xs).run F h = some (a, r)) /\ rd = κ :: r := by
 obtain ⟨r, h1, h2⟩ := Tr.wO hr
 rcases hs : h κ with _ | _ | (c | c | ⟨t, xs, v⟩ | ⟨t, xs⟩)
 ·rw [hs, hn _ (by intros; simp) (by intros; simp)] at h1; exact (Tr.q8 h1).elim
 ·rw [hs, hn _ (by intros; simp) (by intros; simp)] at h1; exact (Tr.q8 h1).elim
 ·rw [hs, hn _ (by intros; simp) (by intros; simp)] at h1; exact (Tr.q8 h1).elim
 ·rw [hs, hn _ (by intros; simp) (by intros; simp)] at h1; exact (Tr.q8 h1).elim
 ·rw [hs, hg] at h1; exact ⟨t, xs, r, .inl ⟨⟨v, rfl⟩, h1⟩, h2⟩
 ·rw [hs, hl] at h1; exact ⟨t, xs, r, .inr ⟨rfl, h1⟩, h2⟩
theorem q5H (H : HR m) {κ : Nat} {t : Ty} {xs : List t.D} (h : (∃ v, m.h κ = .live (.row t xs v)) \/ m.h κ = .live (.lent t xs)) : Rd m.w m.all (.sl t) [slV (m.ρ κ)] xs /\ (m.ρ κ).n = List.length xs /\ (m.ρ κ).sz = t.nc := by
 rcases h with ⟨v, h⟩ | h
 ·exact H.q7V h
 ·obtain ⟨h1, h2, h3⟩ := H.q82 (ks := []) h
  exact ⟨H.ofK h1, h2, h3⟩
theorem q9u {α : Type} {κ : Nat} {f : List SV -> Tr V α} {g : Slot -> Tr V α} {a : α} {rd : List Nat} (hg : ∀ c, g (.live (.box c)) = f c) (hn : ∀ s, (∀ c, s ≠ .live (.box c)) -> g s = .no)
  {h : Heap} (hr : (Tr.look κ g).run F h = some (a, rd)) : ∃ c r, h κ = .live (.box c) /\ (f c).run F h = some (a, r) /\ rd = κ :: r := by
 obtain ⟨r, h1, h2⟩ := Tr.wO hr
 rcases hs : h κ with _ | _ | (c | c | ⟨t, xs, v⟩ | ⟨t, xs⟩)
 ·rw [hs, hn _ (by intros; simp)] at h1; exact (Tr.q8 h1).elim
 ·rw [hs, hn _ (by intros; simp)] at h1; exact (Tr.q8 h1).elim
 ·rw [hs, hg] at h1; exact ⟨c, r, rfl, h1, h2⟩
 ·rw [hs, hn _ (by intros; simp)] at h1; exact (Tr.q8 h1).elim
 ·rw [hs, hn _ (by intros; simp)] at h1; exact (Tr.q8 h1).elim
 ·rw [hs, hn _ (by intros; simp)] at h1; exact (Tr.q8 h1).elim
theorem q76 (H : HR m) {κ : Nat} {t : Ty} {xs : List t.D} {ver : Nat} (hκ : m.h κ = .live (.row t xs ver)) {i : Nat} (hi : i < (m.ρ κ).n) :
  i < List.length xs /\ ∃ b off vs, (m.ρ κ).A = some ⟨b, off, none⟩ /\ vs.length = t.nc /\ At m.w b (off + i * t.nc) vs /\ ∃ φ, Ow m.w m.fz t vs (nth t xs i) φ := by
 obtain ⟨⟨A, c, e, h⟩, h5, h6⟩ := H.res κ _ hκ
 simp only [slV, List.cons.injEq, and_true, Value.slice.injEq] at e
 have hi' : i < List.length xs := by omega
 rcases h with ⟨_, h0, _⟩ | ⟨b, off, mm, e', fr, ψ, rfl, _, _, _, _, h, _⟩
 ·omega
 ·obtain ⟨vs, hl, hat, ho⟩ := h i hi'
  exact ⟨hi', b, off, vs, e.1, hl, hat, _, ho⟩
theorem q8a (H : HR m) {κ : Nat} {t : Ty} {xs : List t.D} {ver i o : Nat} (hκ : m.h κ = .live (.row t xs ver)) (hi : i < List.length xs) {b off : Nat} (hA : (m.ρ κ).A = some ⟨b, off, none⟩) {v : Value} (hat : At m.w b (off + i * t.nc + o) [v])
  {l} (hl : leaf t o = some l) : Rd m.w m.all (.sl l.1) [v] (l.2.1 (nth t xs i)) := by
 obtain ⟨⟨A, c, e, hc, hp⟩, h5, h6⟩ := H.q7V hκ
 simp only [slV, List.cons.injEq, and_true, Value.slice.injEq] at e
 obtain ⟨b', off', e1, hb', hi'⟩ := hp (by omega)
 rw [<- e.1, hA] at e1
 injection e1 with e1; injection e1 with e1 e2 _
 rw [<- e1, <- e2] at hi'
 obtain ⟨vs, hvl, hat', hrd⟩ := hi' i hi
 obtain ⟨v', hv', hr'⟩ := q6x hrd hl
 have hol : o < vs.length := (List.getElem?_eq_some_iff.1 hv').1
 have c1 := hat'.cell hol
 have c2 := hat.cell (j := 0) (by simp)
 simp only [Nat.add_zero] at c2
 rw [c2] at c1
 have : v = v' := by
  have := Option.some.inj c1
  simp only [List.getElem_cons_zero] at this
  rw [this, (List.getElem?_eq_some_iff.1 hv').2]
 rw [this]
 exact hr'
theorem q8b {fz : Nat -> Prop} (mk : Nat -> (t : Ty) -> List t.D -> SV) : ∀ {t : Ty} {o : Nat} {x : t.D} {vs : List Value}, t.flat = true -> Rd m.w fz t vs x -> All2 m.SR (enc mk t o x) vs
 | .int k, o, x, vs, _, h => by rw [show vs = _ from h]; exact ⟨rfl, trivial⟩
 | .bool, o, x, vs, _, h => by rw [show vs = _ from h]; exact ⟨rfl, trivial⟩
 | .str, o, x, vs, _, h => by rw [show vs = _ from h]; exact ⟨rfl, trivial⟩
 | .one, o, x, vs, _, h => by rw [show vs = _ from h]; trivial
 | .sl t, o, x, vs, hf, h => by cases hf
 | .ls t, o, x, vs, hf, h => by cases hf
 | .pr a b, o, x, vs, hf, ⟨c1, c2, e, h1, h2⟩ => by
  rw [e]
  simp only [Ty.flat, Bool.and_eq_true] at hf
  exact All2.append (q8b mk hf.1 h1) (q8b mk hf.2 h2)
theorem q80 (H : HR m) {a : SV} {v : Value} {cs : List SV} {rd : List Nat} (hx : m.SR a v) (hr : (q8v (V := V) a).run F m.h = some (cs, rd)) :
  ∃ b off vs, v = .pointer (some ⟨b, off, none⟩) /\ Cl m.w b off vs /\ All2 m.SR cs vs := by
 cases a <;> simp only [q8v] at hr
 case ptr κ off =>
  obtain ⟨r, h1, _⟩ := Tr.wO hr
  obtain ⟨hu, hv⟩ := hx
  have key : ∀ (c : Array Value) e fr, m.w.heap[(m.ρ κ).b]? = some (.cells c e fr) -> Cl m.w (m.ρ κ).b off (c.toList.drop off) := fun c e fr h j hj => by
   simp only [World.cell?, h]
   simp at hj
   rw [List.getElem_drop]
   simp [Array.getElem?_eq_getElem (show off + j < c.size by omega)]
  rcases hs : m.h κ with _ | _ | (cs0 | cs0 | ⟨t, xs, v'⟩ | ⟨t, xs⟩)
  ·rw [hs] at h1; exact (Tr.q8 h1).elim
  ·rw [hs] at h1; exact (Tr.q8 h1).elim
  ·rw [hs] at h1
   obtain ⟨rfl, _⟩ := Tr.q9 h1
   obtain ⟨c, e, fr, h2, h3, h4, _⟩ := H.res κ _ hs
   exact ⟨_, off, c.toList.drop off, hv, key c e fr h2, h4.drop off⟩
  ·rw [hs] at h1
   obtain ⟨rfl, _⟩ := Tr.q9 h1
   obtain ⟨c, e, fr, h2, h3, h4, _⟩ := H.res κ _ hs
   exact ⟨_, off, c.toList.drop off, hv, key c e fr h2, h4.drop off⟩
  ·rw [hs] at h1; exact (Tr.q8 h1).elim
  ·rw [hs] at h1; exact (Tr.q8 h1).elim
 case rptr κ i off =>
  obtain ⟨t, xs, ver, r, hκ, h1, _⟩ := jD (f := fun t xs ver => .ret ((encV κ ver i t (nth t xs i)).drop off)) (fun _ _ _ => rfl) (fun s hs => by rcases s with _ | _ | (_ | _ | ⟨t, xs, v'⟩) <;> first | rfl | exact absurd rfl (hs t xs v')) hr
  obtain ⟨rfl, _⟩ := Tr.q9 h1
  obtain ⟨hu, hi, b, o, hA, hv⟩ := hx
  obtain ⟨hi', b', o', vs, hA', hl, hat, _, hrd⟩ := q76 H hκ hi
  rw [hA] at hA'
  injection hA' with hA'; injection hA' with e1 e2 _
  subst e1; subst e2
  have hsz := (H.q7V hκ).2.2
  refine ⟨b, o + i * (m.ρ κ).sz + off, vs.drop off, hv, ?_, ?_⟩
  ·rw [hsz]; exact hat.cl.drop off
  ·exact (q8n hκ hi' hA hrd (by simpa using hat)).drop off
 case lptr t xs i off =>
  obtain ⟨rfl, _⟩ := Tr.q9 hr
  obtain ⟨hi, b, o, vs, hb, hv, hat, hrd⟩ := hx
  exact ⟨b, o + off, vs.drop off, hv, hat.cl.drop off, (q3L hrd).drop off⟩
 case vptr κ ver i o j off =>
  obtain ⟨t, xs, ver', r, hκ, h1, _⟩ := jD (f := fun t xs v => bif Nat.beq v ver then (match leaf t o with
   | some l => bif l.1.flat then .ret ((encL l.1 (nth l.1 (l.2.1 (nth t xs i)) j)).drop off) else .no
   | none => .no) else .no) (fun _ _ _ => rfl) (fun s hs => by rcases s with _ | _ | (_ | _ | ⟨t, xs, v'⟩) <;> first | rfl | exact absurd rfl (hs t xs v')) hr
  obtain ⟨hver, h1⟩ := qo h1
  have hver : ver' = ver := Nat.eq_of_beq_eq_true hver
  obtain ⟨hu, _, hv⟩ := hx
  obtain ⟨hi, l, hl, hj, b, off', b2, off2, n, c, hA, hat, hvv⟩ := (hv t xs ver' hκ).2 hver.symm
  rw [hl] at h1
  obtain ⟨hf, h1⟩ := qo h1
  obtain ⟨rfl, _⟩ := Tr.q9 h1
  obtain ⟨A', c', e, hc, hp⟩ := q8a H hκ hi hA hat hl
  simp only [List.cons.injEq, and_true, Value.slice.injEq] at e
  obtain ⟨b3, o3, e1, hb3, h⟩ := hp (by omega)
  obtain ⟨vs, _, hat', hrd⟩ := h j hj
  rw [<- e.1] at e1
  injection e1 with e1; injection e1 with e1 e2 _
  rw [<- e1, <- e2] at hat'
  exact ⟨b2, off2 + j * l.1.nc + off, vs.drop off, hvv, hat'.cl.drop off, (q8b _ hf hrd).drop off⟩
 all_goals exact (Tr.q8 hr).elim
theorem qdw (H : HR m) (hχ : ∀ b, ¬ m.χ b) {t : TypeId} {a : SV} {x : Value} {v : PV} {u : Upd} {rd : List Nat} (hx : m.SR a x) (hr : (loadT (V := V) P t a).run F m.h = some ((v, u), rd)) : qE P (Instr.loadAt t x) m v u := by
 obtain ⟨hk, hr⟩ := qo hr
 obtain ⟨d, hd⟩ := q2N hk
 obtain ⟨cs, r1, r2, h1, h2, _⟩ := Tr.bind_some hr
 obtain ⟨b, off, vs, rfl, hcl, hall⟩ := q80 H hx h1
 have hlen := hall.len
 rcases Tr.yI h2 with ⟨hag, h2⟩ | ⟨hag, h2⟩
 ·obtain ⟨hsz, h2⟩ := qo h2
  obtain ⟨rfl, rfl, _⟩ := yN h2
  have hsz := Nat.le_of_ble_eq_true hsz
  refine qE.same H hχ (val := .agg (vs.take (szB P t)).toArray) ?_ ⟨_, rfl, by simpa using hall.take _⟩
  simp only [Instr.loadAt, Instr.sureAddr, loadVar, pure_bind, Sem.run_bind, q2H hd, hag, Result.andThen_ok, if_true, q4O hd, run_loadCells hcl _ (by omega : szB P t <= vs.length), Sem.run_pure]
 ·match cs, vs, hall, h2 with
  | c :: cs, y :: vs, hall, h2 =>
   obtain ⟨rfl, rfl, _⟩ := qw h2
   refine qE.same H hχ (val := y) ?_ hall.1
   have := hcl 0 (by simp)
   simp only [Nat.add_zero, List.getElem_cons_zero] at this
   simp only [Instr.loadAt, Instr.sureAddr, loadVar, pure_bind, Sem.run_bind, q2H hd, hag, Result.andThen_ok, Bool.false_eq_true, if_false, run_load, this]
  | [], _, _, h2 => exact (Tr.q8 h2).elim
theorem qbW (H : HR m) (hχ : ∀ b, ¬ m.χ b) {t : TypeId} {px : PV} {x : Value} {f : Nat} {v : PV} {u : Upd} {rd : List Nat} (hx : m.PR px x) (hr : (q9y (V := V) P t px f).run F m.h = some ((v, u), rd)) : qE P (Instr.field t x f) m v u := by
 unfold q9y at hr
 split at hr
 ·rename_i fs hfs
  split at hr
  ·rename_i fd hfd
   split at hr
   ·rename_i cs
    obtain ⟨hk, hr⟩ := qo hr
    obtain ⟨d, hd⟩ := q2N hk
    obtain ⟨vs, rfl, hall⟩ := hx
    have hrun : (Instr.field t (.agg vs) f).run P m.w = (part fd.type vs fd.offset).run P m.w := by
     simp only [Instr.field, Sem.run_bind, run_underlying hfs, Result.andThen_ok, hfd, asAgg, Sem.run_pure]
    rcases Tr.yI hr with ⟨hag, h2⟩ | ⟨hag, h2⟩
    ·obtain ⟨rfl, rfl, _⟩ := yN h2
     refine qE.same H hχ (val := .agg (vs.extract fd.offset (fd.offset + szB P fd.type))) ?_ ⟨_, rfl, ?_⟩
     ·rw [hrun]
      simp only [part, Sem.run_bind, q2H hd, hag, Result.andThen_ok, if_true, q4O hd, Sem.run_pure]
     ·have := (hall.drop fd.offset).take (szB P fd.type)
      rw [show (vs.extract fd.offset (fd.offset + szB P fd.type)).toList = (vs.toList.drop fd.offset).take (szB P fd.type) by simp]
      exact this
    ·have h3 := hall.drop fd.offset
     match hcs : cs.drop fd.offset, hvs : vs.toList.drop fd.offset, h3, h2 with
     | c :: _, y :: _, h3, h2 =>
      obtain ⟨rfl, rfl, _⟩ := qw h2
      refine qE.same H hχ (val := y) ?_ h3.1
      have : vs[fd.offset]? = some y := by
       rw [<- Array.getElem?_toList, <- List.head?_drop, hvs]; rfl
      rw [hrun]
      simp only [part, Sem.run_bind, q2H hd, hag, Result.andThen_ok, Bool.false_eq_true, if_false, this, Sem.run_pure]
     | [], _, _, h2 => exact (Tr.q8 h2).elim
   ·exact (Tr.q8 hr).elim
  ·exact (Tr.q8 hr).elim
 ·exact (Tr.q8 hr).elim
theorem q8e (H : HR m) (hχ : ∀ b, ¬ m.χ b) {t : TypeId} {px : PV} {x : Value} {f : Nat} {v : PV} {u : Upd} {rd : List Nat} (hx : m.PR px x) (hr : (q57 (V := V) P t px f).run F m.h = some ((v, u), rd)) : qE P (Instr.fieldAt t x f) m v u := by
 unfold q57 at hr
 split at hr
 ·rename_i fs hfs
  split at hr
  ·rename_i fd hfd
   obtain ⟨hk, hr⟩ := qo hr
   simp only [Bool.and_eq_true, Bool.not_eq_true'] at hk
   obtain ⟨d, hd⟩ := q2N hk.1
   have hz : ¬ szB P fd.type = 0 := fun h => by rw [h] at hk; exact absurd hk.2 (by decide)
   have hrun : ∀ b o, (Instr.fieldAt t (.pointer (some ⟨b, o, none⟩)) f).run P m.w = .ok (.pointer (some ⟨b, o + fd.offset, none⟩)) m.w := fun b o => by
    simp only [Instr.fieldAt, Sem.run_bind, run_underlying hfs, Result.andThen_ok, hfd, Instr.sureAddr, fieldPlace, q4O hd, hz, if_false, Sem.run_pure, addr_add]
   split at hr
   ·rename_i κ o
    obtain ⟨rfl, rfl, _⟩ := qw hr
    rw [hx.2]
    exact qE.same H hχ (hrun _ _) ⟨hx.1, rfl⟩
   ·rename_i κ i o
    obtain ⟨rfl, rfl, _⟩ := qw hr
    obtain ⟨h1, h2, b, o', h3, h4⟩ := hx
    rw [h4]
    exact qE.same H hχ (hrun _ _) ⟨h1, h2, b, o', h3, by rw [Nat.add_assoc]⟩
   ·rename_i t' xs i o
    obtain ⟨rfl, rfl, _⟩ := qw hr
    obtain ⟨h1, b, o', vs, h2, h3, h4⟩ := hx
    rw [h3]
    exact qE.same H hχ (hrun _ _) ⟨h1, b, o', vs, h2, by rw [Nat.add_assoc], h4⟩
   ·rename_i κ ver i l j o
    obtain ⟨rfl, rfl, _⟩ := qw hr
    obtain ⟨h1, ⟨a, b, e⟩, h2⟩ := hx
    rw [e]
    refine qE.same H hχ (hrun _ _) ⟨h1, ⟨_, _, rfl⟩, fun t xs ver' hκ => ⟨(h2 t xs ver' hκ).1, fun he => ?_⟩⟩
    obtain ⟨hi, l', hl, hj, b1, off', b2, off2, n, c, hA, hat, hv⟩ := (h2 t xs ver' hκ).2 he
    rw [e] at hv
    simp only [Value.pointer.injEq, Option.some.injEq, Addr.mk.injEq, and_true] at hv
    exact ⟨hi, l', hl, hj, b1, off', b2, off2, n, c, hA, hat, by rw [hv.1, hv.2, Nat.add_assoc]⟩
   ·exact (Tr.q8 hr).elim
  ·exact (Tr.q8 hr).elim
 ·exact (Tr.q8 hr).elim
end
end Go.Den
namespace Go.Den
open Go

section
variable {P : Program} {V : Nat -> Sig} {F : Tr.Fs V} {m : M}
theorem q6p {t : TypeId} (h : okT P t = true) (w : World) : (sizeOf t).run P w = .ok (szB P t) w := by
 obtain ⟨d, hd⟩ := q2N h
 exact q4O hd w
theorem jB {st e : TypeId} (hst : P.underlying st = some (.slice e)) (he : okT P e = true) {b off n c : Nat} {k : IntKind} {i : Int} (h0 : 0 <= i) (h1 : i < n) (w : World) :
  (Instr.indexAt st (.slice (some ⟨b, off, none⟩) n c) (.int k i)).run P w = .ok (.pointer (some ⟨b, off + i.toNat * szB P e, none⟩)) w := by
 simp only [Instr.indexAt, asIntOf, Sem.run_bind, Sem.run_pure, Result.andThen_ok, run_underlying hst]
 simp only [h0, h1, and_self, if_true, Sem.run_bind, q6p he, Result.andThen_ok, Sem.run_pure, addr_add]
theorem Rd.elem {w : World} {fz : Nat -> Prop} {t : Ty} {A : Option Addr} {n c : Nat} {xs : List t.D} (h : Rd w fz (.sl t) [.slice A n c] xs) {i : Nat} (hi : i < List.length xs) :
  n = List.length xs /\ ∃ b off vs, A = some ⟨b, off, none⟩ /\ fz b /\ At w b (off + i * t.nc) vs /\ Rd w fz t vs (nth t xs i) := by
 obtain ⟨A', c', e, hc, hp⟩ := h
 simp only [List.cons.injEq, and_true, Value.slice.injEq] at e
 obtain ⟨b, off, e1, hb, h⟩ := hp (by omega)
 obtain ⟨vs, _, hat, hrd⟩ := h i hi
 exact ⟨e.2.1, b, off, vs, by rw [e.1, e1], hb, hat, hrd⟩
theorem q83 (H : HR m) (hχ : ∀ b, ¬ m.χ b) {st : TypeId} {px : PV} {x : Value} {k : IntKind} {i : Int} {v : PV} {u : Upd} {rd : List Nat} (hx : m.PR px x) (hr : (q56 (V := V) P st px i).run F m.h = some ((v, u), rd)) :
  qE P (Instr.indexAt st x (.int k i)) m v u := by
 unfold q56 at hr
 split at hr
 ·exact (Tr.q8 hr).elim
 ·rename_i e he
  have hst := q1e he
  split at hr
  ·rename_i t xs
   obtain ⟨hk, hr⟩ := qo hr
   obtain ⟨hb, hr⟩ := Tr.wV hr
   obtain ⟨rfl, rfl, _⟩ := qw hr
   simp only [Bool.and_eq_true, decide_eq_true_eq] at hk hb
   have hsz := Nat.eq_of_beq_eq_true hk.2
   obtain ⟨A, c, e1, hc, hp⟩ := hx
   simp only [List.cons.injEq, and_true] at e1
   have hi : i.toNat < List.length xs := by omega
   obtain ⟨b, off, e2, hfz, h⟩ := hp (by omega)
   obtain ⟨vs, _, hat, hrd⟩ := h _ hi
   rw [e1, e2]
   refine qE.same H hχ (jB hst hk.1 hb.1 hb.2 _) ⟨hi, b, off + i.toNat * t.nc, vs, hfz, ?_, hat, hrd⟩
   rw [hsz]; rfl
  ·rename_i κ
   obtain ⟨t, xs, r, hκ, _⟩ := q2M (f := fun t xs => bif okT P e && Nat.beq (szB P e) t.nc then .grd (decide (0 <= i) && decide (i < (List.length xs : Int))) (val (.rptr κ i.toNat 0)) else .no) (g' := fun t xs => bif okT P e && Nat.beq (szB P e) t.nc then .grd (decide (0 <= i) && decide (i < (List.length xs : Int))) (val (.lptr t xs i.toNat 0)) else .no) (fun _ _ _ => rfl) (fun _ _ => rfl) (fun s hs hs' => by rcases s with _ | _ | (_ | _ | ⟨t, xs, v'⟩ | ⟨t, xs⟩) <;> first | rfl | exact absurd rfl (hs t xs v') | exact absurd rfl (hs' t xs)) hr
   rcases hκ with ⟨⟨ver, hκ⟩, h1⟩ | ⟨hκ, h1⟩
   ·obtain ⟨hk, h1⟩ := qo h1
    obtain ⟨hb, h1⟩ := Tr.wV h1
    obtain ⟨rfl, rfl, _⟩ := qw h1
    simp only [Bool.and_eq_true, decide_eq_true_eq] at hk hb
    have hsz := Nat.eq_of_beq_eq_true hk.2
    obtain ⟨_, h5, h6⟩ := H.q7V hκ
    obtain ⟨hi, b, off, vs, hA, _⟩ := q76 H hκ (i := i.toNat) (by omega)
    rw [hx.2, hA]
    refine qE.same H hχ (jB hst hk.1 hb.1 (by omega) _) ⟨hx.1, by omega, b, off, hA, ?_⟩
    rw [hsz, h6]; rfl
   ·obtain ⟨hk, h1⟩ := qo h1
    obtain ⟨hb, h1⟩ := Tr.wV h1
    obtain ⟨rfl, rfl, _⟩ := qw h1
    simp only [Bool.and_eq_true, decide_eq_true_eq] at hk hb
    have hsz := Nat.eq_of_beq_eq_true hk.2
    obtain ⟨hrd, h5, h6, _⟩ := H.res κ _ hκ
    obtain ⟨hn, b, off, vs, e2, hb2, hat2, hrd2⟩ := Rd.elem hrd (i := i.toNat) (by omega)
    rw [hx.2, e2]
    refine qE.same H hχ (jB hst hk.1 hb.1 (by omega) _) ⟨by omega, b, off + i.toNat * t.nc, vs, hb2, ?_, hat2, hrd2⟩
    rw [hsz]; rfl
  ·rename_i κ lo hi
   obtain ⟨t, xs, r, hκ, _⟩ := q2M (f := fun t xs => bif okT P e && Nat.beq (szB P e) t.nc then .grd (decide (0 <= i) && decide (i < ((hi - lo : Nat) : Int))) (val (.rptr κ (lo + i.toNat) 0)) else .no) (g' := fun t xs => bif okT P e && Nat.beq (szB P e) t.nc then .grd (decide (0 <= i) && decide (i < ((hi - lo : Nat) : Int))) (val (.lptr t xs (lo + i.toNat) 0)) else .no) (fun _ _ _ => rfl) (fun _ _ => rfl) (fun s hs hs' => by rcases s with _ | _ | (_ | _ | ⟨t, xs, v'⟩ | ⟨t, xs⟩) <;> first | rfl | exact absurd rfl (hs t xs v') | exact absurd rfl (hs' t xs)) hr
   obtain ⟨hu, hlo, hhi, A', hcut, hv⟩ := hx
   rcases hκ with ⟨⟨ver, hκ⟩, h1⟩ | ⟨hκ, h1⟩
   ·obtain ⟨hk, h1⟩ := qo h1
    obtain ⟨hb, h1⟩ := Tr.wV h1
    obtain ⟨rfl, rfl, _⟩ := qw h1
    simp only [Bool.and_eq_true, decide_eq_true_eq] at hk hb
    have hsz := Nat.eq_of_beq_eq_true hk.2
    obtain ⟨hrow, h5, h6⟩ := H.q7V hκ
    obtain ⟨hi', b, off, vs, hA, _⟩ := q76 H hκ (i := lo + i.toNat) (by omega)
    obtain ⟨_, c, e1, hc, _⟩ := hrow
    simp only [slV, List.cons.injEq, and_true, Value.slice.injEq] at e1
    obtain ⟨o', hA', ho, _⟩ := hcut.2 b off hA
    have hlt : lo < (m.ρ κ).c := by rw [e1.2.2]; clear ho hcut; omega
    have ho := ho hlt
    rw [hv, hA']
    refine qE.same H hχ (jB hst hk.1 hb.1 (by omega) _) ⟨hu, by omega, b, off, hA, ?_⟩
    rw [ho, hsz, h6, Nat.add_mul, Nat.add_assoc]; rfl
   ·obtain ⟨hk, h1⟩ := qo h1
    obtain ⟨hb, h1⟩ := Tr.wV h1
    obtain ⟨rfl, rfl, _⟩ := qw h1
    simp only [Bool.and_eq_true, decide_eq_true_eq] at hk hb
    have hsz := Nat.eq_of_beq_eq_true hk.2
    obtain ⟨hrd, h5, h6, _⟩ := H.res κ _ hκ
    have hin : lo + i.toNat < List.length xs := by omega
    obtain ⟨hn, b, off, vs, e2, hb2, hat2, hrd2⟩ := Rd.elem hrd (i := lo + i.toNat) hin
    obtain ⟨_, c, e1, hc, _⟩ := hrd
    simp only [slV, List.cons.injEq, and_true, Value.slice.injEq] at e1
    obtain ⟨o', hA', ho, _⟩ := hcut.2 b off e2
    have hlt : lo < (m.ρ κ).c := by rw [e1.2.2]; clear ho hcut; omega
    have ho := ho hlt
    rw [hv, hA']
    refine qE.same H hχ (jB hst hk.1 hb.1 (by omega) _) ⟨hin, b, off + (lo + i.toNat) * t.nc, vs, hb2, ?_, hat2, hrd2⟩
    rw [ho, hsz, h6, Nat.add_mul, Nat.add_assoc]; rfl
  ·rename_i κ ver j o
   obtain ⟨t, xs, ver', r, hκ, h1, _⟩ := jD (f := fun t xs v => bif Nat.beq v ver then (match leaf t o with
    | some l => bif okT P e && Nat.beq (szB P e) l.1.nc then .grd (decide (0 <= i) && decide (i < ((List.length (l.2.1 (nth t xs j))) : Int))) (val (.vptr κ ver j o i.toNat 0)) else .no
    | none => .no) else .no) (fun _ _ _ => rfl) (fun s hs => by rcases s with _ | _ | (_ | _ | ⟨t, xs, v'⟩) <;> first | rfl | exact absurd rfl (hs t xs v')) hr
   obtain ⟨hver, h1⟩ := qo h1
   have hver : ver' = ver := Nat.eq_of_beq_eq_true hver
   subst hver
   obtain ⟨hu, ⟨A, n, c, hv⟩, hw⟩ := hx
   cases hl : leaf t o with
   | none => rw [hl] at h1; exact (Tr.q8 h1).elim
   | some l =>
    rw [hl] at h1
    obtain ⟨hk, h1⟩ := qo h1
    obtain ⟨hb, h1⟩ := Tr.wV h1
    obtain ⟨rfl, rfl, _⟩ := qw h1
    simp only [Bool.and_eq_true, decide_eq_true_eq] at hk hb
    have hsz := Nat.eq_of_beq_eq_true hk.2
    obtain ⟨hi, b, off, hA, hat⟩ := (hw t xs ver' hκ).2 rfl
    rw [hv] at hat
    obtain ⟨hn, b2, off2, vs, e2, hb2, hat2, hrd2⟩ := Rd.elem (q8a H hκ hi hA hat hl) (i := i.toNat) (by omega)
    rw [e2] at hat
    rw [hv, e2]
    refine qE.same H hχ (jB hst hk.1 hb.1 (by omega) _) ⟨hu, ⟨_, _, rfl⟩, fun t' xs' ver'' hκ' => ?_⟩
    rw [hκ] at hκ'
    injection hκ' with hκ'; injection hκ' with e3 e4 e5
    subst e3
    have e4 := eq_of_heq e4
    subst e4
    exact ⟨by omega, fun _ => ⟨hi, l, hl, by omega, b, off, b2, off2, n, c, hA, hat, by rw [hsz]; rfl⟩⟩
  ·exact (Tr.q8 hr).elim
end
end Go.Den
namespace Go.Den
open Go

section
variable {P : Program} {V : Nat -> Sig} {F : Tr.Fs V} {m : M}
theorem qch (H : HR m) (hχ : ∀ b, ¬ m.χ b) {st : TypeId} {s : BA} {k : IntKind} {i : Int} {v : PV} {u : Upd} {rd : List Nat}
  (hr : (bif isStr P st then Tr.grd (decide (0 <= i) && decide (i < (s.size : Int))) (val (V := V) (.int .u8 (bt s i.toNat))) else .no).run F m.h = some ((v, u), rd)) :
  qE P (Instr.index st (.string s) (.int k i)) m v u := by
 obtain ⟨hk, hr⟩ := qo hr
 obtain ⟨hb, hr⟩ := Tr.wV hr
 obtain ⟨rfl, rfl, _⟩ := qw hr
 have hst := q3r hk
 simp only [Bool.and_eq_true, decide_eq_true_eq] at hb
 have hlt : i.toNat < s.size := by omega
 refine qE.same H hχ (val := .int .u8 s[i.toNat].toNat) ?_ ?_
 ·simp only [Instr.index, asIntOf, Sem.run_bind, Sem.run_pure, Result.andThen_ok, run_underlying hst, hb.1, if_true]
  rw [show s[i.toNat]? = some s[i.toNat] from getElem?_pos s _ hlt]
  rfl
 ·show Value.int .u8 _ = Value.int .u8 (bt s i.toNat)
  have : bt s i.toNat = (s[i.toNat].toNat : Int) := by
   have hlt' : i.toNat < s.data.size := hlt
   simp only [bt, List.getD_eq_getElem?_getD, Array.getElem?_toList, Array.getElem?_eq_getElem hlt', Option.getD_some]
   rfl
  rw [this]
theorem qe1 {x : SV} {v : Value} {V : Nat -> Sig} {F : Tr.Fs V} {pv : PV} {u : Upd} {rd : List Nat} (H : HR m) (hx : m.SR x v) (hr : (lenS (V := V) x).run F m.h = some ((pv, u), rd)) :
  u = [] /\ ∃ A n c, v = .slice A n c /\ pv = .sv (.int .i64 n) := by
 cases x <;> simp only [lenS] at hr
 case nils => obtain ⟨rfl, rfl, _⟩ := qw hr; exact ⟨rfl, none, 0, 0, hx, rfl⟩
 case lst t xs =>
  obtain ⟨rfl, rfl, _⟩ := qw hr
  obtain ⟨A, c, e, _⟩ := hx
  simp only [List.cons.injEq, and_true] at e
  exact ⟨rfl, A, _, c, e, rfl⟩
 case own κ =>
  obtain ⟨t, xs, r, hκ, _⟩ := q2M (f := fun t xs => val (.int .i64 (List.length xs))) (g' := fun t xs => val (.int .i64 (List.length xs))) (fun _ _ _ => rfl) (fun _ _ => rfl) (fun s hs hs' => by rcases s with _ | _ | (_ | _ | ⟨t, xs, v'⟩ | ⟨t, xs⟩) <;> first | rfl | exact absurd rfl (hs t xs v') | exact absurd rfl (hs' t xs)) hr
  obtain ⟨hany, h1⟩ : ((∃ v, m.h κ = .live (.row t xs v)) \/ m.h κ = .live (.lent t xs)) /\ (val (V := V) (.int .i64 (List.length xs))).run F m.h = some ((pv, u), r) := hκ.elim (fun h => ⟨.inl h.1, h.2⟩) fun h => ⟨.inr h.1, h.2⟩
  obtain ⟨rfl, rfl, _⟩ := qw h1
  exact ⟨rfl, _, _, _, hx.2, by rw [(q5H H hany).2.1]⟩
 case sub κ lo hi =>
  obtain ⟨rfl, rfl, _⟩ := qw hr
  obtain ⟨_, _, _, A, _, hv⟩ := hx
  exact ⟨rfl, _, _, _, hv, rfl⟩
 case view κ ver j o =>
  obtain ⟨t, xs, ver', r, hκ, h1, _⟩ := jD (f := fun t xs v => bif Nat.beq v ver then (match leaf t o with
   | some l => val (.int .i64 (List.length (l.2.1 (nth t xs j))))
   | none => .no) else .no) (fun _ _ _ => rfl) (fun s hs => by rcases s with _ | _ | (_ | _ | ⟨t, xs, v'⟩) <;> first | rfl | exact absurd rfl (hs t xs v')) hr
  obtain ⟨hver, h1⟩ := qo h1
  have hver : ver' = ver := Nat.eq_of_beq_eq_true hver
  obtain ⟨hu, ⟨A, n, c, hv⟩, hw⟩ := hx
  cases hl : leaf t o with
  | none => rw [hl] at h1; exact (Tr.q8 h1).elim
  | some l =>
   rw [hl] at h1
   obtain ⟨rfl, rfl, _⟩ := qw h1
   obtain ⟨hi, b, off, hA, hat⟩ := (hw t xs ver' hκ).2 hver.symm
   obtain ⟨A', c', e, _⟩ := q8a H hκ hi hA hat hl
   simp only [List.cons.injEq, and_true] at e
   exact ⟨rfl, A', _, c', e, rfl⟩
 all_goals exact (Tr.q8 hr).elim
theorem qej (H : HR m) (hχ : ∀ b, ¬ m.χ b) {ty st : TypeId} {ts : List TypeId} {px : PV} {x : Value} {v : PV} {u : Upd} {rd : List Nat} (hx : m.PR px x) (hr : (lenT (V := V) P st px).run F m.h = some ((v, u), rd)) :
  qE P (Builtin.len_ (st :: ts).toArray ty #[x]) m v u := by
 unfold lenT at hr
 split at hr
 ·rename_i s
  obtain ⟨hk, hr⟩ := qo hr
  obtain ⟨rfl, rfl, _⟩ := qw hr
  rw [show x = _ from hx]
  refine qE.same H hχ (val := .int .i64 s.size) ?_ rfl
  simp [Builtin.len_, run_underlying (q3r hk), goInt]
 ·split at hr
  ·rename_i e he
   obtain ⟨rfl, A, n, c, rfl, rfl⟩ := qe1 H hx hr
   refine qE.same H hχ (val := .int .i64 n) ?_ rfl
   simp [Builtin.len_, run_underlying (q1e he), goInt]
  ·exact (Tr.q8 hr).elim
 ·exact (Tr.q8 hr).elim
theorem qat {lo : Option PV} {lv : Option Value} {d l : Int} {rd : List Nat} (hl : ∀ p, lo = some p -> ∃ v, lv = some v /\ m.PR p v) (hn : lo = none -> lv = none) (hr : (q7L (V := V) lo d).run F m.h = some (l, rd)) :
  (lv = none /\ l = d) \/ ∃ k, lv = some (.int k l) := by
 unfold q7L at hr
 split at hr
 ·obtain ⟨rfl, _⟩ := Tr.q9 hr; exact .inl ⟨hn rfl, rfl⟩
 ·rename_i k n
  obtain ⟨rfl, _⟩ := Tr.q9 hr
  obtain ⟨v, hv, hp⟩ := hl _ rfl
  exact .inr ⟨k, by rw [hv, show v = _ from hp]⟩
 ·exact (Tr.q8 hr).elim
theorem qcs {isS : Bool} {n c : Nat} {lv hv : Option Value} {l h : Int} (hl : (lv = none /\ l = 0) \/ ∃ k, lv = some (.int k l)) (hh : (hv = none /\ h = n) \/ ∃ k, hv = some (.int k h)) (h0 : 0 <= l) (h1 : l <= h) (h2 : h <= n) (hc : n <= c) (w : World) :
  (Instr.sliceBounds isS n c lv hv none).run P w = .ok (l.toNat, h.toNat, c) w := by
 have a1 : 0 <= h := by omega
 have a2 : h <= (c : Int) := by omega
 have a3 : l <= (h.toNat : Int) := by omega
 have b1 : ∀ k, (Instr.sliceBound (.int k l) h.toNat .sliceB).run P w = .ok l.toNat w := fun k => run_sliceBound _ k l h.toNat _ h0 a3
 have b2 : ∀ k code, (Instr.sliceBound (.int k h) c code).run P w = .ok h.toNat w := fun k code => run_sliceBound _ k h c _ a1 a2
 rcases hl with ⟨rfl, rfl⟩ | ⟨k, rfl⟩ <;> rcases hh with ⟨rfl, rfl⟩ | ⟨k', rfl⟩ <;>
  simp [Instr.sliceBounds, b1, b2] <;> simp_all
theorem q64 {lo hi : Option PV} {lv hv : Option Value} {n : Nat} {f : Nat -> Nat -> SV} {v : PV} {u : Upd} {rd : List Nat} (hl : ∀ p, lo = some p -> ∃ v, lv = some v /\ m.PR p v) (hln : lo = none -> lv = none)
  (hh : ∀ p, hi = some p -> ∃ v, hv = some v /\ m.PR p v) (hhn : hi = none -> hv = none) (hr : (cutT (V := V) lo hi n f).run F m.h = some ((v, u), rd)) :
  ∃ l h : Int, 0 <= l /\ l <= h /\ h <= n /\ u = [] /\ v = .sv (f l.toNat h.toNat) /\ ∀ (isS : Bool) (c : Nat) (w : World), n <= c -> (Instr.sliceBounds isS n c lv hv none).run P w = .ok (l.toNat, h.toNat, c) w := by
 obtain ⟨h, r1, r2, h1, h2, _⟩ := Tr.bind_some hr
 obtain ⟨l, r3, r4, h3, h4, _⟩ := Tr.bind_some h2
 obtain ⟨hb, h4⟩ := Tr.wV h4
 obtain ⟨rfl, rfl, _⟩ := qw h4
 simp only [Bool.and_eq_true, decide_eq_true_eq] at hb
 exact ⟨l, h, hb.1, hb.2.1, hb.2.2, rfl, rfl, fun isS c w hc => qcs (qat hl hln h3) (qat hh hhn h1) hb.1 hb.2.1 hb.2.2 hc w⟩
theorem q27 {st e : TypeId} (hst : P.underlying st = some (.slice e)) (he : okT P e = true) {A : Option Addr} {n c : Nat} {lv hv : Option Value} {l h : Nat} {w : World} (hb : (Instr.sliceBounds true n c lv hv none).run P w = .ok (l, h, c) w) :
  (Instr.sliceAt st (.slice A n c) lv hv none).run P w = .ok (.slice (if c = l then A else A.map (·.add (l * szB P e))) (h - l) (c - l)) w := by
 simp only [Instr.sliceAt, Sem.run_bind, run_underlying hst, Result.andThen_ok, Instr.slice, hb, q6p he, Sem.run_pure]
theorem qbJ (A : Option Addr) (c l sz : Nat) (hl : l <= c) : Cut A (if c = l then A else A.map (·.add (l * sz))) l c sz := by
 refine ⟨fun h => by rw [h]; simp, fun b o h => ?_⟩
 by_cases hcl : c = l
 ·exact ⟨o, by rw [if_pos hcl, h], fun h => by omega, by omega⟩
 ·exact ⟨o + l * sz, by rw [if_neg hcl, h]; simp [addr_add], fun _ => rfl, Nat.add_le_add_left (Nat.mul_le_mul_right _ hl) _⟩
theorem qfg {A A' : Option Addr} {a c l sz : Nat} (h : Cut A A' a c sz) (hl : a + l <= c) : Cut A (if c - a = l then A' else A'.map (·.add (l * sz))) (a + l) c sz := by
 refine ⟨fun hA => by rw [h.1 hA]; simp, fun b o hA => ?_⟩
 obtain ⟨o', hA', ho, hb⟩ := h.2 b o hA
 by_cases hcl : c - a = l
 ·exact ⟨o', by rw [if_pos hcl, hA'], fun h => by omega, hb⟩
 ·refine ⟨o' + l * sz, by rw [if_neg hcl, hA']; simp [addr_add], fun _ => by rw [ho (by omega), Nat.add_mul, Nat.add_assoc], ?_⟩
  rw [ho (by omega), Nat.add_assoc, <- Nat.add_mul]
  exact Nat.add_le_add_left (Nat.mul_le_mul_right _ hl) _
theorem qbY (H : HR m) (hχ : ∀ b, ¬ m.χ b) {st : TypeId} {px : PV} {x : Value} {lo hi : Option PV} {lv hv : Option Value} {v : PV} {u : Upd} {rd : List Nat} (hx : m.PR px x) (hl : ∀ p, lo = some p -> ∃ v, lv = some v /\ m.PR p v) (hln : lo = none -> lv = none)
  (hh : ∀ p, hi = some p -> ∃ v, hv = some v /\ m.PR p v) (hhn : hi = none -> hv = none) (hr : (sliceT (V := V) P st px lo hi).run F m.h = some ((v, u), rd)) : qE P (Instr.sliceAt st x lv hv none) m v u := by
 unfold sliceT at hr
 split at hr
 ·rename_i s
  obtain ⟨hk, hr⟩ := qo hr
  have hst := q3r hk
  obtain ⟨l, h, h0, h1, h2, rfl, rfl, hb⟩ := q64 (P := P) hl hln hh hhn hr
  rw [show x = _ from hx]
  refine qE.same H hχ (val := .string (s.extract l.toNat h.toNat)) ?_ rfl
  simp only [Instr.sliceAt, Sem.run_bind, run_underlying hst, Result.andThen_ok, Instr.slice, Option.isSome_none, Bool.false_eq_true, if_false, hb false s.size m.w (Nat.le_refl _), Sem.run_pure]
 ·rename_i y
  split at hr
  ·exact (Tr.q8 hr).elim
  ·rename_i e he
   have hst := q1e he
   have ⟨hk, hr'⟩ := qo hr
   clear hr
   split at hr'
   ·rename_i t xs
    obtain ⟨hsz, hr'⟩ := qo hr'
    have hsz := Nat.eq_of_beq_eq_true hsz
    obtain ⟨l, h, h0, h1, h2, rfl, rfl, hb⟩ := q64 (P := P) hl hln hh hhn hr'
    have hx' := hx
    obtain ⟨A, c, e1, hc, _⟩ := hx
    simp only [List.cons.injEq, and_true] at e1
    rw [e1]
    refine qE.same H hχ (q27 hst hk (hb true c m.w hc)) ?_
    have hx' : Rd m.w m.fz (.sl t) [x] xs := hx'
    rw [e1] at hx'
    show Rd m.w m.fz (.sl t) [_] _
    rw [hsz]
    exact Rd.sub hx' (by omega) (by omega) (qbJ A c _ _ (by omega))
   ·rename_i κ
    obtain ⟨t, xs, r, hκ, _⟩ := q2M (f := fun t xs => bif Nat.beq (szB P e) t.nc then cutT lo hi (List.length xs) fun l h => .sub κ l h else .no) (g' := fun t xs => bif Nat.beq (szB P e) t.nc then cutT lo hi (List.length xs) fun l h => .sub κ l h else .no) (fun _ _ _ => rfl) (fun _ _ => rfl) (fun s hs hs' => by rcases s with _ | _ | (_ | _ | ⟨t, xs, v'⟩ | ⟨t, xs⟩) <;> first | rfl | exact absurd rfl (hs t xs v') | exact absurd rfl (hs' t xs)) hr'
    obtain ⟨hany, h1⟩ : ((∃ v, m.h κ = .live (.row t xs v)) \/ m.h κ = .live (.lent t xs)) /\ (bif Nat.beq (szB P e) t.nc then cutT lo hi (List.length xs) fun l h => .sub κ l h else .no : T V).run F m.h = some ((v, u), r) := hκ.elim (fun h => ⟨.inl h.1, h.2⟩) fun h => ⟨.inr h.1, h.2⟩
    obtain ⟨hsz, h1⟩ := qo h1
    have hsz := Nat.eq_of_beq_eq_true hsz
    obtain ⟨l, h, h0, hlh, h2, rfl, rfl, hb⟩ := q64 (P := P) hl hln hh hhn h1
    obtain ⟨⟨_, c, e1, hc, _⟩, h5, h6⟩ := q5H H hany
    simp only [slV, List.cons.injEq, and_true, Value.slice.injEq] at e1
    have hcc : List.length xs <= (m.ρ κ).c := by rw [e1.2.2]; exact hc
    rw [hx.2, h5]
    refine qE.same H hχ (q27 hst hk (hb true _ m.w hcc)) ⟨hx.1, by omega, by omega, _, ?_, rfl⟩
    rw [hsz, <- h6]
    exact qbJ _ _ _ _ (by omega)
   ·rename_i κ a b
    obtain ⟨t, xs, r, hκ, _⟩ := q2M (f := fun t xs => bif Nat.beq (szB P e) t.nc then cutT lo hi (b - a) fun l h => .sub κ (a + l) (a + h) else .no) (g' := fun t xs => bif Nat.beq (szB P e) t.nc then cutT lo hi (b - a) fun l h => .sub κ (a + l) (a + h) else .no) (fun _ _ _ => rfl) (fun _ _ => rfl) (fun s hs hs' => by rcases s with _ | _ | (_ | _ | ⟨t, xs, v'⟩ | ⟨t, xs⟩) <;> first | rfl | exact absurd rfl (hs t xs v') | exact absurd rfl (hs' t xs)) hr'
    obtain ⟨hany, h1⟩ : ((∃ v, m.h κ = .live (.row t xs v)) \/ m.h κ = .live (.lent t xs)) /\ (bif Nat.beq (szB P e) t.nc then cutT lo hi (b - a) fun l h => .sub κ (a + l) (a + h) else .no : T V).run F m.h = some ((v, u), r) := hκ.elim (fun h => ⟨.inl h.1, h.2⟩) fun h => ⟨.inr h.1, h.2⟩
    obtain ⟨hsz, h1⟩ := qo h1
    have hsz := Nat.eq_of_beq_eq_true hsz
    obtain ⟨l, h, h0, hlh, h2, rfl, rfl, hb⟩ := q64 (P := P) hl hln hh hhn h1
    obtain ⟨⟨_, c, e1, hc, _⟩, h5, h6⟩ := q5H H hany
    simp only [slV, List.cons.injEq, and_true, Value.slice.injEq] at e1
    have hcc : List.length xs <= (m.ρ κ).c := by rw [e1.2.2]; exact hc
    obtain ⟨hu, hab, hbn, A', hcut, hv'⟩ := hx
    rw [hv']
    refine qE.same H hχ (q27 hst hk (hb true _ m.w (by omega))) ⟨hu, by omega, by omega, if (m.ρ κ).c - a = l.toNat then A' else A'.map (·.add (l.toNat * szB P e)), ?_, ?_⟩
    ·rw [hsz, <- h6]
     exact qfg hcut (by omega)
    ·congr 1 <;> omega
   ·obtain ⟨l, h, h0, hlh, h2, rfl, rfl, hb⟩ := q64 (P := P) hl hln hh hhn hr'
    rw [show x = .slice none 0 0 from hx]
    refine qE.same H hχ (q27 hst hk (hb true 0 m.w (by omega))) ?_
    show Value.slice _ _ _ = Value.slice none 0 0
    have : h.toNat - l.toNat = 0 := by omega
    simp [this]
   ·exact (Tr.q8 hr').elim
 ·exact (Tr.q8 hr).elim
end
end Go.Den
namespace Go.Den
open Go

section
variable {P : Program} {V : Nat -> Sig} {F : Tr.Fs V} {m : M}
theorem qby (h : Heap) (ρ : Env) (fz : Nat -> Prop) (w : World) (v : Value) : SR h ρ fz w (svOf v) v := by
 unfold svOf
 split
 ·rfl
 ·rfl
 ·rfl
 ·rfl
 ·rfl
 ·rfl
 ·rfl
 ·rename_i f first cap
  cases hb : Nat.beq first.size 0 && Nat.beq cap.size 0 with
  | false => trivial
  | true =>
   simp only [Bool.and_eq_true] at hb
   have h1 : first = #[] := Array.size_eq_zero_iff.1 (Nat.eq_of_beq_eq_true hb.1)
   have h2 : cap = #[] := Array.size_eq_zero_iff.1 (Nat.eq_of_beq_eq_true hb.2)
   rw [h1, h2]
   exact ⟨fun κ hκ => (by cases hκ), rfl⟩
 ·trivial
theorem All2.qal (h : Heap) (ρ : Env) (fz : Nat -> Prop) (w : World) : ∀ vs : List Value, All2 (SR h ρ fz w) (vs.map svOf) vs
 | [] => trivial
 | v :: vs => ⟨qby h ρ fz w v, All2.qal h ρ fz w vs⟩
theorem q8u (h : Heap) (ρ : Env) (fz : Nat -> Prop) (w : World) (v : Value) : PR h ρ fz w (pvOf v) v := by
 unfold pvOf
 split
 ·exact ⟨_, rfl, All2.qal h ρ fz w _⟩
 ·exact qby h ρ fz w v
theorem q3G {e : TypeId} {z : PV} (h : q6f P e = some z) : ∃ i v, P.info? e = some i /\ i.zero = some v /\ pvOf v = z := by
 unfold q6f at h
 split at h
 ·rename_i i hi
  split at h
  ·rename_i v hv
   exact ⟨i, v, hi, hv, Option.some.inj h⟩
  ·cases h
 ·cases h
theorem q1K {e : TypeId} {i : TypeInfo} {v : Value} (hi : P.info? e = some i) (hv : i.zero = some v) (w : World) : (zeroValue e).run P w = .ok v w := by
 simp only [zeroValue, Sem.run_bind, q50 hi, Result.andThen_ok, hv, Sem.run_pure]
theorem q9A (H : HR m) (hχ : ∀ b, ¬ m.χ b) {key : Nat} (hk : m.h key = .free) {z : CV} {x : Value} (hz : okCV z = true) (hr : m.CR z x) (e : TypeId) :
  qE P (do pure (.pointer (some (<- newVar e x)))) m (.sv (.ptr key 0)) [(key, .live (.box (qJ z)))] := by
 let o : Obj := .cells x.cells e
 let l : Loc := ⟨m.w.heap.size, none, 0, 0, 0⟩
 let m1 := m.push o
 have H1 := q8z H o
 have E1 := q5j H o
 have hψ : ∀ b, b = m.w.heap.size -> m1.χ b := fun b hb => .inr hb
 have E2 := q0u (m := m1) (κ := key) (r := .box (qJ z)) (l := l) (ψ := fun b => b = m.w.heap.size) hk hψ
 have hnew : m1.w.heap[m.w.heap.size]? = some o := Array.getElem?_push_size
 have hc := (CR.cells hz hr).1
 have hres : ResR (m1.take key (.box (qJ z)) l fun b => b = m.w.heap.size) key (.box (qJ z)) fun b => b = m.w.heap.size := by
  refine ⟨x.cells, e, (0, 0), ?_, fun j hj h => by simp at h, All2.mono (fun _ _ h => E2.sr (E1.sr h)) hc, fun b => ?_⟩
  ·show m1.w.heap[(fset m1.ρ key l key).b]? = _
   rw [qU]; exact hnew
  ·show b = _ ↔ b = (fset m1.ρ key l key).b
   rw [qU]
 refine ⟨.pointer (some ⟨m.w.heap.size, 0, none⟩), m1.take key (.box (qJ z)) l fun b => b = m.w.heap.size, ?_, ?_, q4P H1 hk hψ hres, E1.trans E2, rfl, fun b hb => ?_⟩
 ·simp only [newVar, newRow, Sem.run_bind, run_newObj, Result.andThen_ok, Sem.run_pure]
  rfl
 ·show m1.take key (.box (qJ z)) l (fun b => b = m.w.heap.size) |>.SR (.ptr key 0) _
  refine ⟨by simp [M.take, Heap.wD, Slot.used], ?_⟩
  show _ = Value.pointer (some ⟨(fset m1.ρ key l key).b, 0, none⟩)
  rw [qU]
 ·rcases hb.1 with h | h
  ·exact hχ b h
  ·exact hb.2 h
theorem qc8 (H : HR m) (hχ : ∀ b, ¬ m.χ b) {key : Nat} {e : TypeId} {z : CV} (hz : q6f P e = some (.c z)) {v : PV} {u : Upd} {rd : List Nat}
  (hr : (bif okCV z then fresh key (.ret (V := V) (PV.sv (.ptr key 0), [(key, Slot.live (.box (qJ z)))])) else .no).run F m.h = some ((v, u), rd)) : qE P (Instr.alloc e true (.tuple #[])) m v u := by
 obtain ⟨hok, hr⟩ := qo hr
 obtain ⟨hk, r, hr, _⟩ := Tr.q0t hr
 obtain ⟨rfl, rfl, _⟩ := yN hr
 obtain ⟨i, x, hi, hv, hp⟩ := q3G hz
 have hcr : m.CR z x := by
  have := q8u m.h m.ρ m.fz m.w x
  rw [hp] at this
  exact this
 refine (q9A (P := P) H hχ hk hok hcr e).congr ?_
 simp only [Instr.alloc, Sem.run_bind, q1K hi hv, Result.andThen_ok]
theorem All2.splice {R : SV -> Value -> Prop} {cs : List SV} {vs : List Value} {new : List SV} {nv : List Value} (h : All2 R cs vs) (hn : All2 R new nv) (off : Nat) : All2 R (splice cs off new) (vs.take off ++ nv ++ vs.drop (off + nv.length)) := by
 unfold Den.splice
 rw [hn.len]
 exact ((h.take off).append hn).append (h.drop _)
theorem foldl_set (nv : List Value) : ∀ (k off : Nat) (cells : Array Value), off + k + nv.length <= cells.size ->
  ((nv.zipIdx k).foldl (fun cs (p : Value × Nat) => cs.setIfInBounds (off + p.2) p.1) cells).toList = cells.toList.take (off + k) ++ nv ++ cells.toList.drop (off + k + nv.length) := by
 induction nv with
 | nil => intro k off cells h; simp
 | cons v nv ih =>
  intro k off cells h
  simp only [List.length_cons] at h
  simp only [List.zipIdx_cons, List.foldl_cons]
  rw [ih (k + 1) off _ (by simp; omega)]
  simp only [Array.toList_setIfInBounds, List.length_cons]
  have hlt : off + k < cells.size := by omega
  rw [show off + (k + 1) = off + k + 1 by omega, List.take_add_one, List.take_set_of_le (by omega), List.drop_set_of_lt (by omega)]
  simp only [List.getElem?_set, if_true, List.length_set, Array.length_toList, hlt]
  simp
  rw [show off + k + (nv.length + 1) = off + k + 1 + nv.length by omega]
theorem qbq {place : Nat -> Option (Nat × Nat)} {fs : Array Field} {R : SV -> Value -> Prop} (hp : ∀ i f, fs[i]? = some f -> okT P f.type = true -> place i = some (f.offset, szB P f.type)) :
  ∀ (ps : List (Nat × CV)) (vs : List (Nat × Value)) {cs cs' : List SV} {cells : Array Value}, All2 (fun (p : Nat × CV) (q : Nat × Value) => p.1 = q.1 /\ All2 R (qJ p.2) q.2.cells.toList) ps vs -> All2 R cs cells.toList ->
   q7C P fs ps cs = some cs' -> ∃ cells', Instr.fill place cells vs = some cells' /\ All2 R cs' cells'.toList
 | [], [], cs, cs', cells, _, h, he => by
  simp only [q7C, Option.some.injEq] at he
  subst he
  exact ⟨cells, rfl, h⟩
 | (i, c) :: ps, (j, v) :: vs, cs, cs', cells, hps, h, he => by
  obtain ⟨⟨hij, hc⟩, hps⟩ := hps
  have hij : i = j := hij
  subst hij
  simp only [q7C] at he
  split at he
  ·cases he
  ·rename_i f hf
   cases hb : okT P f.type && Nat.beq (qJ c).length (szB P f.type) && Nat.ble (f.offset + (qJ c).length) cs.length with
   | false => rw [hb] at he; cases he
   | true =>
    rw [hb] at he
    simp only [Bool.and_eq_true] at hb
    have h1 := Nat.eq_of_beq_eq_true hb.1.2
    have h2 := Nat.le_of_ble_eq_true hb.2
    have hl := hc.len
    have hl' := h.len
    have hl : (qJ c).length = v.cells.size := by rw [hl]; simp
    have hl' : cs.length = cells.size := by rw [hl']; simp
    have hpl := hp i f hf hb.1.1
    have key := foldl_set v.cells.toList 0 f.offset cells (by simp; omega)
    have hspl := h.splice hc f.offset
    have hh : All2 R (splice cs f.offset (qJ c)) ((v.cells.toList.zipIdx 0).foldl (fun cs (p : Value × Nat) => cs.setIfInBounds (f.offset + p.2) p.1) cells).toList := by
     rw [key]; simpa using hspl
    obtain ⟨cells', h3, h4⟩ := qbq hp ps vs hps hh he
    refine ⟨cells', ?_, h4⟩
    simp only [Instr.fill, hpl]
    rw [if_neg (by simp; omega)]
    rw [<- h3]
    congr 1
    rw [<- Array.foldl_toList]
    simp
 | [], _ :: _, _, _, _, h, _, _ => h.elim
 | _ :: _, [], _, _, _, h, _, _ => h.elim
theorem run_mapM_ok {α β : Type} (f : α -> Sem β) (g : α -> β) (w : World) : ∀ l : List α, (∀ a ∈ l, (f a).run P w = .ok (g a) w) -> (l.mapM f).run P w = .ok (l.map g) w
 | [], _ => rfl
 | a :: l, h => by
  simp only [List.mapM_cons, Sem.run_bind, h a (by simp), Result.andThen_ok, run_mapM_ok f g w l fun b hb => h b (by simp [hb]), Sem.run_pure, List.map_cons]
theorem q5b {ρs : Operand -> PV} {ρ : Operand -> Value} (hρ : ∀ x, m.PR (ρs x) (ρ x)) : ∀ {ps : List (Nat × Operand)} {l : List (Nat × CV)}, partsOf ρs ps = some l ->
  All2 (fun (p : Nat × CV) (q : Nat × Value) => p.1 = q.1 /\ okCV p.2 = true /\ m.CR p.2 q.2) l (ps.map fun (i, x) => (i, ρ x))
 | [], l, h => by simp only [partsOf, Option.some.injEq] at h; subst h; trivial
 | (i, x) :: ps, l, h => by
  simp only [partsOf] at h
  split at h
  ·rename_i v l' hv hl
   cases hb : okCV v with
   | false => rw [hb] at h; cases h
   | true =>
    rw [hb] at h
    have h := Option.some.inj h
    subst h
    have := hρ x
    rw [hv] at this
    exact ⟨⟨rfl, hb, this⟩, q5b hρ hl⟩
  ·cases h
theorem qcC (H : HR m) (hχ : ∀ b, ¬ m.χ b) {t : TypeId} {l : List (Nat × CV)} {vs : List (Nat × Value)} (hps : All2 (fun (p : Nat × CV) (q : Nat × Value) => p.1 = q.1 /\ okCV p.2 = true /\ m.CR p.2 q.2) l vs) {v : PV} {u : Upd} {rd : List Nat}
  (hr : (qab (V := V) P t l).run F m.h = some ((v, u), rd)) : qE P (Instr.build t vs.toArray) m v u := by
 unfold qab at hr
 split at hr
 ·rename_i fs hfs
  obtain ⟨hall, hr⟩ := qo hr
  split at hr
  ·rename_i cs hz
   split at hr
   ·rename_i r hfill
    obtain ⟨rfl, rfl, _⟩ := yN hr
    obtain ⟨i, z, hi, hv, hp⟩ := q3G hz
    have hzr : m.PR (.c (.a cs)) z := by rw [<- hp]; exact q8u _ _ _ _ _
    obtain ⟨zs, rfl, hzs⟩ := hzr
    have hok : ∀ f ∈ fs.toList, okT P f.type = true := List.all_eq_true.1 hall
    obtain ⟨cells', h1, h2⟩ := qbq (P := P) (place := ((fs.map fun f => (f.offset, szB P f.type))[·]?)) (fs := fs) (R := m.SR) (fun i f hf _ => by simp [hf]) l vs
     (All2.mono (fun p q h => ⟨h.1, (CR.cells h.2.1 h.2.2).1⟩) hps) hzs hfill
    refine qE.same H hχ (val := .agg cells') ?_ ⟨_, rfl, h2⟩
    have hm : (fs.mapM fun f => do pure (f.offset, <- sizeOf f.type) : Sem (Array (Nat × Nat))).run P m.w = .ok (fs.map fun f => (f.offset, szB P f.type)) m.w := by
     rw [<- Array.toArray_toList (xs := fs), List.mapM_toArray, Sem.run_map, run_mapM_ok (P := P) _ (fun f => (f.offset, szB P f.type)) m.w fs.toList fun f hf => by
      simp only [Sem.run_bind, q6p (hok f hf), Result.andThen_ok, Sem.run_pure]]
     simp only [Result.andThen_ok]
     congr 1
     apply Array.ext'
     simp
    simp only [Instr.build, Sem.run_bind, q1K hi hv, Result.andThen_ok, run_underlying hfs, hm]
    rw [show Instr.fill _ (Value.agg zs).cells vs = some cells' from h1]
    rfl
   ·exact (Tr.q8 hr).elim
  ·exact (Tr.q8 hr).elim
 ·exact (Tr.q8 hr).elim
end
end Go.Den
namespace Go.Den
open Go

def OwE (w : World) (fz : Nat -> Prop) (t : Ty) (cs : List Value) (xs : List t.D) (φ : Nat -> Prop) : Prop :=
  cs.length = List.length xs * t.nc /\ ∃ ψ : Nat -> Nat -> Prop, (∀ i, i < List.length xs -> Ow w fz t ((cs.drop (i * t.nc)).take t.nc) (nth t xs i) (ψ i)) /\
    (∀ i j b, i < List.length xs -> j < List.length xs -> i ≠ j -> ψ i b -> ¬ ψ j b) /\ ∀ b, φ b ↔ ∃ i, i < List.length xs /\ ψ i b
theorem q7B {t : Ty} {xs ys : List t.D} {i : Nat} (h : i < List.length xs) : nth t (xs ++ ys) i = nth t xs i := by
  simp only [nth, List.getD_eq_getElem?_getD]; rw [List.getElem?_append_left h]
theorem q7a {t : Ty} {xs ys : List t.D} {i : Nat} : nth t (xs ++ ys) (List.length xs + i) = nth t ys i := by
  simp only [nth, List.getD_eq_getElem?_getD]; rw [List.getElem?_append_right (by omega)]; simp
theorem OwE.nil (w : World) (fz : Nat -> Prop) (t : Ty) : OwE w fz t [] [] fun _ => False :=
  ⟨by simp, (fun _ _ => False), (fun i h => by cases h), (fun i j b h => by cases h), fun b => ⟨fun h => h.elim, fun ⟨i, h, _⟩ => by cases h⟩⟩
theorem OwE.lt {w : World} {fz : Nat -> Prop} {t : Ty} {cs : List Value} {xs : List t.D} {φ : Nat -> Prop} (h : OwE w fz t cs xs φ) (b : Nat) (hb : φ b) : b < w.heap.size := by
  obtain ⟨_, ψ, h1, _, h2⟩ := h
  obtain ⟨i, hi, hb⟩ := (h2 b).1 hb
  exact (h1 i hi).lt b hb
theorem OwE.mono {w w' : World} {fz fz' : Nat -> Prop} {t : Ty} {cs : List Value} {xs : List t.D} {φ : Nat -> Prop} (h : OwE w fz t cs xs φ) (hw : ∀ b, φ b -> w'.heap[b]? = w.heap[b]?) (hf : ∀ b, fz b -> fz' b /\ w'.heap[b]? = w.heap[b]?) : OwE w' fz' t cs xs φ := by
  obtain ⟨hl, ψ, h1, hd, h2⟩ := h
  exact ⟨hl, ψ, fun i hi => (h1 i hi).mono (fun b hb => hw b ((h2 b).2 ⟨i, hi, hb⟩)) hf, hd, h2⟩
theorem jk {i n c : Nat} (h : i < n) : i * c + c <= n * c := by
  have := Nat.mul_le_mul_right c (show i + 1 <= n from h)
  rw [Nat.add_mul] at this; omega
theorem OwE.append {w : World} {fz : Nat -> Prop} {t : Ty} {cs ds : List Value} {xs ys : List t.D} {φ φ' : Nat -> Prop} (h : OwE w fz t cs xs φ) (k : OwE w fz t ds ys φ') (hd : ∀ b, φ b -> ¬ φ' b) : OwE w fz t (cs ++ ds) (xs ++ ys) fun b => φ b \/ φ' b := by
  obtain ⟨l1, ψ, h1, h2, h3⟩ := h
  obtain ⟨l2, ψ', k1, k2, k3⟩ := k
  have hlen : List.length (xs ++ ys) = List.length xs + List.length ys := List.length_append
  refine ⟨by rw [List.length_append, l1, l2, hlen, Nat.add_mul], fun i => if i < List.length xs then ψ i else ψ' (i - List.length xs), fun i hi => ?_, fun i j b hi hj hne hb hb' => ?_, fun b => ?_⟩
  · rw [hlen] at hi
    by_cases hlt : i < List.length xs
    · have hle := jk (c := t.nc) hlt
      simp only [if_pos hlt]
      rw [q7B hlt, List.drop_append_of_le_length (by omega), List.take_append_of_le_length (by simp; omega)]
      exact h1 i hlt
    · simp only [if_neg hlt]
      obtain ⟨k, rfl⟩ : ∃ k, i = List.length xs + k := ⟨i - List.length xs, by omega⟩
      have : (List.length xs + k) * t.nc = cs.length + k * t.nc := by rw [l1, Nat.add_mul]
      rw [q7a, this, List.drop_length_add_append]
      simp only [Nat.add_sub_cancel_left]
      exact k1 k (by omega)
  · rw [hlen] at hi hj
    by_cases h1' : i < List.length xs <;> by_cases h2' : j < List.length xs <;> simp only [h1', h2', if_true, if_false] at hb hb'
    · exact h2 i j b h1' h2' hne hb hb'
    · exact hd b ((h3 b).2 ⟨i, h1', hb⟩) ((k3 b).2 ⟨j - List.length xs, by omega, hb'⟩)
    · exact hd b ((h3 b).2 ⟨j, h2', hb'⟩) ((k3 b).2 ⟨i - List.length xs, by omega, hb⟩)
    · exact k2 _ _ b (by omega) (by omega) (by omega) hb hb'
  · show (φ b \/ φ' b) ↔ _
    rw [h3 b, k3 b, hlen]
    constructor
    · rintro (⟨i, hi, hb⟩ | ⟨i, hi, hb⟩)
      · exact ⟨i, by omega, by simpa only [if_pos hi] using hb⟩
      · exact ⟨List.length xs + i, by omega, by simp only [if_neg (show ¬ List.length xs + i < List.length xs by omega), Nat.add_sub_cancel_left]; exact hb⟩
    · rintro ⟨i, hi, hb⟩
      by_cases hlt : i < List.length xs
      · exact .inl ⟨i, hlt, by simpa only [if_pos hlt] using hb⟩
      · exact .inr ⟨i - List.length xs, by omega, by simpa only [if_neg hlt] using hb⟩
theorem OwE.one {w : World} {fz : Nat -> Prop} {t : Ty} {cs : List Value} {x : t.D} {φ : Nat -> Prop} (h : Ow w fz t cs x φ) : OwE w fz t cs [x] φ := by
  have hl := h.len
  refine ⟨by simp [hl], fun _ => φ, fun i hi => ?_, fun i j b hi hj hne => by simp at hi hj; omega, fun b => ⟨fun hb => ⟨0, by simp, hb⟩, fun ⟨_, _, hb⟩ => hb⟩⟩
  have : i = 0 := by simpa using hi
  subst this
  simp only [Nat.zero_mul, List.drop_zero]
  rw [List.take_of_length_le (by omega)]
  exact h
theorem OwE.parts {w : World} {fz : Nat -> Prop} {t : Ty} {cs : List Value} {xs : List t.D} {φ : Nat -> Prop} (h : OwE w fz t cs xs φ) :
    ∃ ψ : Nat -> Nat -> Prop, (∀ lo hi, lo <= hi -> hi <= List.length xs -> OwE w fz t ((cs.drop (lo * t.nc)).take ((hi - lo) * t.nc)) ((xs.drop lo).take (hi - lo)) fun b => ∃ i, lo <= i /\ i < hi /\ ψ i b) /\
      (∀ i j b, i < List.length xs -> j < List.length xs -> i ≠ j -> ψ i b -> ¬ ψ j b) /\ ∀ b, φ b ↔ ∃ i, i < List.length xs /\ ψ i b := by
  obtain ⟨hl, ψ, h1, h2, h3⟩ := h
  refine ⟨ψ, fun lo hi hlo hhi => ?_, h2, h3⟩
  have hlen : List.length ((xs.drop lo).take (hi - lo)) = hi - lo := by simp; omega
  have hmul : (hi - lo) * t.nc + lo * t.nc = hi * t.nc := by rw [<- Nat.add_mul]; congr 1; omega
  have hle := Nat.mul_le_mul_right t.nc hhi
  refine ⟨by rw [hlen, List.length_take, List.length_drop, hl]; omega, fun i => ψ (lo + i), fun i hi' => ?_, fun i j b hi' hj hne => ?_, fun b => ?_⟩
  · rw [hlen] at hi'
    have hm := jk (c := t.nc) hi'
    rw [q3l t xs lo _ i hi']
    have e : (((cs.drop (lo * t.nc)).take ((hi - lo) * t.nc)).drop (i * t.nc)).take t.nc = (cs.drop ((lo + i) * t.nc)).take t.nc := by
      rw [List.drop_take, List.take_take, List.drop_drop, Nat.add_mul]
      congr 1
      omega
    rw [e]
    exact h1 (lo + i) (by omega)
  · rw [hlen] at hi' hj
    exact h2 _ _ b (by omega) (by omega) (by omega)
  · rw [hlen]
    constructor
    · rintro ⟨i, k1, k2, k3⟩
      exact ⟨i - lo, by omega, by show ψ (lo + (i - lo)) b; rw [show lo + (i - lo) = i by omega]; exact k3⟩
    · rintro ⟨i, k1, k2⟩
      exact ⟨lo + i, by omega, by omega, k2⟩
theorem Ow.ones {w : World} {fz : Nat -> Prop} : ∀ {t : Ty} {cs : List Value} {x : t.D} {φ : Nat -> Prop}, Ow w fz t cs x φ -> ∀ c ∈ cs, c.oneCell' = true
  | .int _, _, _, _, h, c, hc => by rw [h.1] at hc; simp at hc; rw [hc]; rfl
  | .bool, _, _, _, h, c, hc => by rw [h.1] at hc; simp at hc; rw [hc]; rfl
  | .str, _, _, _, h, c, hc => by rw [h.1] at hc; simp at hc; rw [hc]; rfl
  | .one, _, _, _, h, c, hc => by rw [h.1] at hc; cases hc
  | .sl _, _, _, _, ⟨A, k, h, _⟩, c, hc => by rw [h] at hc; simp at hc; rw [hc]; rfl
  | .ls _, _, _, _, ⟨⟨A, k, h, _⟩, _⟩, c, hc => by rw [h] at hc; simp at hc; rw [hc]; rfl
  | .pr a b, _, _, _, ⟨c1, c2, _, _, e, h1, h2, _⟩, c, hc => by
    rw [e] at hc
    rcases List.mem_append.1 hc with h | h
    · exact h1.ones c h
    · exact h2.ones c h
theorem OwE.ones {w : World} {fz : Nat -> Prop} {t : Ty} {cs : List Value} {xs : List t.D} {φ : Nat -> Prop} (h : OwE w fz t cs xs φ) : ∀ c ∈ cs, c.oneCell' = true := by
  obtain ⟨hl, ψ, h1, _⟩ := h
  intro c hc
  obtain ⟨j, hj, rfl⟩ := List.mem_iff_getElem.1 hc
  rw [hl] at hj
  have hnc : 0 < t.nc := by
    rcases Nat.eq_zero_or_pos t.nc with h | h
    · rw [h] at hj; omega
    · exact h
  have hlt : j / t.nc < List.length xs := Nat.div_lt_of_lt_mul (by rw [Nat.mul_comm]; exact hj)
  have hdm := Nat.div_add_mod j t.nc
  rw [Nat.mul_comm] at hdm
  have hmod := Nat.mod_lt j hnc
  refine (h1 _ hlt).ones _ (List.mem_iff_getElem.2 ⟨j % t.nc, by simp; omega, ?_⟩)
  simp only [List.getElem_take, List.getElem_drop, hdm]
theorem Ow.toE {w : World} {fz : Nat -> Prop} {t : Ty} {A : Option Addr} {n c : Nat} {xs : List t.D} {φ : Nat -> Prop} (h : Ow w fz (.sl t) [.slice A n c] xs φ) :
    n = List.length xs /\ ∃ cs φ', OwE w fz t cs xs φ' /\ (∀ b, φ' b -> φ b) /\
      ((A = none /\ cs = [] /\ n = 0 /\ c = 0) \/ ∃ b off m e fr, A = some ⟨b, off, none⟩ /\ φ b /\ ¬ φ' b /\ w.heap[b]? = some (.cells m e fr) /\ MutR t m fr /\ off + c * t.nc <= m.size /\ n <= c /\ Cl w b off cs) := by
  obtain ⟨A', c', e, hc⟩ := h
  simp only [List.cons.injEq, and_true, Value.slice.injEq] at e
  obtain ⟨rfl, rfl, rfl⟩ := e
  rcases hc with ⟨rfl, h0, rfl, hφ⟩ | ⟨b, off, m, e, fr, ψ, rfl, hm, hmu, hs, hcl, hi, hd, hp, hφ⟩
  · have : xs = [] := List.length_eq_zero_iff.1 h0
    subst this
    exact ⟨rfl, [], fun _ => False, OwE.nil w fz t, fun _ h => h.elim, .inl ⟨rfl, rfl, rfl, rfl⟩⟩
  · refine ⟨rfl, (m.toList.drop off).take (List.length xs * t.nc), fun b' => ∃ i, i < List.length xs /\ ψ i b', ⟨?_, ψ, fun i hi' => ?_, hp, fun b => Iff.rfl⟩, fun b' hb => (hφ b').2 (.inr hb), .inr ⟨b, off, m, e, fr, rfl, (hφ b).2 (.inl rfl), ?_, hm, hmu, hs, hcl, ?_⟩⟩
    · have := Nat.mul_le_mul_right t.nc hcl
      simp; omega
    · obtain ⟨vs, hl, hat, ho⟩ := hi i hi'
      have hle := jk (c := t.nc) hi'
      have : (((m.toList.drop off).take (List.length xs * t.nc)).drop (i * t.nc)).take t.nc = vs := by
        obtain ⟨c1, e1, fr1, hh, hsz, hcell⟩ := hat
        rw [hm] at hh
        injection hh with hh; injection hh with hh _ _
        subst hh
        apply List.ext_getElem
        · simp; omega
        · intro j h1 h2
          have := hcell j h2
          simp only [List.getElem_take, List.getElem_drop]
          rw [Array.getElem_toList]
          rw [Array.getElem?_eq_some_iff] at this
          obtain ⟨_, this⟩ := this
          rw [<- this]
          congr 1
          omega
      rw [this]
      exact ho
    · rintro ⟨i, hi', hb⟩; exact hd i hi' hb
    · intro j hj
      simp at hj
      simp only [World.cell?, hm, List.getElem_take, List.getElem_drop, Array.getElem_toList]
      exact Array.getElem?_eq_getElem (by omega)
theorem OwE.toSl {w : World} {fz : Nat -> Prop} {t : Ty} {cs : List Value} {xs : List t.D} {φ' : Nat -> Prop} (h : OwE w fz t cs xs φ') {b off c : Nat} {m : Array Value} {e : TypeId} {fr : Nat × Nat} (hm : w.heap[b]? = some (.cells m e fr)) (hmu : MutR t m fr)
    (hs : off + c * t.nc <= m.size) (hl : List.length xs <= c) (hcl : ∀ j (hj : j < cs.length), m[off + j]? = some cs[j]) (hb : ¬ φ' b) : Ow w fz (.sl t) [.slice (some ⟨b, off, none⟩) (List.length xs) c] xs fun b' => b' = b \/ φ' b' := by
  obtain ⟨hlen, ψ, h1, hd, h2⟩ := h
  refine ⟨_, c, rfl, .inr ⟨b, off, m, e, fr, ψ, rfl, hm, hmu, hs, hl, fun i hi => ?_, fun i hi hbi => hb ((h2 b).2 ⟨i, hi, hbi⟩), hd, fun b' => or_congr Iff.rfl (h2 b')⟩⟩
  have hle := jk (c := t.nc) hi
  have hle2 := Nat.mul_le_mul_right t.nc hl
  refine ⟨(cs.drop (i * t.nc)).take t.nc, by simp; omega, ⟨m, e, fr, hm, by simp; omega, fun j hj => ?_⟩, h1 i hi⟩
  simp at hj
  have := hcl (i * t.nc + j) (by omega)
  rw [show off + i * t.nc + j = off + (i * t.nc + j) by omega, this]
  simp [List.getElem_take, List.getElem_drop]
theorem Ow.qcf {w : World} {fz fz' : Nat -> Prop} : ∀ {t : Ty} {cs : List Value} {x : t.D} {φ : Nat -> Prop}, t.flat = true -> Ow w fz t cs x φ -> Ow w fz' t cs x φ
  | .int _, _, _, _, _, h => h
  | .bool, _, _, _, _, h => h
  | .str, _, _, _, _, h => h
  | .one, _, _, _, _, h => h
  | .sl t, _, _, _, hf, _ => by cases hf
  | .ls t, _, _, _, hf, _ => by cases hf
  | .pr a b, cs, x, φ, hf, ⟨c1, c2, φ1, φ2, e, h1, h2, h3, h4⟩ => by
    simp only [Ty.flat, Bool.and_eq_true] at hf
    exact ⟨c1, c2, φ1, φ2, e, Ow.qcf hf.1 h1, Ow.qcf hf.2 h2, h3, h4⟩
theorem Rd.flat {w : World} {fz fz' : Nat -> Prop} {t : Ty} {cs : List Value} {x : t.D} (hf : t.flat = true) (h : Rd w fz t cs x) : Ow w fz' t cs x fun _ => False := Ow.qcf hf (Rd.still (Ty.q5f hf) h)
theorem Rd.toE {w : World} {fz fz' : Nat -> Prop} {t : Ty} {A : Option Addr} {n c : Nat} {xs : List t.D} (hf : ∀ vs x, Rd w fz t vs x -> Ow w fz' t vs x fun _ => False) (h : Rd w fz (.sl t) [.slice A n c] xs) :
    n = List.length xs /\ ∃ cs, OwE w fz' t cs xs (fun _ => False) /\ (n = 0 /\ cs = [] \/ ∃ b off, A = some ⟨b, off, none⟩ /\ Cl w b off cs) := by
  obtain ⟨A', c', e, hc, hp⟩ := h
  simp only [List.cons.injEq, and_true, Value.slice.injEq] at e
  obtain ⟨rfl, rfl, rfl⟩ := e
  refine ⟨rfl, ?_⟩
  by_cases h0 : List.length xs = 0
  · have : xs = [] := List.length_eq_zero_iff.1 h0
    subst this
    exact ⟨[], OwE.nil w fz' t, .inl ⟨rfl, rfl⟩⟩
  · obtain ⟨b, off, rfl, hb, hi⟩ := hp (by omega)
    have hcell : ∀ j, j < List.length xs * t.nc -> ∃ v, w.cell? ⟨b, off + j, none⟩ = some v := fun j hj => by
      have hnc : 0 < t.nc := by rcases Nat.eq_zero_or_pos t.nc with h | h; · rw [h] at hj; omega
                                · exact h
      obtain ⟨vs, hl, hat, _⟩ := hi (j / t.nc) (Nat.div_lt_of_lt_mul (by rw [Nat.mul_comm]; exact hj))
      have hj' : j % t.nc < vs.length := by rw [hl]; exact Nat.mod_lt _ hnc
      have := hat.cell hj'
      have hdm := Nat.div_add_mod j t.nc
      rw [Nat.mul_comm] at hdm
      rw [show off + j / t.nc * t.nc + j % t.nc = off + j by omega] at this
      exact ⟨_, this⟩
    refine ⟨(List.range (List.length xs * t.nc)).map fun j => (w.cell? ⟨b, off + j, none⟩).getD undef, ⟨by simp, fun _ _ => False, fun i hi' => ?_, fun _ _ _ _ _ _ h => h.elim, fun _ => ⟨fun h => h.elim, fun ⟨_, _, h⟩ => h⟩⟩, .inr ⟨b, off, rfl, fun j hj => ?_⟩⟩
    · obtain ⟨vs, hl, hat, hrd⟩ := hi i hi'
      have hle := jk (c := t.nc) hi'
      have : (((List.range (List.length xs * t.nc)).map fun j => (w.cell? ⟨b, off + j, none⟩).getD undef).drop (i * t.nc)).take t.nc = vs := by
        apply List.ext_getElem
        · simp; omega
        · intro j h1 h2
          have := hat.cell h2
          simp only [List.getElem_take, List.getElem_drop, List.getElem_map, List.getElem_range]
          rw [show off + (i * t.nc + j) = off + i * t.nc + j by omega, this]
          rfl
      rw [this]
      exact hf _ _ hrd
    · simp at hj
      obtain ⟨v, hv⟩ := hcell j hj
      simp [hv]
theorem qb7 {m : M} (H : HR m) {key : Nat} (hk : m.h key = .free) {t : Ty} {A : Option Addr} {n c : Nat} {xs : List t.D} {ψ : Nat -> Prop} (ho : Ow m.w m.fz (.sl t) [.slice A n c] xs ψ) (hψ : ∀ b, ψ b -> m.χ b) :
    ∃ m', HR m' /\ Ext m m' /\ m'.h = m.h.upd [(key, .live (.row t xs 0))] /\ m'.w = m.w /\ (∀ b, ¬ m'.χ b) /\ m'.SR (.own key) (.slice A n c) := by
  obtain ⟨_, _, m1, H1, E1, e1, w1, f1, χ1, s1⟩ := q3I (t := .sl t) (j := key) H ho hψ rfl (fun κ h1 h2 => by rw [show κ = key by omega]; exact hk)
  refine ⟨m1.drop (fun _ => False) m1.fz, q4K H1 (fun _ h => h.elim) (fun _ h => h) (fun _ h => .inl h), E1.trans (q2L (fun _ h => h.elim) fun _ h => h), e1, w1, fun _ h => h, ?_⟩
  exact (q2L (m := m1) (χ' := fun _ => False) (fun _ h => h.elim) fun _ h => h).sr s1.1
end Go.Den
namespace Go.Den
open Go

theorem qdL {v : Value} {k : IntKind} {n : Int} (h : svOf v = .int k n) : v = .int k n := by
 unfold svOf at h
 split at h <;> first | exact (by injection h with h1 h2; rw [h1, h2]) | cases h | skip
 rename_i f first cap
 cases hb : Nat.beq first.size 0 && Nat.beq cap.size 0 <;> rw [hb] at h <;> cases h
theorem qd4 {v : Value} {b : Bool} (h : svOf v = .bool b) : v = .bool b := by
 unfold svOf at h
 split at h <;> first | exact (by injection h with h1; rw [h1]) | cases h | skip
 rename_i f first cap
 cases hb : Nat.beq first.size 0 && Nat.beq cap.size 0 <;> rw [hb] at h <;> cases h
theorem qe0 {v : Value} {b : BA} (h : svOf v = .str b) : v = .string b := by
 unfold svOf at h
 split at h <;> first | exact (by injection h with h1; rw [h1]) | cases h | skip
 rename_i f first cap
 cases hb : Nat.beq first.size 0 && Nat.beq cap.size 0 <;> rw [hb] at h <;> cases h
theorem q8H {v : Value} (h : svOf v = .nils) : v = .slice none 0 0 := by
 unfold svOf at h
 split at h <;> first | rfl | cases h | skip
 rename_i f first cap
 cases hb : Nat.beq first.size 0 && Nat.beq cap.size 0 <;> rw [hb] at h <;> cases h
theorem q49 : ∀ {t : Ty} {vs : List Value} {rest : List SV}, isZero t (vs.map svOf) = some rest -> ∃ v1 v2, vs = v1 ++ v2 /\ rest = v2.map svOf /\ ∀ w fz, Ow w fz t v1 t.dflt fun _ => False
 | .int k, [], rest, h => by simp [isZero] at h
 | .int k, v :: vs, rest, h => by
  simp only [List.map_cons] at h
  cases hv : svOf v <;> rw [hv] at h <;> simp only [isZero, reduceCtorEq] at h
  rename_i l n
  cases hb : decide (k = l) && decide (n = 0) with
  | false => rw [hb] at h; cases h
  | true =>
   rw [hb] at h
   simp only [Bool.and_eq_true, decide_eq_true_eq] at hb
   have h := Option.some.inj h
   refine ⟨[v], vs, rfl, h.symm, fun w fz => ⟨?_, fun _ h => h⟩⟩
   rw [qdL hv, <- hb.1, hb.2]; rfl
 | .bool, [], rest, h => by simp [isZero] at h
 | .bool, v :: vs, rest, h => by
  simp only [List.map_cons] at h
  cases hv : svOf v <;> rw [hv] at h <;> simp only [isZero, reduceCtorEq] at h
  rename_i b
  cases b with
  | true => cases h
  | false =>
   have h := Option.some.inj h
   exact ⟨[v], vs, rfl, h.symm, fun w fz => ⟨by rw [qd4 hv]; rfl, fun _ h => h⟩⟩
 | .str, [], rest, h => by simp [isZero] at h
 | .str, v :: vs, rest, h => by
  simp only [List.map_cons] at h
  cases hv : svOf v <;> rw [hv] at h <;> simp only [isZero, reduceCtorEq] at h
  rename_i s
  cases hb : Nat.beq s.size 0 with
  | false => rw [hb] at h; cases h
  | true =>
   rw [hb] at h
   have h := Option.some.inj h
   have hs : s = eB := by
    have := Nat.eq_of_beq_eq_true hb
    cases s with | mk d =>
     have : d = #[] := Array.size_eq_zero_iff.1 this
     rw [this]; rfl
   exact ⟨[v], vs, rfl, h.symm, fun w fz => ⟨by rw [qe0 hv, hs]; rfl, fun _ h => h⟩⟩
 | .sl t, [], rest, h => by simp [isZero] at h
 | .sl t, v :: vs, rest, h => by
  simp only [List.map_cons] at h
  cases hv : svOf v <;> rw [hv] at h <;> simp only [isZero, reduceCtorEq] at h
  have h := Option.some.inj h
  exact ⟨[v], vs, rfl, h.symm, fun w fz => ⟨none, 0, by rw [q8H hv]; rfl, .inl ⟨rfl, rfl, rfl, fun _ h => h⟩⟩⟩
 | .ls t, [], rest, h => by simp [isZero] at h
 | .ls t, v :: vs, rest, h => by
  simp only [List.map_cons] at h
  cases hv : svOf v <;> rw [hv] at h <;> simp only [isZero, reduceCtorEq] at h
  have h := Option.some.inj h
  exact ⟨[v], vs, rfl, h.symm, fun w fz => ⟨⟨none, 0, by rw [q8H hv]; rfl, Nat.le_refl _, fun h => absurd h (by simp [Ty.dflt])⟩, fun _ h => h⟩⟩
 | .one, vs, rest, h => by
  have h : some (vs.map svOf) = some rest := by cases vs <;> exact h
  exact ⟨[], vs, rfl, (Option.some.inj h).symm, fun w fz => ⟨rfl, fun _ h => h⟩⟩
 | .pr a b, vs, rest, h => by
  have h : (isZero a (vs.map svOf)).bind (isZero b) = some rest := by cases vs <;> exact h
  obtain ⟨r1, h1, h2⟩ := Option.bind_eq_some_iff.1 h
  obtain ⟨v1, v2, rfl, rfl, k1⟩ := q49 h1
  obtain ⟨v3, v4, rfl, rfl, k2⟩ := q49 h2
  exact ⟨v1 ++ v3, v4, by simp, rfl, fun w fz => ⟨v1, v3, _, _, rfl, k1 w fz, k2 w fz, fun _ h => h.elim, fun _ => ⟨fun h => h.elim, fun h => h.elim id id⟩⟩⟩
theorem q4c {P : Program} {e : TypeId} {t : Ty} (h : q3N P e t = true) : ∃ i z, P.info? e = some i /\ i.zero = some z /\ ∀ w fz, Ow w fz t z.cells.toList t.dflt fun _ => False := by
 unfold q3N at h
 split at h
 ·rename_i cs hz
  obtain ⟨i, z, hi, hv, hp⟩ := q3G hz
  refine ⟨i, z, hi, hv, ?_⟩
  unfold pvOf at hp
  split at hp
  ·rename_i vs
   simp only [PV.c.injEq, CV.a.injEq] at hp
   rw [<- hp] at h
   split at h
   ·rename_i h0
    obtain ⟨v1, v2, e1, e2, k⟩ := q49 h0
    have : v2 = [] := List.map_eq_nil_iff.1 e2.symm
    rw [this, List.append_nil] at e1
    intro w fz
    show Ow w fz t vs.toList _ _
    rw [e1]; exact k w fz
   ·cases h
  ·cases hp
 ·rename_i c hz
  obtain ⟨i, z, hi, hv, hp⟩ := q3G hz
  refine ⟨i, z, hi, hv, ?_⟩
  unfold pvOf at hp
  split at hp
  ·cases hp
  ·simp only [PV.c.injEq, CV.s.injEq] at hp
   rw [<- hp] at h
   split at h
   ·rename_i h0
    obtain ⟨v1, v2, e1, e2, k⟩ := q49 (vs := [z]) h0
    have : v2 = [] := List.map_eq_nil_iff.1 e2.symm
    rw [this, List.append_nil] at e1
    intro w fz
    have k := k w fz
    rw [<- e1] at k
    by_cases h1 : z.oneCell' = true
    ·rw [cells_one h1]; exact k
    ·have : svOf z = .undef := by cases z <;> first | rfl | exact absurd rfl h1
     rw [this] at h0
     exfalso
     clear k hp h
     have : ∀ t : Ty, isZero t [SV.undef] = none \/ isZero t [SV.undef] = some [SV.undef] := by
      intro t
      induction t with
      | int k => exact .inl rfl
      | bool => exact .inl rfl
      | str => exact .inl rfl
      | sl t => exact .inl rfl
      | ls t => exact .inl rfl
      | one => exact .inr rfl
      | pr a b h1 h2 =>
       show (isZero a [SV.undef]).bind (isZero b) = none \/ (isZero a [SV.undef]).bind (isZero b) = _
       rcases h1 with h1 | h1 <;> rw [h1]
       ·exact .inl rfl
       ·exact h2
     rcases this t with h2 | h2 <;> rw [h2] at h0 <;> cases h0
   ·cases h
 ·cases h

def M.poke (m : M) (w' : World) : M := { m with w := w' }
theorem q9L {m : M} (H : HR m) {w' : World} (hA : Apart m.w w' m.χ) : Ext m (m.poke w') where
 used := fun _ h => ⟨h, rfl⟩
 fz := fun b hb => ⟨hb, hA.heap b fun h => H.fzχ b h hb⟩
 row := fun κ t xs v _ h => ⟨t, xs, v, h, .inr ⟨rfl, fun b off e => hA.heap b fun h' => H.loose κ b (q5J H h e) h'⟩⟩
 orig := fun _ h => .inl h
 gl := rfl
 keep := fun b _ hn => hA.heap b fun h => hn (.inl h)
 size := by show m.w.heap.size <= w'.heap.size; rw [hA.size]; exact Nat.le_refl _
 os := hA.os
 tape := hA.tape
 output := hA.output
 fzo := fun _ h => .inl h
theorem qf8 {m : M} (H : HR m) {w' : World} (hA : Apart m.w w' m.χ) : HR (m.poke w') where
 res := fun κ r hr => (H.res κ r hr).keep (q9L H hA) (by show (m.h κ).used; rw [show m.h κ = _ from hr]; trivial) fun b hb => hA.heap b (H.loose κ b hb)
 dead := H.dead
 disj := H.disj
 loose := H.loose
 fzφ := H.fzφ
 fzχ := H.fzχ
 ltf := fun b hb => by show b < w'.heap.size; rw [hA.size]; exact H.ltf b hb
 ltχ := fun b hb => by show b < w'.heap.size; rw [hA.size]; exact H.ltχ b hb
 glob := fun b o h => ⟨(hA.heap b fun h' => H.fzχ b h' (H.glob b o h).2).trans (H.glob b o h).1, (H.glob b o h).2⟩
section
variable {P : Program} {V : Nat -> Sig} {F : Tr.Fs V} {m : M}
def Part (P : Program) (m : M) (t : Ty) (v : Value) (xs : List t.D) (u : Upd) : Prop :=
 ∃ cs, ∃ φ η : Nat -> Prop, OwE m.w (fun b => m.fz b \/ η b) t cs xs φ /\ Ups m η u /\ (∀ b, φ b \/ η b -> ∃ κ ∈ keysOf u, m.φ κ b) /\ (∀ b, φ b -> ¬ η b) /\
  ∀ w' : World, w'.heap = m.w.heap -> (Builtin.lenOf v).run P w' = .ok (List.length xs) w' /\ (Builtin.firstCells t.nc (List.length xs) v).run P w' = .ok cs.toArray w'
theorem Cl.heap {w w' : World} (h : w'.heap = w.heap) {b off : Nat} {vs : List Value} (hc : Cl w b off vs) : Cl w' b off vs := fun j hj => by
 have := hc j hj
 unfold World.cell? at this ⊢
 rw [h]; exact this
theorem q5R (H : HR m) {t : Ty} {x : SV} {v : Value} {xs : List t.D} {u : Upd} {rd : List Nat} (hx : m.SR x v) (hr : (appT (V := V) t x).run F m.h = some ((xs, u), rd)) (hn : nodupB (keysOf u) = true) :
  ∃ A n c, ∃ ψ η : Nat -> Prop, v = .slice A n c /\ Ow m.w (fun b => m.fz b \/ η b) (.sl t) [.slice A n c] xs ψ /\ Ups m η u /\ (∀ b, ψ b \/ η b -> ∃ κ ∈ keysOf u, m.φ κ b) /\ ∀ b, ψ b -> ¬ η b := by
 obtain ⟨⟨ys, rest, u'⟩, r1, r2, h1, h2, _⟩ := Tr.bind_some hr
 obtain ⟨e, _⟩ := Tr.q9 h2
 obtain ⟨rfl, rfl⟩ := Prod.mk.inj e
 obtain ⟨v1, v2, ψ, η, e1, h3, h4, h5, h6, h7⟩ := q1t H (cs := [x]) (vs := [v]) ⟨hx, trivial⟩ h1 hn
 have hl := h3.len
 have hv : v1 = [v] := by
  match v1, hl, e1 with
  | [a], _, e1 => simp at e1; rw [e1.1]
 rw [hv] at h3
 have h3' := h3
 obtain ⟨A, c, e2, _⟩ := h3
 simp only [List.cons.injEq, and_true] at e2
 rw [e2] at h3'
 exact ⟨A, _, c, ψ, η, e2, h3', h5, h6, h7⟩
theorem Part.ofOw {t : Ty} {A : Option Addr} {n c : Nat} {xs : List t.D} {ψ η : Nat -> Prop} {u : Upd} (h : Ow m.w (fun b => m.fz b \/ η b) (.sl t) [.slice A n c] xs ψ) (hu : Ups m η u) (hψ : ∀ b, ψ b \/ η b -> ∃ κ ∈ keysOf u, m.φ κ b) (hd : ∀ b, ψ b -> ¬ η b) : Part P m t (.slice A n c) xs u := by
 obtain ⟨rfl, cs, φ', hE, hsub, h⟩ := h.toE
 refine ⟨cs, φ', η, hE, hu, fun b hb => hψ b (hb.imp (hsub b) id), fun b hb => hd b (hsub b hb), fun w' hw => ⟨rfl, ?_⟩⟩
 rcases h with ⟨rfl, rfl, h0, _⟩ | ⟨b, off, mm, e, fr, rfl, _, _, _, _, _, _, hcl⟩
 ·rfl
 ·have := run_loadCells (P := P) (hcl.heap hw) (List.length xs * t.nc) (by rw [hE.1]; exact Nat.le_refl _)
  rw [List.take_of_length_le (by rw [hE.1]; exact Nat.le_refl _)] at this
  exact this
theorem q29 (s : BA) : @List.length (Ty.int .u8).D (yg s) = s.size := by
 show List.length (s.data.toList.map fun b => (b.toNat : Int)) = s.size
 rw [List.length_map]
 exact Array.length_toList
theorem q7A (s : BA) {i : Nat} (h : i < s.data.size) : nth (.int .u8) (yg s) i = (s.data[i].toNat : Int) := by
 show (s.data.toList.map fun b => (b.toNat : Int)).getD i (0 : Int) = _
 rw [List.getD_eq_getElem?_getD, List.getElem?_map, Array.getElem?_toList, Array.getElem?_eq_getElem h]
 rfl
theorem qcp (H : HR m) {t : Ty} {x : SV} {v : Value} {xs : List t.D} {u : Upd} {rd : List Nat} (hx : m.SR x v) (hr : (qcK (V := V) t x).run F m.h = some ((xs, u), rd)) (hn : nodupB (keysOf u) = true) : Part P m t v xs u := by
 unfold qcK at hr
 split at hr
 ·rename_i s
  split at hr
  ·obtain ⟨e, _⟩ := Tr.q9 hr
   obtain ⟨rfl, rfl⟩ := Prod.mk.inj e
   rw [show v = .string s from hx]
   have hlen := q29 s
   refine ⟨(s.data.toList.map fun b => Value.int .u8 b.toNat), fun _ => False, fun _ => False, ⟨?_, fun _ _ => False, fun i hi => ?_, fun _ _ _ _ _ _ h => h.elim, fun _ => ⟨fun h => h.elim, fun ⟨_, _, h⟩ => h⟩⟩, (fun p hp => by cases hp), (fun b h => (h.elim id id).elim), (fun b h => h.elim), fun w' hw => ⟨?_, ?_⟩⟩
   ·rw [hlen, List.length_map, Array.length_toList]; simp [Ty.nc]
   ·rw [hlen] at hi
    have hi' : i < s.data.size := hi
    refine ⟨?_, fun _ h => h⟩
    simp only [Ty.nc, Nat.mul_one]
    apply List.ext_getElem
    ·simp; omega
    ·intro j h1 h2
     have : j = 0 := by simpa using h2
     subst this
     rw [q7A s hi']
     simp
   ·rw [hlen]; rfl
   ·rw [hlen]
    show Result.ok _ _ = _
    congr 1
    apply Array.ext'
    have : (s.extract 0 s.size).data = s.data := by
     have : s.extract 0 s.size = s := by simp
     rw [this]
    rw [this]
    simp
  ·exact (Tr.q8 hr).elim
 ·have key : ∀ {fz : Nat -> Prop}, (∀ vs y, Rd m.w fz t vs y -> Ow m.w m.fz t vs y fun _ => False) -> Rd m.w fz (.sl t) [v] xs -> u = [] -> Part P m t v xs u := fun {fz} hf hrd hu0 => by
   subst hu0
   have hrd' := hrd
   obtain ⟨A, c, e1, _⟩ := hrd
   simp only [List.cons.injEq, and_true] at e1
   rw [e1] at hrd' ⊢
   obtain ⟨_, cs, hE, hcl⟩ := hrd'.toE hf
   refine ⟨cs, fun _ => False, fun _ => False, hE.mono (fun _ h => h.elim) (fun b hb => ⟨.inl hb, rfl⟩), (fun p hp => by cases hp), (fun _ h => (h.elim id id).elim), (fun _ h => h.elim), fun w' hw => ⟨rfl, ?_⟩⟩
   rcases hcl with ⟨h0, rfl⟩ | ⟨b, off, rfl, hcl⟩
   ·cases A with
    | none => rfl
    | some a => simp only [Builtin.firstCells, h0, Nat.zero_mul]; rfl
   ·have := run_loadCells (P := P) (hcl.heap hw) (List.length xs * t.nc) (by rw [hE.1]; exact Nat.le_refl _)
    rw [List.take_of_length_le (by rw [hE.1]; exact Nat.le_refl _)] at this
    exact this
  have app : (appT (V := V) t x).run F m.h = some ((xs, u), rd) -> Part P m t v xs u := fun hr => by
   obtain ⟨A, n, c, ψ, η, rfl, ho, hu, hψ, hd⟩ := q5R H hx hr hn
   exact Part.ofOw ho hu hψ hd
  rcases Tr.yI hr with ⟨hf, hr⟩ | ⟨_, hr⟩
  ·obtain ⟨ys, r1, r2, h1, h2, _⟩ := Tr.bind_some hr
   obtain ⟨e, _⟩ := Tr.q9 h2
   obtain ⟨rfl, rfl⟩ := Prod.mk.inj e
   exact key (fun _ _ h => h.flat hf) (qa1 H hx h1) rfl
  ·cases x with
   | lst t' ys' =>
    obtain ⟨hs, hr⟩ := qo hr
    obtain ⟨ys, r1, r2, h1, h2, _⟩ := Tr.bind_some hr
    obtain ⟨e, _⟩ := Tr.q9 h2
    obtain ⟨rfl, rfl⟩ := Prod.mk.inj e
    obtain ⟨h1, _⟩ := Tr.yu h1
    obtain ⟨e1, rfl⟩ := yE h1
    exact key (fun _ _ h => Rd.still hs h) (Rd.cvt (t := .sl t') (u := .sl t) e1 hx) rfl
   | own κ =>
    obtain ⟨t', ys', r, hκ, _⟩ := q2M (f := fun u xs => bif t.still && u.beq t then (Tr.wH (q1J u t xs)).bind fun ys => .ret (ys, []) else appT t (.own κ)) (g' := fun u xs => bif t.still then (Tr.wH (zP u t xs)).bind fun ys => .ret (ys, []) else .no) (fun _ _ _ => rfl) (fun _ _ => rfl) (fun s hs hs' => by rcases s with _ | _ | (_ | _ | ⟨t, xs, v'⟩ | ⟨t, xs⟩) <;> first | rfl | exact absurd rfl (hs t xs v') | exact absurd rfl (hs' t xs)) hr
    rcases hκ with ⟨⟨ver, hκ⟩, h1⟩ | ⟨hκ, h1⟩
    rotate_left
    ·obtain ⟨hs, h1⟩ := qo h1
     obtain ⟨ys, r1, r2, h2, h3, _⟩ := Tr.bind_some h1
     obtain ⟨e, _⟩ := Tr.q9 h3
     obtain ⟨rfl, rfl⟩ := Prod.mk.inj e
     obtain ⟨h2, _⟩ := Tr.yu h2
     obtain ⟨e1, rfl⟩ := yE h2
     have hv : v = slV (m.ρ κ) := hx.2
     exact key (fun _ _ h => Rd.still hs h) (by rw [hv]; exact Rd.cvt (t := .sl t') (u := .sl t) e1 (H.res κ _ hκ).1) rfl
    rcases Tr.yI h1 with ⟨hs, h1⟩ | ⟨_, h1⟩
    ·simp only [Bool.and_eq_true] at hs
     obtain ⟨ys, r1, r2, h2, h3, _⟩ := Tr.bind_some h1
     obtain ⟨e, _⟩ := Tr.q9 h3
     obtain ⟨rfl, rfl⟩ := Prod.mk.inj e
     obtain ⟨h2, _⟩ := Tr.yu h2
     obtain ⟨rfl, rfl⟩ := q2q h2
     have hrow := (rowO H hκ).1
     rw [hx.2]
     obtain ⟨hlen, cs, φ', hE, _, hcl⟩ := hrow.toE
     have hE0 : OwE m.w m.fz t' cs xs fun _ => False := by
      obtain ⟨hl, ψ, g1, g2, g3⟩ := hE
      refine ⟨hl, fun _ _ => False, fun i hi => (g1 i hi).iff fun b => ⟨False.elim, fun h => ((g1 i hi).still hs.1 b h).elim⟩, fun _ _ _ _ _ _ h => h.elim, fun b => ⟨False.elim, fun ⟨_, _, h⟩ => h⟩⟩
     refine ⟨cs, fun _ => False, fun _ => False, hE0.mono (fun _ h => h.elim) (fun b hb => ⟨.inl hb, rfl⟩), (fun p hp => by cases hp), (fun _ h => (h.elim id id).elim), (fun _ h => h.elim), fun w' hw => ⟨by rw [<- hlen]; rfl, ?_⟩⟩
     rcases hcl with ⟨hA, rfl, h0, _⟩ | ⟨b, off, mm, e, fr, hA, _, _, _, _, _, _, hcl⟩
     ·rw [hA]; rfl
     ·rw [hA]
      have := run_loadCells (P := P) (hcl.heap hw) (List.length xs * t'.nc) (by rw [hE.1]; exact Nat.le_refl _)
      rw [List.take_of_length_le (by rw [hE.1]; exact Nat.le_refl _)] at this
      exact this
    ·obtain ⟨A, n, c, ψ, η, e, ho, hu, hψ, hd⟩ := q5R H hx h1 hn
     rw [e]
     exact Part.ofOw ho hu hψ hd
   | _ => exact app hr
end
end Go.Den
namespace Go.Den
open Go

section
variable {P : Program} {V : Nat -> Sig} {F : Tr.Fs V} {m : M}
theorem q6N {t : TypeId} (h : q35 P t = true) : (∃ e, P.underlying t = some (.slice e)) \/ P.underlying t = some .string := by
 obtain ⟨d, hd, hp⟩ := q3R h
 cases d <;> first | exact .inl ⟨_, hd⟩ | exact .inr hd | cases hp
theorem run_append_fits {st xt e ty : TypeId} {ts : List TypeId} {i : TypeInfo} (hst : P.underlying st = some (.slice e)) (hxt : q35 P xt = true) (hi : P.info? e = some i) {A : Option Addr} {n c k : Nat} {xv : Value} {news : Array Value} {w : World}
  (hl : (Builtin.lenOf xv).run P w = .ok k w) (hn : (Builtin.firstCells i.size k xv).run P w = .ok news w) (hfit : n + k <= c) :
  (Builtin.append_ (st :: xt :: ts).toArray ty #[.slice A n c, xv]).run P w = match A with
   | some a => ((storeCells (a.add (n * i.size)) news.toList).run P w).andThen fun _ w' => .ok (.slice (some a) (n + k) c) w'
   | none => .ok (.slice none (n + k) c) w := by
 rcases q6N hxt with ⟨d, hd⟩ | hd <;> cases A <;> simp [Builtin.append_, run_underlying hst, run_underlying hd, sizeOf, typeInfo, hi, hl, hn, hfit]
theorem q1N {st xt e ty : TypeId} {ts : List TypeId} {i : TypeInfo} {z : Value} (hst : P.underlying st = some (.slice e)) (hxt : q35 P xt = true) (hi : P.info? e = some i) (hz : i.zero = some z) {A : Option Addr} {n c k : Nat} {xv : Value} {olds news : Array Value} {w : World}
  (ho : ∀ w', w'.heap = w.heap -> (Builtin.firstCells i.size n (.slice A n c)).run P w' = .ok olds w') (hl : ∀ w', w'.heap = w.heap -> (Builtin.lenOf xv).run P w' = .ok k w' /\ (Builtin.firstCells i.size k xv).run P w' = .ok news w')
  (hfit : c < n + k) (hb : (n + k) * i.bytes <= 140737488355328) (h1 : 1 <= i.bytes) :
  ∃ cap, n + k <= cap /\ (Builtin.append_ (st :: xt :: ts).toArray ty #[.slice A n c, xv]).run P w = .ok (.slice (some ⟨w.heap.size, 0, none⟩) (n + k) cap) (w.drew.alloc (.cells (olds ++ news ++ Builtin.zeroCells z.cells (cap - (n + k))) e)) := by
 refine ⟨grownCap w (n + k) c e, grownCap_ge _ _ _ _, ?_⟩
 have hl0 := hl w rfl
 have hl1 := hl w.drew rfl
 have ho1 := ho w.drew rfl
 have hn : ¬ (n + k <= c) := by omega
 have hle : n + k <= (n + k) * i.bytes := Nat.le_mul_of_pos_right _ h1
 have h63 : ¬ (9223372036854775807 < ((n : Int) + (k : Int))) := by omega
 have h48 := growslice_fits hfit hb
 have h48' : ¬ (281474976710656 < Builtin.nextslicecap (n + k) c * i.bytes) := by omega
 rcases q6N hxt with ⟨d, hd⟩ | hd <;> simp [Builtin.append_, run_underlying hst, run_underlying hd, sizeOf, typeInfo, zeroValue, hi, hz, hl0.1, hn, h63, h48', Question.forced, ho1, hl1.2, newRow, grownCap]
theorem jR (z : Array Value) (n : Nat) : (Builtin.zeroCells z n).size = n * z.size := by simp [Builtin.zeroCells]
theorem qaM (H : HR m) (hχ : ∀ b, ¬ m.χ b) {key : Nat} {st xt ty : TypeId} {ts : List TypeId} {s x : SV} {sv xv : Value} {v : PV} {u : Upd} {rd : List Nat} (hs : m.SR s sv) (hx : m.SR x xv)
  (hr : (q8j (V := V) P key st xt s x).run F m.h = some ((v, u), rd)) : qE P (Builtin.append_ (st :: xt :: ts).toArray ty #[sv, xv]) m v u := by
 unfold q8j at hr
 split at hr
 ·exact (Tr.q8 hr).elim
 rename_i e he
 split at hr
 ·exact (Tr.q8 hr).elim
 rename_i t0 ht
 have hst := q1e he
 obtain ⟨t, r01, r02, _, hr, _⟩ := Tr.bind_some hr
 have ⟨hk, hr'⟩ := qo hr
 clear hr
 simp only [Bool.and_eq_true] at hk
 obtain ⟨hsz, hzero, hby, hni⟩ := hk
 have hsz := Nat.eq_of_beq_eq_true hsz
 have hby := Nat.le_of_ble_eq_true hby
 obtain ⟨i, z, hi, hz, hzo⟩ := q4c hzero
 have hisz : i.size = t.nc := by rw [<- hsz]; simp [szB, hi]
 have hiby : i.bytes = byB P e := by simp [byB, hi]
 obtain ⟨⟨xs, u1⟩, r1, r2, h1, h2, _⟩ := Tr.bind_some hr'
 obtain ⟨⟨ys, u2⟩, r3, r4, h3, h4, _⟩ := Tr.bind_some h2
 obtain ⟨hnd, h4⟩ := qo h4
 obtain ⟨hkey, r5, h5, _⟩ := Tr.q0t h4
 obtain ⟨hlim, h5⟩ := Tr.wV h5
 obtain ⟨rfl, rfl, _⟩ := yN h5
 simp only [q5O, decide_eq_true_eq] at hlim
 obtain ⟨hn1, hn2, hn3⟩ := q1L hnd
 obtain ⟨A, n, c, ψ, ηx, rfl, ho, hu1, hψ, hdx⟩ := q5R H hs h1 hn1
 obtain ⟨cy, φy, ηy, hEy, hu2, hφy, hdy, hruny⟩ := qcp (P := P) H hx h3 hn2
 have hcross : ∀ b, ψ b \/ ηx b -> ¬ (φy b \/ ηy b) := fun b hb hb' => by
  obtain ⟨κ, hκ, h⟩ := hψ b hb
  obtain ⟨κ', hκ', h'⟩ := hφy b hb'
  exact H.disj κ κ' b (fun e => hn3 κ hκ (e ▸ hκ')) h h'
 have ho := ho.more (fz' := fun b => m.fz b \/ (ηx b \/ ηy b)) fun b h => h.imp id .inl
 have hEy := hEy.mono (fz' := fun b => m.fz b \/ (ηx b \/ ηy b)) (fun _ _ => rfl) fun b h => ⟨h.imp id .inr, rfl⟩
 obtain ⟨hnx, cx, φx, hEx, hsub, halt⟩ := ho.toE
 subst hnx
 have hups : Ups m (fun b => ηx b \/ ηy b) (u1 ++ u2) := hu1.append hu2
 obtain ⟨m1, H1, E1, hw1, hh1, hρ1, hf1, hχ1, hφκ1, _, hks, _⟩ := q4Z H hups (by rw [qj]; exact hnd) fun b hb => by
  rcases hb with hb | hb
  ·obtain ⟨κ, hκ, h⟩ := hψ b (.inr hb); exact ⟨κ, by rw [qj]; exact List.mem_append_left _ hκ, h⟩
  ·obtain ⟨κ, hκ, h⟩ := hφy b (.inr hb); exact ⟨κ, by rw [qj]; exact List.mem_append_right _ hκ, h⟩
 have hkey1 : m1.h key = .free := by
  rw [(hφκ1 key fun hκ => by obtain ⟨r, hr⟩ := hks key hκ; rw [hkey] at hr; cases hr).2]; exact hkey
 have hφx1 : ∀ b, ψ b -> m1.χ b := fun b hb => (hχ1 b).2 ⟨.inr (by
  obtain ⟨κ, hκ, h⟩ := hψ b (.inl hb); exact ⟨κ, by rw [qj]; exact List.mem_append_left _ hκ, h⟩), fun h => h.elim (hdx b hb) fun h => hcross b (.inl hb) (.inr h)⟩
 have hφy1 : ∀ b, φy b -> m1.χ b := fun b hb => (hχ1 b).2 ⟨.inr (by
  obtain ⟨κ, hκ, h⟩ := hφy b (.inl hb); exact ⟨κ, by rw [qj]; exact List.mem_append_right _ hκ, h⟩), fun h => h.elim (fun h => hcross b (.inr h) (.inl hb)) (hdy b hb)⟩
 have hdis : ∀ b, ψ b -> ¬ φy b := fun b hb hb' => hcross b (.inl hb) (.inl hb')
 have hf1' : ∀ b, (m.fz b \/ (ηx b \/ ηy b)) ↔ m1.fz b := fun b => by rw [hf1]
 have hlen : List.length (xs ++ ys) = List.length xs + List.length ys := List.length_append
 have fin : ∀ (m2 : M) (val : Value) A' c' ψ', HR m2 -> Ext m1 m2 -> m2.h = m1.h -> val = .slice A' (List.length (xs ++ ys)) c' -> Ow m2.w m2.fz (.sl t) [.slice A' (List.length (xs ++ ys)) c'] (xs ++ ys) ψ' -> (∀ b, ψ' b -> m2.χ b) ->
   (Builtin.append_ (st :: xt :: ts).toArray ty #[.slice A (List.length xs) c, xv]).run P m.w = .ok val m2.w -> qE P (Builtin.append_ (st :: xt :: ts).toArray ty #[.slice A (List.length xs) c, xv]) m (.sv (.own key)) (u1 ++ u2 ++ [(key, .live (.row t (xs ++ ys) 0))]) := by
  intro m2 val A' c' ψ' H2 E2 hh2 hval ho2 hψ2 hrun
  obtain ⟨m3, H3, E3, hh3, hw3, hχ3, hsr⟩ := qb7 H2 (key := key) (by rw [hh2]; exact hkey1) ho2 hψ2
  refine ⟨val, m3, by rw [hw3]; exact hrun, by rw [hval]; exact hsr, H3, E1.trans (E2.trans E3), ?_, hχ3⟩
  rw [hh3, hh2, hh1, <- Heap.zN]
 have hry := hruny m.w rfl
 rw [<- hisz] at hruny
 by_cases hfit : List.length xs + List.length ys <= c
 ·have hrun := run_append_fits (ty := ty) (ts := ts) hst hni hi (A := A) (hruny m.w rfl).1 (hruny m.w rfl).2 hfit
  rcases halt with ⟨rfl, rfl, h0, rfl⟩ | ⟨b, off, mm, e', fr, rfl, hψb, hφb, hm, hmu, hcs, hnc, hcl⟩
  ·have hx0 : xs = [] := List.length_eq_zero_iff.1 h0
   have hy0 : ys = [] := List.length_eq_zero_iff.1 (by omega)
   subst hx0; subst hy0
   exact fin m1 _ none 0 (fun _ => False) H1 (Ext.refl m1) rfl rfl ⟨none, 0, rfl, .inl ⟨rfl, rfl, rfl, fun _ h => h⟩⟩ (fun _ h => h.elim) (by rw [hw1]; exact hrun)
  ·have hle := Nat.mul_le_mul_right t.nc hfit
   have hb1 : m1.χ b := hφx1 b hψb
   obtain ⟨w', hrs, hA, m', hm', hms, hcell⟩ := jy (P := P) (b := b) (off := off + List.length xs * t.nc) cy 0 hm hmu.1 (by rw [hEy.1]; rw [Nat.add_mul] at hle; omega) hEy.ones
   have hA1 : Apart m1.w w' m1.χ := by rw [hw1]; exact hA.mono fun b' e => by rw [show b' = b from e]; exact hb1
   have hnb : ∀ b', φx b' \/ φy b' -> b' ≠ b := fun b' h e => by
    subst e
    rcases h with h | h
    ·exact hφb h
    ·exact hdis b' hψb h
   have hE2 : OwE w' m1.fz t (cx ++ cy) (xs ++ ys) fun b => φx b \/ φy b := (hEx.append hEy fun b' h1 h2 => hdis b' (hsub b' h1) h2).mono (fun b' hb' => hA.heap b' (hnb b' hb')) fun b' hb' => ⟨(hf1' b').1 hb', hA.heap b' fun e => by
    rw [show b' = b from e] at hb'; exact H1.fzχ b hb1 ((hf1' b).1 hb')⟩
   have hmu' : MutR t m' fr := hmu.same hms
   have ho2 := hE2.toSl (b := b) (off := off) (c := c) hm' hmu' (by rw [hms]; exact hcs) (by rw [hlen]; exact hfit) (fun j hj => by
    rw [hcell]
    rw [List.length_append, hEx.1] at hj
    have hc0 : m.w.heap[b]? = some (.cells mm e' fr) := hm
    by_cases hjx : j < cx.length
    ·rw [if_neg (by rw [hEx.1] at hjx; omega)]
     have : mm[off + j]? = some cx[j] := by simpa [World.cell?, hm] using hcl j hjx
     rw [this, List.getElem_append_left hjx]
    ·rw [hEx.1] at hjx
     rw [if_pos (by omega), List.getElem_append_right (by rw [hEx.1]; omega)]
     rw [show off + j - (off + List.length xs * t.nc + 0) = j - cx.length by rw [hEx.1]; omega]
     exact List.getElem?_eq_getElem _) (fun h => hnb b h rfl)
   refine fin (m1.poke w') _ _ _ _ (qf8 H1 hA1) (q9L H1 hA1) rfl rfl ho2 (fun b' h => ?_) ?_
   ·rcases h with rfl | h | h
    ·exact hb1
    ·exact hφx1 b' (hsub b' h)
    ·exact hφy1 b' h
   ·rw [hrun]
    simp only [addr_add, hisz]
    rw [hrs, hlen]
    rfl
 ·have hsx : ∃ dx, ∃ ρx : Nat -> Prop, OwE m.w (fun b => m.fz b \/ (ηx b \/ ηy b)) t dx xs ρx /\ (∀ b, ρx b -> ψ b) /\
    ∀ w' : World, w'.heap = m.w.heap -> (Builtin.lenOf (.slice A (List.length xs) c)).run P w' = .ok (List.length xs) w' /\ (Builtin.firstCells t.nc (List.length xs) (.slice A (List.length xs) c)).run P w' = .ok dx.toArray w' := by
   refine ⟨cx, φx, hEx, hsub, fun w' hw => ⟨rfl, ?_⟩⟩
   rcases halt with ⟨rfl, rfl, h0, _⟩ | ⟨b, off, mm, e, fr, rfl, _, _, _, _, _, _, hcl⟩
   ·rfl
   ·have := run_loadCells (P := P) (hcl.heap hw) (List.length xs * t.nc) (by rw [hEx.1]; exact Nat.le_refl _)
    rw [List.take_of_length_le (by rw [hEx.1]; exact Nat.le_refl _)] at this
    exact this
  obtain ⟨dx, ρx, hEd, hρx, hrunx⟩ := hsx
  rw [<- hisz] at hrunx
  obtain ⟨cap, hcap, hrun⟩ := q1N (ty := ty) (ts := ts) (z := z) hst hni hi hz (A := A) (n := List.length xs) (c := c) (olds := dx.toArray) (w := m.w) (fun w' hw => (hrunx w' hw).2) hruny (by omega) (by rw [hiby]; exact hlim) (by rw [hiby]; exact hby)
  have hρ1' : ∀ b, ρx b -> m1.χ b := fun b hb => hφx1 b (hρx b hb)
  have hdis' : ∀ b, ρx b -> ¬ φy b := fun b hb => hdis b (hρx b hb)
  let o : Obj := .cells (dx.toArray ++ cy.toArray ++ Builtin.zeroCells z.cells (cap - (List.length xs + List.length ys))) e
  have H2 := q8z (q6k H1) o
  have E2 : Ext m1 (m1.draw.push o) := (q40 m1).trans (q5j (q6k H1) o)
  have hw2 : (m1.draw.push o).w = m.w.drew.alloc o := by
   show ({ m1.w with drawn := m1.w.drawn + 1, heap := m1.w.heap.push o } : World) = _
   rw [hw1]; rfl
  have hold : ∀ b, b < m.w.heap.size -> (m.w.drew.alloc o).heap[b]? = m.w.heap[b]? := fun b hb => q0H (w := m.w.drew) hb
  have hnew : (m.w.drew.alloc o).heap[m.w.heap.size]? = some o := Array.getElem?_push_size
  have hlt : ∀ b, ρx b \/ φy b -> b < m.w.heap.size := fun b h => h.elim (hEd.lt b) (hEy.lt b)
  have hE2 : OwE (m.w.drew.alloc o) m1.fz t (dx ++ cy) (xs ++ ys) fun b => ρx b \/ φy b := (hEd.append hEy hdis').mono (fun b' hb' => hold b' (hlt b' hb')) fun b' hb' => ⟨(hf1' b').1 hb', hold b' (by have := H1.ltf b' ((hf1' b').1 hb'); rw [hw1] at this; exact this)⟩
  have hzs : z.cells.size = t.nc := by
   have := (hzo m.w m.fz).len
   simpa using this
  have ho2 := hE2.toSl (b := m.w.heap.size) (off := 0) (c := cap) hnew (MutR.zero _ _) (by
   simp only [Array.size_append, List.size_toArray, jR, hzs, hEd.1, hEy.1]
   rw [Nat.zero_add, <- Nat.add_mul, <- Nat.add_mul]
   exact Nat.mul_le_mul_right _ (by omega)) (by rw [hlen]; exact hcap) (fun j hj => by
    rw [List.length_append] at hj
    rw [Nat.zero_add, Array.getElem?_append_left (by simp; omega), List.append_toArray]
    rw [List.getElem?_toArray]
    exact List.getElem?_eq_getElem _) (fun h => by have := hlt _ h; omega)
  refine fin (m1.draw.push o) _ _ _ _ H2 E2 rfl rfl (by rw [hw2]; exact ho2) (fun b' h => ?_) ?_
  ·rcases h with rfl | h | h
   ·exact .inr (by show _ = m1.w.heap.size; rw [hw1])
   ·exact .inl (hρ1' b' h)
   ·exact .inl (hφy1 b' h)
  ·rw [hrun, hw2, hlen]
end
end Go.Den
namespace Go.Den
open Go

section
variable {P : Program} {V : Nat -> Sig} {F : Tr.Fs V} {m : M}
theorem q66 (H : HR m) {key : Nat} (hkey : m.h key = .free) {t : Ty} {cs : List Value} {xs : List t.D} {φ : Nat -> Prop} (hE : OwE m.w m.fz t cs xs φ) (hφ : ∀ b, φ b -> m.χ b) {M : Array Value} {e : TypeId} {fr : Nat × Nat} {cap : Nat}
  (hM : ∀ j (hj : j < cs.length), M[j]? = some cs[j]) (hsz : cap * t.nc <= M.size) (hlen : List.length xs <= cap) (hmu : MutR t M fr) :
  ∃ m', HR m' /\ Ext m m' /\ m'.h = m.h.upd [(key, .live (.row t xs 0))] /\ m'.w = m.w.alloc (.cells M e fr) /\ (∀ b, ¬ m'.χ b) /\ m'.SR (.own key) (.slice (some ⟨m.w.heap.size, 0, none⟩) (List.length xs) cap) := by
 let o : Obj := .cells M e fr
 have H2 := q8z H o
 have E2 := q5j H o
 have hold : ∀ b, b < m.w.heap.size -> (m.w.alloc o).heap[b]? = m.w.heap[b]? := fun b hb => q0H hb
 have hnew : (m.w.alloc o).heap[m.w.heap.size]? = some o := Array.getElem?_push_size
 have hE2 : OwE (m.w.alloc o) m.fz t cs xs φ := hE.mono (fun b' hb' => hold b' (hE.lt b' hb')) fun b' hb' => ⟨hb', hold b' (H.ltf b' hb')⟩
 have ho2 := hE2.toSl (b := m.w.heap.size) (off := 0) (c := cap) hnew hmu (by omega) hlen (fun j hj => by rw [Nat.zero_add]; exact hM j hj) (fun h => by have := hE.lt _ h; omega)
 obtain ⟨m3, H3, E3, hh3, hw3, hχ3, hsr⟩ := qb7 (m := m.push o) H2 (key := key) hkey ho2 fun b h => by
  rcases h with rfl | h
  ·exact .inr rfl
  ·exact .inl (hφ b h)
 exact ⟨m3, H3, E2.trans E3, hh3, hw3, hχ3, hsr⟩
theorem qaF {t : Ty} {z : Array Value} (hz : ∀ w fz, Ow w fz t z.toList t.dflt fun _ => False) (n : Nat) (w : World) (fz : Nat -> Prop) : OwE w fz t (madeCells z (n * t.nc)).toList (List.replicate n t.dflt) fun _ => False := by
 have hzs : z.size = t.nc := by have := (hz w fz).len; simpa using this
 refine ⟨by simp [madeCells], fun _ _ => False, fun i hi => ?_, fun _ _ _ _ _ _ h => h.elim, fun _ => ⟨fun h => h.elim, fun ⟨_, _, h⟩ => h⟩⟩
 have hi : i < n := by simpa using hi
 have hle := jk (c := t.nc) hi
 have e1 : ((madeCells z (n * t.nc)).toList.drop (i * t.nc)).take t.nc = z.toList := by
  apply List.ext_getElem
  ·simp [madeCells]; omega
  ·intro j h1 h2
   have hj : j < t.nc := by simp at h2; omega
   simp only [madeCells, List.getElem_take, List.getElem_drop, Array.getElem_toList, Array.getElem_map, Array.getElem_range, hzs]
   have : (i * t.nc + j) % t.nc = j := by rw [Nat.mul_comm, Nat.mul_add_mod]; exact Nat.mod_eq_of_lt hj
   rw [this, getElem!_pos z j (by omega)]
 have e2 : nth t (List.replicate n t.dflt) i = t.dflt := by simp [nth, List.getD_eq_getElem?_getD, List.getElem?_replicate, hi]
 rw [e1, e2]
 exact hz w fz
theorem q8s (H : HR m) (hχ : ∀ b, ¬ m.χ b) {key : Nat} {st : TypeId} {n c : Int} {k k' : IntKind} {v : PV} {u : Upd} {rd : List Nat} (hr : (q4W (V := V) P key st n c).run F m.h = some ((v, u), rd)) :
  qE P (Instr.makeSlice st (.int k n) (.int k' c)) m v u := by
 unfold q4W at hr
 split at hr
 ·exact (Tr.q8 hr).elim
 rename_i e he
 split at hr
 ·exact (Tr.q8 hr).elim
 rename_i t ht
 have hst := q1e he
 have ⟨hk, hr'⟩ := qo hr
 clear hr
 simp only [Bool.and_eq_true] at hk
 obtain ⟨hsz, hzero, hby⟩ := hk
 have hsz := Nat.eq_of_beq_eq_true hsz
 have hby := Nat.le_of_ble_eq_true hby
 obtain ⟨i, z, hi, hz, hzo⟩ := q4c hzero
 have hisz : i.size = t.nc := by rw [<- hsz]; simp [szB, hi]
 have hiby : i.bytes = byB P e := by simp [byB, hi]
 obtain ⟨hkey, r5, h5, _⟩ := Tr.q0t hr'
 obtain ⟨hg, h5⟩ := Tr.wV h5
 obtain ⟨rfl, rfl, _⟩ := yN h5
 simp only [Bool.and_eq_true, decide_eq_true_eq, q5O] at hg
 obtain ⟨h0, hnc, hlim⟩ := hg
 have hc : c.toNat <= c.toNat * byB P e := Nat.le_mul_of_pos_right _ hby
 have hbi : (i.bytes : Int) * c <= 281474976710656 := by
  have : ((c.toNat * byB P e : Nat) : Int) <= 140737488355328 := Int.ofNat_le.2 hlim
  rw [Int.natCast_mul, Int.toNat_of_nonneg (by omega), Int.mul_comm, <- hiby] at this
  omega
 have hrun := run_make (P := P) m.w st e i z hst hi hz k k' n c h0 hnc hbi (by omega)
 have hrl : List.length (List.replicate n.toNat t.dflt) = n.toNat := by simp
 obtain ⟨m3, H3, E3, hh3, hw3, hχ3, hsr⟩ := q66 H hkey (qaF hzo n.toNat m.w m.fz) (fun b h => h.elim) (M := madeCells z.cells (c.toNat * t.nc)) (e := e) (fr := (0, 0)) (cap := c.toNat) (fun j hj => by
   have hj' : j < n.toNat * t.nc := by rw [Array.length_toList, size_madeCells] at hj; exact hj
   have hle : n.toNat * t.nc <= c.toNat * t.nc := Nat.mul_le_mul_right _ (by omega)
   rw [Array.getElem?_eq_getElem (by rw [size_madeCells]; omega)]
   simp only [madeCells, Array.getElem_toList, Array.getElem_map, Array.getElem_range]) (by rw [size_madeCells]; exact Nat.le_refl _) (by rw [hrl]; omega) (MutR.zero _ _)
 rw [hrl] at hsr
 rw [hisz] at hrun
 exact ⟨_, m3, by rw [hw3]; exact hrun, hsr, H3, E3, hh3, hχ3⟩
theorem qdS (H : HR m) {t : Ty} {c : CV} {v : Value} {x : t.D} {u : Upd} {rd : List Nat} (hok : okCV c = true) (hc : m.CR c v) (hr : (partT (V := V) t c).run F m.h = some ((x, u), rd)) (hn : nodupB (keysOf u) = true) :
  ∃ φ η : Nat -> Prop, Ow m.w (fun b => m.fz b \/ η b) t v.cells.toList x φ /\ Ups m η u /\ (∀ b, φ b \/ η b -> ∃ κ ∈ keysOf u, m.φ κ b) /\ ∀ b, φ b -> ¬ η b := by
 obtain ⟨⟨y, rest, u'⟩, r1, r2, h1, h2, _⟩ := Tr.bind_some hr
 match rest, h2 with
 | [], h2 =>
  obtain ⟨e, _⟩ := Tr.q9 h2
  obtain ⟨rfl, rfl⟩ := Prod.mk.inj e
  obtain ⟨v1, v2, ψ, η, e1, h3, h4, h5, h6, h7⟩ := q1t H (CR.cells hok hc).1 h1 hn
  have : v2 = [] := by match v2, h4 with | [], _ => rfl
  rw [this, List.append_nil] at e1
  rw [<- e1] at h3
  exact ⟨ψ, η, h3, h5, h6, h7⟩
 | _ :: _, h2 => exact (Tr.q8 h2).elim
theorem OwE.cons {w : World} {fz : Nat -> Prop} {t : Ty} {cs ds : List Value} {x : t.D} {ys : List t.D} {φ φ' : Nat -> Prop} (h : Ow w fz t cs x φ) (k : OwE w fz t ds ys φ') (hd : ∀ b, φ b -> ¬ φ' b) : OwE w fz t (cs ++ ds) (x :: ys) fun b => φ b \/ φ' b :=
 (OwE.one h).append k hd
theorem q8S (H : HR m) {t : Ty} : ∀ {ps : List (Nat × CV)} {vs : List (Nat × Value)} {i : Nat} {xs : List t.D} {u : Upd} {rd : List Nat}, All2 (fun (p : Nat × CV) (q : Nat × Value) => p.1 = q.1 /\ okCV p.2 = true /\ m.CR p.2 q.2) ps vs ->
  (qak (V := V) t ps i).run F m.h = some ((xs, u), rd) -> nodupB (keysOf u) = true ->
  ∃ cs, ∃ φ η : Nat -> Prop, OwE m.w (fun b => m.fz b \/ η b) t cs xs φ /\ Ups m η u /\ (∀ b, φ b \/ η b -> ∃ κ ∈ keysOf u, m.φ κ b) /\ (∀ b, φ b -> ¬ η b) /\ List.length xs = ps.length /\
   ∀ cells : Array Value, (i + ps.length) * t.nc <= cells.size -> ∃ cells' : Array Value, Instr.fill (fun i => some (i * t.nc, t.nc)) cells vs = some cells' /\ cells'.toList = cells.toList.take (i * t.nc) ++ cs ++ cells.toList.drop ((i + ps.length) * t.nc)
 | [], [], i, xs, u, rd, _, hr, hn => by
  obtain ⟨e, _⟩ := Tr.q9 hr
  obtain ⟨rfl, rfl⟩ := Prod.mk.inj e
  exact ⟨[], fun _ => False, fun _ => False, OwE.nil _ _ _, (fun p hp => by cases hp), (fun _ h => (h.elim id id).elim), (fun _ h => h.elim), rfl, fun cells hc => ⟨cells, rfl, by simp⟩⟩
 | (j, c) :: ps, (j', v) :: vs, i, xs, u, rd, ⟨⟨hj, hok, hcr⟩, hps⟩, hr, hn => by
  obtain ⟨hji, hr⟩ := qo hr
  have hji : j = i := Nat.eq_of_beq_eq_true hji
  have hj : j = j' := hj
  subst hj; subst hji
  obtain ⟨⟨x, u1⟩, r1, r2, h1, h2, _⟩ := Tr.bind_some hr
  obtain ⟨⟨ys, u2⟩, r3, r4, h3, h4, _⟩ := Tr.bind_some h2
  obtain ⟨e, _⟩ := Tr.q9 h4
  obtain ⟨rfl, rfl⟩ := Prod.mk.inj e
  rw [qj] at hn
  obtain ⟨hn1, hn2, hn3⟩ := q1L hn
  obtain ⟨φ1, η1, h5, h6, h7, g1⟩ := qdS H hok hcr h1 hn1
  obtain ⟨cs, φ2, η2, k1, k2, k3, g2, k4, k5⟩ := q8S H hps h3 hn2
  have hcl : v.cells.size = t.nc := by have := h5.len; simpa using this
  have cross : ∀ b, φ1 b \/ η1 b -> ¬ (φ2 b \/ η2 b) := fun b hb hb' => by
   obtain ⟨κ, hκ, h⟩ := h7 b hb
   obtain ⟨κ', hκ', h'⟩ := k3 b hb'
   exact H.disj κ κ' b (fun e => hn3 κ hκ (e ▸ hκ')) h h'
  refine ⟨v.cells.toList ++ cs, fun b => φ1 b \/ φ2 b, fun b => η1 b \/ η2 b, OwE.cons (h5.more fun b h => h.imp id .inl) (k1.mono (fun _ _ => rfl) fun b h => ⟨h.imp id .inr, rfl⟩) fun b hb hb' => cross b (.inl hb) (.inl hb'), h6.append k2, fun b hb => ?_, fun b hb hb' => ?_, by simp [k4], fun cells hc => ?_⟩
  ·rw [qj]
   have hb : (φ1 b \/ η1 b) \/ (φ2 b \/ η2 b) := by
    rcases hb with (h | h) | (h | h)
    ·exact .inl (.inl h)
    ·exact .inr (.inl h)
    ·exact .inl (.inr h)
    ·exact .inr (.inr h)
   rcases hb with hb | hb
   ·obtain ⟨κ, hκ, h⟩ := h7 b hb; exact ⟨κ, List.mem_append_left _ hκ, h⟩
   ·obtain ⟨κ, hκ, h⟩ := k3 b hb; exact ⟨κ, List.mem_append_right _ hκ, h⟩
  ·rcases hb with hb | hb <;> rcases hb' with hb' | hb'
   ·exact g1 b hb hb'
   ·exact cross b (.inl hb) (.inr hb')
   ·exact cross b (.inr hb') (.inl hb)
   ·exact g2 b hb hb'
  ·simp only [List.length_cons] at hc
   have e0 : (j + (ps.length + 1)) * t.nc = j * t.nc + t.nc + ps.length * t.nc := by simp only [Nat.add_mul, Nat.one_mul]; omega
   have e3 : (j + 1 + ps.length) * t.nc = j * t.nc + t.nc + ps.length * t.nc := by simp only [Nat.add_mul, Nat.one_mul]
   have e4 : (j + 1) * t.nc = j * t.nc + t.nc := by simp only [Nat.add_mul, Nat.one_mul]
   rw [e0] at hc
   have key := foldl_set v.cells.toList 0 (j * t.nc) cells (by simp; omega)
   obtain ⟨cells', h8, h9⟩ := k5 ((v.cells.toList.zipIdx 0).foldl (fun cs (p : Value × Nat) => cs.setIfInBounds (j * t.nc + p.2) p.1) cells) (by
    rw [<- Array.length_toList, key]
    simp; omega)
   refine ⟨cells', ?_, ?_⟩
   ·simp only [Instr.fill]
    rw [if_neg (by simp; omega)]
    rw [<- h8]
    congr 1
    rw [<- Array.foldl_toList]
    simp
   ·rw [h9, key, List.length_cons, e0, e3, e4]
    simp only [Nat.add_zero, Array.length_toList, hcl]
    have hl1 : (cells.toList.take (j * t.nc) ++ v.cells.toList).length = j * t.nc + t.nc := by simp; omega
    rw [List.take_left' hl1]
    have : (cells.toList.take (j * t.nc) ++ v.cells.toList ++ cells.toList.drop (j * t.nc + t.nc)).drop (j * t.nc + t.nc + ps.length * t.nc) = cells.toList.drop (j * t.nc + t.nc + ps.length * t.nc) := by
     have h := List.drop_length_add_append (l₁ := cells.toList.take (j * t.nc) ++ v.cells.toList) (l₂ := cells.toList.drop (j * t.nc + t.nc)) (i := ps.length * t.nc)
     rw [hl1, List.drop_drop] at h
     exact h
    rw [this, List.append_assoc (cells.toList.take _)]
 | [], _ :: _, _, _, _, _, h, _, _ => h.elim
 | _ :: _, [], _, _, _, _, h, _, _ => h.elim
theorem q7q (H : HR m) (hχ : ∀ b, ¬ m.χ b) {key : Nat} {st : TypeId} {n : Nat} {l : List (Nat × CV)} {vs : List (Nat × Value)} (hps : All2 (fun (p : Nat × CV) (q : Nat × Value) => p.1 = q.1 /\ okCV p.2 = true /\ m.CR p.2 q.2) l vs)
  {v : PV} {u : Upd} {rd : List Nat} (hr : (q4p (V := V) P key st n l).run F m.h = some ((v, u), rd)) : qE P (Instr.buildSlice st n vs.toArray) m v u := by
 unfold q4p at hr
 split at hr
 ·exact (Tr.q8 hr).elim
 rename_i e he
 split at hr
 ·exact (Tr.q8 hr).elim
 rename_i t0 ht
 have hst := q1e he
 generalize (bif qeA l then t0.lent else t0) = t at hr
 unfold q6J at hr
 have ⟨hk, hr'⟩ := qo hr
 clear hr
 simp only [Bool.and_eq_true] at hk
 obtain ⟨hsz, hzero, hlim, hlen⟩ := hk
 have hsz := Nat.eq_of_beq_eq_true hsz
 have hlim := Nat.le_of_ble_eq_true hlim
 have hlen := Nat.eq_of_beq_eq_true hlen
 obtain ⟨i, z, hi, hz, hzo⟩ := q4c hzero
 have hisz : i.size = t.nc := by rw [<- hsz]; simp [szB, hi]
 obtain ⟨⟨xs, u1⟩, r1, r2, h1, h2, _⟩ := Tr.bind_some hr'
 obtain ⟨hnd, h2⟩ := qo h2
 obtain ⟨hkey, r5, h5, _⟩ := Tr.q0t h2
 obtain ⟨rfl, rfl, _⟩ := yN h5
 obtain ⟨cs, φ, η, hE, hu, hφ, hd, hxl, hfill⟩ := q8S H hps h1 hnd
 have hxl : List.length xs = n := by rw [hxl, hlen]
 obtain ⟨m1, H1, E1, hw1, hh1, _, hf1, hχ1, hφκ1, _, hks, _⟩ := q4Z H hu hnd fun b hb => hφ b (.inr hb)
 have hkey1 : m1.h key = .free := by
  rw [(hφκ1 key fun hκ => by obtain ⟨r, hr⟩ := hks key hκ; rw [hkey] at hr; cases hr).2]; exact hkey
 have hrun : ∃ cells' : Array Value, cells'.toList = cs /\ (Instr.buildSlice st n vs.toArray).run P m.w = .ok (.slice (some ⟨m.w.heap.size, 0, none⟩) n n) (m.w.alloc (.cells cells' e)) := by
  have hz1 : ∀ zero : Array Value, ∃ cells' : Array Value, cells'.toList = cs /\ Instr.fill (fun i => some (i * t.nc, t.nc)) ((Array.range (n * t.nc)).map (zero[· % zero.size]!)) vs = some cells' := fun zero => by
   obtain ⟨cells', h3, h4⟩ := hfill ((Array.range (n * t.nc)).map (zero[· % zero.size]!)) (by simp [hlen])
   refine ⟨cells', ?_, h3⟩
   rw [h4, hlen]
   simp
  by_cases h0 : n * t.nc = 0
  ·obtain ⟨cells', h3, h4⟩ := hz1 #[]
   refine ⟨cells', h3, ?_⟩
   simp only [Instr.buildSlice, Sem.run_bind, run_underlying hst, Result.andThen_ok, sizeOf, q50 hi, hisz, Sem.run_pure]
   rw [if_neg (by simp; omega), if_pos h0]
   simp only [Sem.run_pure, Result.andThen_ok, pure_bind]
   rw [h4]
   rfl
  ·obtain ⟨cells', h3, h4⟩ := hz1 z.cells
   refine ⟨cells', h3, ?_⟩
   simp only [Instr.buildSlice, Sem.run_bind, run_underlying hst, Result.andThen_ok, sizeOf, q50 hi, hisz, Sem.run_pure]
   rw [if_neg (by simp; omega), if_neg h0]
   simp only [Sem.run_bind, Sem.run_pure, q1K hi hz, Result.andThen_ok, pure_bind]
   rw [h4]
   rfl
 obtain ⟨cells', hcs, hrun⟩ := hrun
 obtain ⟨m3, H3, E3, hh3, hw3, hχ3, hsr⟩ := q66 H1 hkey1 (by rw [hw1, hf1]; exact hE) (fun b hb => (hχ1 b).2 ⟨.inr (hφ b (.inl hb)), hd b hb⟩) (M := cells') (e := e) (fr := (0, 0)) (cap := n) (fun j hj => by
   subst hcs
   rw [<- Array.getElem?_toList]
   exact List.getElem?_eq_getElem _) (by rw [<- Array.length_toList, hcs, hE.1, hxl]; exact Nat.le_refl _) (by omega) (MutR.zero _ _)
 rw [hxl, hw1] at hsr
 refine ⟨_, m3, by rw [hw3, hw1]; exact hrun, hsr, H3, E1.trans E3, ?_, hχ3⟩
 rw [hh3, hh1, <- Heap.zN]
end
end Go.Den
namespace Go.Den
open Go

section
variable {P : Program} {V : Nat -> Sig} {F : Tr.Fs V} {m : M}
theorem q6G : ∀ (ns : List Int) (s : BA), ns.foldl (fun r n => r.push (UInt8.ofNat n.toNat)) s = ⟨s.data ++ (ns.map fun n => UInt8.ofNat n.toNat).toArray⟩
 | [], s => by simp
 | n :: ns, s => by
  simp only [List.foldl_cons]
  rw [q6G ns]
  simp [ByteArray.push]
theorem qfe {k : IntKind} (xs : List Int) {i : Nat} (h : i < xs.length) : nth (.int k) xs i = xs[i] := by
 show xs.getD i (0 : Int) = _
 rw [List.getD_eq_getElem?_getD, List.getElem?_eq_getElem h]; rfl
theorem qc7 {k : IntKind} {w : World} {fz φ : Nat -> Prop} {cs : List Value} {xs : List Int} (h : OwE w fz (.int k) cs xs φ) : cs = xs.map (Value.int k) := by
 obtain ⟨hl, ψ, h1, _⟩ := h
 have hl : cs.length = xs.length := by
  rw [hl, show (Ty.int k).nc = 1 from rfl, Nat.mul_one]; rfl
 apply List.ext_getElem
 ·rw [List.length_map]; exact hl
 ·intro i h2 h3
  have := (h1 i (show i < xs.length by omega)).1
  rw [show (Ty.int k).nc = 1 from rfl, Nat.mul_one] at this
  have hx : (cs.drop i).take 1 = [cs[i]] := by rw [List.drop_eq_getElem_cons h2]; rfl
  rw [hx, qfe xs (by omega)] at this
  simp only [List.cons.injEq, and_true] at this
  rw [this, List.getElem_map]
theorem qcZ (s : BA) (w : World) (fz : Nat -> Prop) : OwE w fz (.int .u8) (s.data.toList.map fun b => Value.int .u8 b.toNat) (yg s) fun _ => False := by
 have hlen := q29 s
 refine ⟨by rw [hlen, List.length_map, Array.length_toList]; simp [Ty.nc], fun _ _ => False, fun i hi => ?_, fun _ _ _ _ _ _ h => h.elim, fun _ => ⟨fun h => h.elim, fun ⟨_, _, h⟩ => h⟩⟩
 rw [hlen] at hi
 have hi' : i < s.data.size := hi
 refine ⟨?_, fun _ h => h⟩
 simp only [Ty.nc, Nat.mul_one]
 apply List.ext_getElem
 ·simp; omega
 ·intro j h1 h2
  have : j = 0 := by simpa using h2
  subst this
  rw [q7A s hi']
  simp
theorem qcO (H : HR m) (hχ : ∀ b, ¬ m.χ b) {key : Nat} {src dst : TypeId} {px : PV} {x : Value} {v : PV} {u : Upd} {rd : List Nat} (hx : m.PR px x) (hr : (qcg (V := V) P key src dst px).run F m.h = some ((v, u), rd)) :
  qE P (convert src dst x) m v u := by
 unfold qcg at hr
 have ⟨hk, hr'⟩ := qo hr
 clear hr
 obtain ⟨d, hd⟩ := q2N hk
 split at hr'
 ·rename_i k l n hdst
  obtain ⟨rfl, rfl, _⟩ := qw hr'
  rw [show x = _ from hx]
  refine qE.same H hχ (val := .int k (k.wrap n)) ?_ rfl
  cases d <;> simp [convert, run_underlying hd, run_underlying hdst, Conv.intToInt]
 ·rename_i s hdst
  obtain ⟨rfl, rfl, _⟩ := qw hr'
  rw [show x = _ from hx]
  refine qE.same H hχ (val := .string s) ?_ rfl
  cases d <;> simp [convert, run_underlying hd, run_underlying hdst]
 ·rename_i y hne hdst
  split at hr'
  ·rename_i e he
   split at hr'
   ·rename_i hu8
    obtain ⟨xs, r1, r2, h1, h2, _⟩ := Tr.bind_some hr'
    obtain ⟨rfl, rfl, _⟩ := qw h2
    have hrd := qa1 H hx h1
    have hrd' := hrd
    obtain ⟨A, c, e1, _⟩ := hrd
    simp only [List.cons.injEq, and_true] at e1
    rw [e1] at hrd' ⊢
    obtain ⟨_, cs, hE, hcl⟩ := hrd'.toE (fz' := m.fz) (fun _ _ h => h.flat rfl)
    have hcs := qc7 hE
    refine qE.same H hχ (val := .string ⟨(List.map (α := Int) (fun n => UInt8.ofNat n.toNat) xs).toArray⟩) ?_ rfl
    rw [run_convert_bytes_string m.w src dst e A _ c (q1e he) hu8 hdst]
    rcases hcl with ⟨h0, rfl⟩ | ⟨b, off, rfl, hcl⟩
    ·have : xs = [] := List.length_eq_zero_iff.1 h0
     subst this
     cases A with
     | none => rfl
     | some a =>
      rw [run_bytesToString m.w a _ c [] rfl]
      rfl
    ·rw [run_bytesToString m.w ⟨b, off, none⟩ _ c xs (by
      have := run_loadCells (P := P) hcl (List.length xs) (by rw [hE.1]; simp [Ty.nc])
      rw [List.take_of_length_le (by rw [hE.1]; simp [Ty.nc]), hcs] at this
      exact this)]
     have := q6G xs eB
     show Result.ok (Value.string _) _ = Result.ok (Value.string _) _
     rw [show List.foldl (β := Int) (fun (r : BA) n => r.push (UInt8.ofNat n.toNat)) eB xs = _ from this]
     congr 3
     apply Array.ext'
     simp [eB, ByteArray.emptyWithCapacity]
     try rfl
   ·exact (Tr.q8 hr').elim
  ·exact (Tr.q8 hr').elim
 ·rename_i e s hdst
  split at hr'
  ·rename_i hu8
   obtain ⟨hsrc, hr'⟩ := qo hr'
   obtain ⟨hkey, r5, h5, _⟩ := Tr.q0t hr'
   obtain ⟨rfl, rfl, _⟩ := yN h5
   rw [show x = _ from hx]
   have hrun := run_bytes_of_string (P := P) m.w src dst e s (q3r hsrc) hdst hu8
   have hcap := grownCap_ge m.w s.size 0 e
   have hbs : (bytesRow s (grownCap m.w s.size 0 e)).size = grownCap m.w s.size 0 e := by
    have : s.data.size = s.size := rfl
    simp [bytesRow]; omega
   obtain ⟨m3, H3, E3, hh3, hw3, hχ3, hsr⟩ := q66 (m := m.draw) (q6k H) hkey (qcZ s m.draw.w m.draw.fz) (fun b h => h.elim) (M := bytesRow s (grownCap m.w s.size 0 e)) (e := e) (fr := ((bytesRow s (grownCap m.w s.size 0 e)).size, (bytesRow s (grownCap m.w s.size 0 e)).size + 1)) (cap := grownCap m.w s.size 0 e) (fun j hj => by
    rw [List.length_map, Array.length_toList] at hj
    unfold bytesRow
    rw [Array.getElem?_append_left (by simpa using hj), Array.getElem?_eq_getElem (by simpa using hj)]
    simp) (by rw [hbs]; simp [Ty.nc]) (by rw [q29]; exact hcap) ⟨fun j hj h => by simp only at h; omega, fun h => by simp [Ty.beq] at h⟩
   rw [q29] at hsr
   exact ⟨_, m3, by rw [hw3]; exact hrun, hsr, H3, (q40 m).trans E3, hh3, hχ3⟩
  ·exact (Tr.q8 hr').elim
 ·exact (Tr.q8 hr').elim
end
end Go.Den
namespace Go.Den
open Go

def qez (P : Program) (x : Sem Unit) (m : M) (u : Upd) : Prop := ∃ m', x.run P m.w = .ok () m'.w /\ HR m' /\ Ext m m' /\ m'.h = m.h.upd u /\ ∀ b, ¬ m'.χ b
theorem Goes.ofU {P : Program} {x : Sem Unit} {m : M} {u : Upd} (h : qez P x m u) : Goes P (do x; pure .skip) m .un u := by
 obtain ⟨m', h1, h2, h3, h4, h5⟩ := h
 exact .inr (.inl ⟨rfl, m', by simp [h1], trivial, h2, h3, h4, h5⟩)
theorem Heap.qbe : ∀ (u : Upd) (h : Heap) (κ : Nat) (s : Slot), κ ∉ keysOf u -> (h.set κ s).upd u = (h.upd u).set κ s
 | [], _, _, _, _ => rfl
 | (j, s') :: u, h, κ, s, hn => by
  simp only [keysOf, List.map_cons, List.mem_cons, not_or] at hn
  show ((h.set κ s).set j s').upd u = ((h.set j s').upd u).set κ s
  have : (h.set κ s).set j s' = (h.set j s').set κ s := by
   funext i
   by_cases h1 : i = j
   ·subst h1; rw [Heap.wD, Heap.wG _ _ (Ne.symm hn.1), Heap.wD]
   ·by_cases h2 : i = κ
    ·subst h2; rw [Heap.wG _ _ h1, Heap.wD, Heap.wD]
    ·rw [Heap.wG _ _ h1, Heap.wG _ _ h2, Heap.wG _ _ h2, Heap.wG _ _ h1]
  rw [this]
  exact Heap.qbe u _ κ s hn.2
section
variable {P : Program} {V : Nat -> Sig} {F : Tr.Fs V} {m : M}
theorem q6I {t : TypeId} (hk : okT P t = true) {b o : Nat} {x : Value} (hs : x.cells.size = szB P t) (w : World) : (Instr.storeAt t (.pointer (some ⟨b, o, none⟩)) x).run P w = (storeCells ⟨b, o, none⟩ x.cells.toList).run P w := by
 simp [Instr.storeAt, Instr.sureAddr, storeVar, q6p hk, hs]
theorem qaW {c c' : Array Value} {off : Nat} {vs : List Value} (hs : c'.size = c.size) (hle : off + vs.length <= c.size) (h : ∀ j, c'[j]? = if off + 0 <= j /\ j < off + 0 + vs.length then vs[j - (off + 0)]? else c[j]?) :
  c'.toList = c.toList.take off ++ vs ++ c.toList.drop (off + vs.length) := by
 apply List.ext_getElem?
 intro j
 rw [Array.getElem?_toList, h j]
 simp only [Nat.add_zero]
 by_cases h1 : j < off
 ·rw [if_neg (by omega), List.append_assoc, List.getElem?_append_left (by simp; omega), List.getElem?_take_of_lt h1, Array.getElem?_toList]
 ·by_cases h2 : j < off + vs.length
  ·rw [if_pos (by omega), List.append_assoc, List.getElem?_append_right (by simp; omega), List.getElem?_append_left (by simp; omega)]
   congr 1
   simp; omega
  ·rw [if_neg (by omega), List.append_assoc, List.getElem?_append_right (by simp; omega), List.getElem?_append_right (by simp; omega), List.getElem?_drop, Array.getElem?_toList]
   congr 1
   simp; omega
theorem qeg (H : HR m) : ∀ {t : Ty} {o : Nat} {cs : List SV} {nv : List Value} {x x' : t.D} {u : Upd} {rd : List Nat} {vs : List Value} {φ : Nat -> Prop}, All2 m.SR cs nv -> (putAt (V := V) t o cs x).run F m.h = some ((x', u), rd) -> nodupB (keysOf u) = true ->
  Ow m.w m.fz t vs x φ -> (∀ b, φ b -> ∀ κ ∈ keysOf u, ¬ m.φ κ b) ->
  ∃ φ' η : Nat -> Prop, Ow m.w (fun b => m.fz b \/ η b) t (vs.take o ++ nv ++ vs.drop (o + nv.length)) x' φ' /\ Ups m η u /\ (∀ b, φ' b -> φ b \/ ∃ κ ∈ keysOf u, m.φ κ b) /\ o + nv.length <= vs.length /\ (∀ b, η b -> ∃ κ ∈ keysOf u, m.φ κ b) /\ ∀ b, φ' b -> ¬ η b := by
 have whole : ∀ {t : Ty} {cs : List SV} {nv : List Value} {x x' : t.D} {u : Upd} {rd : List Nat} {vs : List Value} {φ : Nat -> Prop}, All2 m.SR cs nv ->
   ((decO (V := V) t cs).bind fun p => match p.2.1 with | [] => Tr.ret (p.1, p.2.2) | _ => .no).run F m.h = some ((x', u), rd) -> nodupB (keysOf u) = true -> Ow m.w m.fz t vs x φ ->
   ∃ φ' η : Nat -> Prop, Ow m.w (fun b => m.fz b \/ η b) t (vs.take 0 ++ nv ++ vs.drop (0 + nv.length)) x' φ' /\ Ups m η u /\ (∀ b, φ' b -> φ b \/ ∃ κ ∈ keysOf u, m.φ κ b) /\ 0 + nv.length <= vs.length /\ (∀ b, η b -> ∃ κ ∈ keysOf u, m.φ κ b) /\ ∀ b, φ' b -> ¬ η b := by
  intro t cs nv x x' u rd vs φ ha hr hn ho
  obtain ⟨⟨y, rest, u'⟩, r1, r2, h1, h2, _⟩ := Tr.bind_some hr
  match rest, h2 with
  | [], h2 =>
   obtain ⟨e, _⟩ := Tr.q9 h2
   obtain ⟨rfl, rfl⟩ := Prod.mk.inj e
   obtain ⟨v1, v2, ψ, η, e1, h3, h4, h5, h6, h7⟩ := q1t H ha h1 hn
   have : v2 = [] := by match v2, h4 with | [], _ => rfl
   rw [this, List.append_nil] at e1
   rw [<- e1] at h3
   have hl := h3.len
   have hl' := ho.len
   refine ⟨ψ, η, ?_, h5, fun b hb => .inr (h6 b (.inl hb)), by omega, fun b hb => h6 b (.inr hb), h7⟩
   rw [List.take_zero, List.nil_append, List.drop_of_length_le (by omega), List.append_nil]
   exact h3
  | _ :: _, h2 => exact (Tr.q8 h2).elim
 intro t
 induction t with
 | pr a b iha ihb =>
  intro o cs nv x x' u rd vs φ ha hr hn ho hd
  unfold putAt at hr
  obtain ⟨c1, c2, φ1, φ2, rfl, h1, h2, h12, hφ⟩ := ho
  have hl1 := h1.len
  have hl2 := h2.len
  rcases Tr.yI hr with ⟨hc, hr⟩ | ⟨_, hr⟩
  ·simp only [Bool.and_eq_true] at hc
   have hc := Nat.le_of_ble_eq_true hc.1
   obtain ⟨⟨y, u'⟩, r1, r2, h3, h4, _⟩ := Tr.bind_some hr
   obtain ⟨e, _⟩ := Tr.q9 h4
   obtain ⟨rfl, rfl⟩ := Prod.mk.inj e
   obtain ⟨φ', η, k1, k2, k3, k4, k5, k6⟩ := ihb ha h3 hn h2 fun b hb κ hκ => hd b ((hφ b).2 (.inr hb)) κ hκ
   refine ⟨fun b => φ1 b \/ φ' b, η, ⟨c1, c2.take (o - a.nc) ++ nv ++ c2.drop (o - a.nc + nv.length), φ1, φ', ?_, h1.more fun b h => .inl h, k1, fun b hb hb' => ?_, fun b => Iff.rfl⟩, k2, fun b hb => ?_, by simp; omega, k5, fun b hb hb' => hb.elim (fun h => by obtain ⟨κ, hκ, h'⟩ := k5 b hb'; exact hd b ((hφ b).2 (.inl h)) κ hκ h') fun h => k6 b h hb'⟩
   ·rw [List.take_append, List.drop_append, List.take_of_length_le (by omega), List.drop_of_length_le (by omega), hl1]
    simp only [List.nil_append, List.append_assoc]
    rw [show o + nv.length - a.nc = o - a.nc + nv.length by omega]
   ·rcases k3 b hb' with h | ⟨κ, hκ, h⟩
    ·exact h12 b hb h
    ·exact hd b ((hφ b).2 (.inl hb)) κ hκ h
   ·rcases hb with hb | hb
    ·exact .inl ((hφ b).2 (.inl hb))
    ·exact (k3 b hb).imp (fun h => (hφ b).2 (.inr h)) id
  ·rcases Tr.yI hr with ⟨hc, hr⟩ | ⟨_, hr⟩
   ·have hc := Nat.le_of_ble_eq_true hc
    obtain ⟨⟨y, u'⟩, r1, r2, h3, h4, _⟩ := Tr.bind_some hr
    obtain ⟨e, _⟩ := Tr.q9 h4
    obtain ⟨rfl, rfl⟩ := Prod.mk.inj e
    obtain ⟨φ', η, k1, k2, k3, k4, k5, k6⟩ := iha ha h3 hn h1 fun b hb κ hκ => hd b ((hφ b).2 (.inl hb)) κ hκ
    refine ⟨fun b => φ' b \/ φ2 b, η, ⟨c1.take o ++ nv ++ c1.drop (o + nv.length), c2, φ', φ2, ?_, k1, h2.more fun b h => .inl h, fun b hb hb' => ?_, fun b => Iff.rfl⟩, k2, fun b hb => ?_, by simp; omega, k5, fun b hb hb' => hb.elim (fun h => k6 b h hb') fun h => by obtain ⟨κ, hκ, h'⟩ := k5 b hb'; exact hd b ((hφ b).2 (.inr h)) κ hκ h'⟩
    ·rw [List.take_append_of_le_length (by omega), List.drop_append_of_le_length (by omega)]
     simp only [List.append_assoc]
    ·rcases k3 b hb with h | ⟨κ, hκ, h⟩
     ·exact h12 b h hb'
     ·exact hd b ((hφ b).2 (.inr hb')) κ hκ h
    ·rcases hb with hb | hb
     ·exact (k3 b hb).imp (fun h => (hφ b).2 (.inl h)) id
     ·exact .inl ((hφ b).2 (.inr hb))
   ·obtain ⟨hc, hr⟩ := qo hr
    have hc := Nat.eq_of_beq_eq_true hc
    rw [hc]
    exact whole ha hr hn (x := x) ⟨c1, c2, φ1, φ2, rfl, h1, h2, h12, hφ⟩
 | int k =>
  intro o cs nv x x' u rd vs φ ha hr hn ho hd
  cases o with
  | zero => exact whole ha hr hn ho
  | succ o => exact (Tr.q8 hr).elim
 | bool =>
  intro o cs nv x x' u rd vs φ ha hr hn ho hd
  cases o with
  | zero => exact whole ha hr hn ho
  | succ o => exact (Tr.q8 hr).elim
 | str =>
  intro o cs nv x x' u rd vs φ ha hr hn ho hd
  cases o with
  | zero => exact whole ha hr hn ho
  | succ o => exact (Tr.q8 hr).elim
 | one =>
  intro o cs nv x x' u rd vs φ ha hr hn ho hd
  cases o with
  | zero => exact whole ha hr hn ho
  | succ o => exact (Tr.q8 hr).elim
 | sl t ih =>
  intro o cs nv x x' u rd vs φ ha hr hn ho hd
  cases o with
  | zero => exact whole ha hr hn ho
  | succ o => exact (Tr.q8 hr).elim
 | ls t ih =>
  intro o cs nv x x' u rd vs φ ha hr hn ho hd
  cases o with
  | zero => exact whole ha hr hn ho
  | succ o => exact (Tr.q8 hr).elim
theorem qfi {t : Ty} {xs : List t.D} {i j : Nat} {x : t.D} (hi : i < List.length xs) : nth t (xs.set i x) j = if j = i then x else nth t xs j := by
 simp only [nth, List.getD_eq_getElem?_getD, List.getElem?_set]
 by_cases h : i = j
 ·subst h; simp [hi]
 ·rw [if_neg h, if_neg (Ne.symm h)]
theorem qfd {w : World} {fz : Nat -> Prop} {t : Ty} {A : Option Addr} {n c : Nat} {xs : List t.D} {φ : Nat -> Prop} (ho : Ow w fz (.sl t) [.slice A n c] xs φ) {i : Nat} (hi : i < List.length xs) {b off : Nat} (hA : A = some ⟨b, off, none⟩) :
  ∃ m e fr, ∃ ψ : Nat -> Prop, ∃ vs, w.heap[b]? = some (.cells m e fr) /\ MutR t m fr /\ off + i * t.nc + t.nc <= m.size /\ φ b /\ ¬ ψ b /\ vs = (m.toList.drop (off + i * t.nc)).take t.nc /\ vs.length = t.nc /\ Ow w fz t vs (nth t xs i) ψ /\ (∀ b', ψ b' -> φ b') /\
   ∀ (w' : World) (fz' : Nat -> Prop), (∀ b, fz b -> fz' b) -> (∀ b, φ b -> ¬ fz' b) -> ∀ (m' : Array Value) (x' : t.D) (nvs : List Value) (φ' : Nat -> Prop), w'.heap[b]? = some (.cells m' e fr) -> m'.size = m.size -> (∀ b', b' ≠ b -> w'.heap[b']? = w.heap[b']?) -> nvs.length = t.nc -> Ow w fz' t nvs x' φ' -> (∀ b', φ' b' -> b' ≠ b) ->
    (∀ b', φ' b' -> ψ b' \/ ¬ φ b') -> (∀ j, m'[j]? = if off + i * t.nc <= j /\ j < off + i * t.nc + t.nc then nvs[j - (off + i * t.nc)]? else m[j]?) ->
    ∃ φ'', Ow w' fz' (.sl t) [.slice A n c] (xs.set i x') φ'' /\ ∀ b', φ'' b' -> φ b' \/ φ' b' := by
 obtain ⟨A1, c1, e1, hc⟩ := ho
 simp only [List.cons.injEq, and_true, Value.slice.injEq] at e1
 obtain ⟨rfl, rfl, rfl⟩ := e1
 rcases hc with ⟨h0, h1, _⟩ | ⟨b1, off1, m, e, fr, ψ, h0, hm, hmu, hs, hl, hel, hd, hp, hφ⟩
 ·rw [hA] at h0; cases h0
 rw [hA] at h0
 injection h0 with h0; injection h0 with h0 h0' _
 subst h0; subst h0'
 obtain ⟨vs, hvl, hat, hov⟩ := hel i hi
 have hle := jk (c := t.nc) hi
 have hle2 := Nat.mul_le_mul_right t.nc hl
 have hvs : vs = (m.toList.drop (off + i * t.nc)).take t.nc := by
  obtain ⟨c2, e2, fr2, hh, hsz, hcell⟩ := hat
  rw [hm] at hh
  injection hh with hh; injection hh with hh _ _
  subst hh
  apply List.ext_getElem
  ·simp; omega
  ·intro j h1 h2
   have := hcell j h1
   simp only [List.getElem_take, List.getElem_drop, Array.getElem_toList]
   rw [Array.getElem?_eq_some_iff] at this
   exact this.2.symm
 refine ⟨m, e, fr, ψ i, vs, hm, hmu, by omega, (hφ b).2 (.inl rfl), hd i hi, hvs, hvl, hov, fun b' h => (hφ b').2 (.inr ⟨i, hi, h⟩), ?_⟩
 intro w' fz' hfz hφz m' x' nvs φ' hm' hsz hw hnl hno hnb hsub hcell
 have hset : List.length (xs.set i x') = List.length xs := List.length_set
 refine ⟨fun b' => b' = b \/ ∃ j, j < List.length xs /\ (if j = i then φ' else ψ j) b', ⟨A, c, by rw [hset], .inr ⟨b, off, m', e, fr, fun j => if j = i then φ' else ψ j, hA, hm', hmu.same hsz, by omega, by rw [hset]; exact hl, fun j hj => ?_, fun j hj => ?_, fun j k b' hj hk hne => ?_, fun b' => by rw [hset]⟩⟩, fun b' h => ?_⟩
 ·rw [hset] at hj
  rw [qfi hi]
  by_cases hji : j = i
  ·subst hji
   simp only [if_true]
   refine ⟨nvs, hnl, ⟨m', e, fr, hm', by omega, fun k hk => ?_⟩, hno.mono (fun b' h => hw b' (hnb b' h)) fun b' h => ⟨h, hw b' fun e => hφz b' ((hφ b').2 (.inl e)) h⟩⟩
   rw [hcell, if_pos (by omega), Nat.add_sub_cancel_left]
   exact List.getElem?_eq_getElem hk
  ·simp only [if_neg hji]
   obtain ⟨ws, hwl, ⟨c2, e2, fr2, hh, hsz2, hcell2⟩, how⟩ := hel j hj
   rw [hm] at hh
   injection hh with hh; injection hh with hh _ _
   subst hh
   refine ⟨ws, hwl, ⟨m', e, fr, hm', by omega, fun k hk => ?_⟩, how.mono (fun b' h => hw b' fun e => hd j hj (e ▸ h)) fun b' h => ⟨hfz b' h, hw b' fun e => hφz b' ((hφ b').2 (.inl e)) (hfz b' h)⟩⟩
   rw [hcell, if_neg, hcell2 k hk]
   rintro ⟨h1, h2⟩
   rcases Nat.lt_or_gt_of_ne hji with h | h
   ·have := jk (c := t.nc) h; omega
   ·have := jk (c := t.nc) h; omega
 ·rw [hset] at hj
  by_cases hji : j = i
  ·simp only [if_pos hji]; exact fun h => hnb b h rfl
  ·simp only [if_neg hji]; exact hd j hj
 ·rw [hset] at hj hk
  have hx : ∀ l, l < List.length xs -> l ≠ i -> φ' b' -> ¬ ψ l b' := fun l hl' hne' h h' => by
   rcases hsub b' h with h1 | h1
   ·exact hp l i b' hl' hi hne' h' h1
   ·exact h1 ((hφ b').2 (.inr ⟨l, hl', h'⟩))
  by_cases hji : j = i <;> by_cases hki : k = i
  ·omega
  ·simp only [if_pos hji, if_neg hki]; exact hx k hk hki
  ·simp only [if_neg hji, if_pos hki]; exact fun h h' => hx j hj hji h' h
  ·simp only [if_neg hji, if_neg hki]; exact hp j k b' hj hk hne
 ·rcases h with rfl | ⟨j, hj, h⟩
  ·exact .inl ((hφ _).2 (.inl rfl))
  ·by_cases hji : j = i
   ·rw [if_pos hji] at h; exact .inr h
   ·rw [if_neg hji] at h; exact .inl ((hφ b').2 (.inr ⟨j, hj, h⟩))
theorem qcJ (H : HR m) (hχ : ∀ b, ¬ m.χ b) {t : TypeId} {a : SV} {x : Value} {c : CV} {y : Value} {v : PV} {u : Upd} {rd : List Nat} (hx : m.SR a x) (hy : m.CR c y) (hr : (storeT (V := V) P t a c).run F m.h = some ((v, u), rd)) :
  v = .un /\ qez P (Instr.storeAt t x y) m u := by
 unfold storeT at hr
 have ⟨hk, hr'⟩ := qo hr
 clear hr
 simp only [Bool.and_eq_true] at hk
 obtain ⟨hk, hok, hlen⟩ := hk
 have hlen := Nat.eq_of_beq_eq_true hlen
 obtain ⟨hc, hone⟩ := CR.cells hok hy
 have hcl := hc.len
 have hysz : y.cells.size = szB P t := by rw [<- hlen, hcl]; simp
 split at hr'
 ·rename_i κ off
  obtain ⟨cs, r, hκ, h1, _⟩ := q9u (f := fun cs => bif Nat.ble (off + (qJ c).length) cs.length then .ret (.un, [(κ, .live (.box (splice cs off (qJ c))))]) else .no) (fun _ => rfl) (fun s hs => by rcases s with _ | _ | (cs | cs | ⟨t, xs, v'⟩) <;> first | rfl | exact absurd rfl (hs cs)) hr'
  obtain ⟨hle, h1⟩ := qo h1
  have hle := Nat.le_of_ble_eq_true hle
  obtain ⟨rfl, rfl, _⟩ := yN h1
  refine ⟨rfl, ?_⟩
  obtain ⟨hu, hv⟩ := hx
  obtain ⟨cc, e, fr, h2, h3, h4, h5⟩ := H.res κ _ hκ
  have hccl := h4.len
  obtain ⟨w', hrs, hA, m', hm', hms, hcell⟩ := jy (P := P) (b := (m.ρ κ).b) (off := off) y.cells.toList 0 h2 h3 (by simp at hccl hcl ⊢; omega) hone
  have hA' : Apart m.w w' fun b => m.χ b \/ m.φ κ b := hA.mono fun b hb => .inr ((h5 b).2 hb)
  have hψ : ∀ b, m.φ κ b -> m.χ b \/ m.φ κ b := fun b hb => .inr hb
  have E := q1P (r := .box (splice cs off (qJ c))) H hu hA' hψ (fun t xs v h => by cases h)
  have hres : ResR (m.redo κ (.box (splice cs off (qJ c))) (m.φ κ) w') κ (.box (splice cs off (qJ c))) (m.φ κ) := by
   refine ⟨m', e, fr, hm', fun j hj => h3 j (by omega), ?_, h5⟩
   rw [qaW hms (by simp at hccl hcl ⊢; omega) hcell]
   exact All2.mono (fun _ _ h => E.sr h) (h4.splice hc off)
  refine ⟨_, ?_, q4Q H hu hA' hψ (fun t xs v h => by cases h) hres, E, rfl, fun b hb => ?_⟩
  ·rw [hv, q6I hk hysz]; exact hrs
  ·rcases hb.1 with h | h
   ·exact hχ b h
   ·exact hb.2 h
 ·rename_i κ i off
  obtain ⟨t', xs, ver, r, hκ, h1, _⟩ := jD (f := fun t xs ver => (putAt t off (qJ c) (nth t xs i)).bind fun p => bif nodupB (κ :: keysOf p.2) then .ret (.un, (κ, .live (.row t (xs.set i p.1) (ver + 1))) :: p.2) else .no) (fun _ _ _ => rfl) (fun s hs => by rcases s with _ | _ | (_ | _ | ⟨t, xs, v'⟩) <;> first | rfl | exact absurd rfl (hs t xs v')) hr'
  obtain ⟨⟨x', u'⟩, r1, r2, h2, h3, _⟩ := Tr.bind_some h1
  obtain ⟨hnd, h3⟩ := qo h3
  obtain ⟨rfl, rfl, _⟩ := yN h3
  refine ⟨rfl, ?_⟩
  obtain ⟨hκn, hnd⟩ := q2S hnd
  obtain ⟨hu, hi, b, o, hA, hv⟩ := hx
  obtain ⟨hOw, h5, h6⟩ := H.res κ _ hκ
  have hi' : i < List.length xs := by omega
  have hdis0 : ∀ b', m.φ κ b' -> ∀ κ' ∈ keysOf u', ¬ m.φ κ' b' := fun b' h κ' hκ' => H.disj κ κ' b' (fun e => hκn (e ▸ hκ')) h
  obtain ⟨mm, e, fr, ψ, vs, hm, hmu, hsz, hφb, hψb, hvs, hvl, hov, hψφ, hset⟩ := qfd hOw hi' hA
  obtain ⟨φ', η, k1, k2, k3, k4, kη, kd⟩ := qeg H hc h2 hnd hov fun b' h => hdis0 b' (hψφ b' h)
  obtain ⟨m1, H1, E1, hw1, hh1, hρ1, hf1, hχ1, hφκ1, _, hks, _⟩ := q4Z H k2 hnd kη
  obtain ⟨hφ1, hκ1⟩ := hφκ1 κ hκn
  have hnvl : y.cells.toList.length = (qJ c).length := hcl.symm
  obtain ⟨w', hrs, hA2, m', hm', hms, hcell⟩ := jy (P := P) (b := b) (off := o + i * t'.nc + off) y.cells.toList 0 hm hmu.1 (by omega) hone
  have hnbφ : ∀ b', φ' b' -> b' ≠ b := fun b' h e => by
   subst e
   rcases k3 b' h with h | ⟨κ', hκ', h⟩
   ·exact hψb h
   ·exact hdis0 b' hφb κ' hκ' h
  obtain ⟨φ'', ho2, hsub2⟩ := hset w' (fun b => m.fz b \/ η b) (fun b h => .inl h) (fun b h h' => h'.elim (H.fzφ κ b h) fun h' => by obtain ⟨κ', hκ', h1⟩ := kη b h'; exact hdis0 b h κ' hκ' h1) m' x' _ φ' hm' hms (fun b' hb' => hA2.heap b' hb') (by simp; omega) k1 hnbφ (fun b' h => by
   rcases k3 b' h with h | ⟨κ', hκ', h⟩
   ·exact .inl h
   ·exact .inr fun h' => hdis0 b' h' κ' hκ' h) (fun j => by
   rw [hcell]
   simp only [Nat.add_zero]
   by_cases h1 : o + i * t'.nc <= j /\ j < o + i * t'.nc + t'.nc
   ·rw [if_pos h1]
    have hold : mm[j]? = vs[j - (o + i * t'.nc)]? := by
     rw [hvs, List.getElem?_take_of_lt (by omega), List.getElem?_drop, Array.getElem?_toList]
     congr 1; omega
    by_cases h2 : o + i * t'.nc + off <= j /\ j < o + i * t'.nc + off + y.cells.toList.length
    ·rw [if_pos h2, List.append_assoc, List.getElem?_append_right (by simp; omega), List.getElem?_append_left (by simp; omega)]
     congr 1; simp; omega
    ·rw [if_neg h2, hold]
     by_cases h3 : j < o + i * t'.nc + off
     ·rw [List.append_assoc, List.getElem?_append_left (by simp; omega), List.getElem?_take_of_lt (by omega)]
     ·rw [List.getElem?_append_right (by simp; omega), List.getElem?_drop]
      congr 1; simp; omega
   ·rw [if_neg h1, if_neg (by omega)])
  have hA' : Apart m1.w w' fun b => m1.χ b \/ m1.φ κ b := by
   rw [hw1]; exact hA2.mono fun b' hb' => .inr (by rw [hφ1, show b' = b from hb']; exact hφb)
  have hψ2 : ∀ b', φ'' b' -> m1.χ b' \/ m1.φ κ b' := fun b' h => by
   rcases hsub2 b' h with h | h
   ·exact .inr (by rw [hφ1]; exact h)
   ·have hnη := kd b' h
    rcases k3 b' h with h | h
    ·exact .inr (by rw [hφ1]; exact hψφ b' h)
    ·exact .inl ((hχ1 b').2 ⟨.inr h, hnη⟩)
  have hu1 : (m1.h κ).used := by rw [hκ1, hκ]; trivial
  have hrow : ∀ t xs0 v0, Res.row t' (xs.set i x') (ver + 1) = Res.row t xs0 v0 -> ∃ t0 xs1 v1, m1.h κ = .live (.row t0 xs1 v1) /\ v1 < v0 := fun t xs0 v0 h => by
   injection h with e1 e2 e3
   exact ⟨t', xs, ver, hκ1.trans hκ, by omega⟩
  have E2 := q1P (r := .row t' (xs.set i x') (ver + 1)) (ψ := φ'') H1 hu1 hA' hψ2 hrow
  have hres : ResR (m1.redo κ (.row t' (xs.set i x') (ver + 1)) φ'' w') κ (.row t' (xs.set i x') (ver + 1)) φ'' := by
   refine ⟨?_, ?_, ?_⟩
   ·show Ow w' m1.fz (.sl t') [slV (m1.ρ κ)] _ _
    rw [hρ1, hf1]; exact ho2
   ·show (m1.ρ κ).n = _
    rw [hρ1, h5]; simp
   ·show (m1.ρ κ).sz = _
    rw [hρ1, h6]
  have H2 := q4Q H1 hu1 hA' hψ2 hrow hres
  refine ⟨(m1.redo κ (.row t' (xs.set i x') (ver + 1)) φ'' w').drop (fun _ => False) _, ?_, q4K H2 (fun _ h => h.elim) (fun _ h => h) (fun _ h => .inl h), (E1.trans E2).trans (q2L (fun _ h => h.elim) fun _ h => h), ?_, fun _ h => h⟩
  ·rw [hv, h6, q6I hk hysz]; exact hrs
  ·show (m1.h).set κ _ = _
   rw [hh1]
   exact (Heap.qbe u' m.h κ _ hκn).symm
 ·exact (Tr.q8 hr').elim
end
end Go.Den
namespace Go.Den
open Go

section
variable {P : Program} {V : Nat -> Sig} {F : Tr.Fs V} {m : M}
theorem qdz (z : Array Value) (n : Nat) : Builtin.zeroCells z n = madeCells z (n * z.size) := rfl
theorem qcq (H : HR m) (hχ : ∀ b, ¬ m.χ b) {st ty : TypeId} {ts : List TypeId} {a : SV} {x : Value} {v : PV} {u : Upd} {rd : List Nat} (hx : m.SR a x) (hr : (q9W (V := V) P st a).run F m.h = some ((v, u), rd)) :
  qE P (Builtin.clear_ (st :: ts).toArray ty #[x]) m v u := by
 cases a <;> simp only [q9W] at hr
 case sub κ lo hi =>
  split at hr
  ·exact (Tr.q8 hr).elim
  rename_i e he
  have hst := q1e he
  obtain ⟨t, xs, ver, r, hκ, h1, _⟩ := jD (f := fun t xs ver => bif q3N P e t && Nat.beq (szB P e) t.nc then .ret (.tup [], [(κ, .live (.row t (xs.take lo ++ List.replicate (hi - lo) t.dflt ++ xs.drop hi) (ver + 1)))]) else .no) (fun _ _ _ => rfl) (fun s hs => by rcases s with _ | _ | (_ | _ | ⟨t, xs, v'⟩ | ⟨t, xs⟩) <;> first | rfl | exact absurd rfl (hs t xs v')) hr
  obtain ⟨hk, h1⟩ := qo h1
  obtain ⟨rfl, rfl, _⟩ := yN h1
  simp only [Bool.and_eq_true] at hk
  obtain ⟨i, z, hi', hz, hzo⟩ := q4c hk.1
  have hzs : z.cells.size = t.nc := by have := (hzo m.w m.fz).len; simpa using this
  obtain ⟨hu, hlo, hhi, A', hcut, hv⟩ := hx
  obtain ⟨ho, h5, h6⟩ := rowO H hκ
  have hhl : hi <= List.length xs := by omega
  obtain ⟨_, cs, φ', hE, hsub, halt⟩ := ho.toE
  have hlen : List.length (xs.take lo ++ List.replicate (hi - lo) t.dflt ++ xs.drop hi) = List.length xs := by
   show List.length (List.append (List.append (List.take lo xs) (List.replicate (hi - lo) t.dflt)) (List.drop hi xs)) = _
   simp; omega
  obtain ⟨ψ, hp1, hp2, hp3⟩ := hE.parts
  have hl := hE.1
  have hm0 := qaF (t := t) (z := z.cells) hzo (hi - lo) m.w m.fz
  have hmsz : (madeCells z.cells ((hi - lo) * t.nc)).toList.length = (hi - lo) * t.nc := by simp [madeCells]
  have hq0 := hp1 0 lo (Nat.zero_le _) (by omega)
  have hq1 := hp1 hi (List.length xs) hhl (Nat.le_refl _)
  have e0 : (cs.drop (0 * t.nc)).take ((lo - 0) * t.nc) = cs.take (lo * t.nc) := by simp
  have e0' : (xs.drop 0).take (lo - 0) = xs.take lo := by simp
  have hmul : (List.length xs - hi) * t.nc + hi * t.nc = List.length xs * t.nc := by rw [<- Nat.add_mul]; congr 1; omega
  have hmul2 : (hi - lo) * t.nc + lo * t.nc = hi * t.nc := by rw [<- Nat.add_mul]; congr 1; omega
  have hle := Nat.mul_le_mul_right t.nc hhl
  have e1 : (cs.drop (hi * t.nc)).take ((List.length xs - hi) * t.nc) = cs.drop (hi * t.nc) := List.take_of_length_le (by rw [List.length_drop, hl]; omega)
  have e1' : (xs.drop hi).take (List.length xs - hi) = xs.drop hi := List.take_of_length_le (by rw [List.length_drop]; exact Nat.le_refl _)
  rw [e0, e0'] at hq0
  rw [e1, e1'] at hq1
  have hnew := (hq0.append hm0 (fun _ _ h => h)).append hq1 fun b hb hb' => by
   obtain ⟨j, j1, j2, j3⟩ := hb'
   rcases hb with ⟨k, k1, k2, k3⟩ | hb
   ·exact hp2 k j b (by omega) j2 (by omega) k3 j3
   ·exact hb
  have hψφ : ∀ b, ((∃ i, 0 <= i /\ i < lo /\ ψ i b) \/ False) \/ (∃ i, hi <= i /\ i < List.length xs /\ ψ i b) -> φ' b := fun b hb => by
   rw [hp3]
   rcases hb with (⟨k, k1, k2, k3⟩ | hb) | ⟨k, k1, k2, k3⟩
   ·exact ⟨k, by omega, k3⟩
   ·exact hb.elim
   ·exact ⟨k, k2, k3⟩
  have hzrun : ∀ w, (zeroValue e).run P w = .ok z w := fun w => q1K hi' hz w
  rw [hv]
  by_cases h0 : hi - lo = 0
  ·
   have hsame : xs.take lo ++ List.replicate (hi - lo) t.dflt ++ xs.drop hi = xs := by
    rw [h0, show hi = lo by omega]
    show List.append (List.append (List.take lo xs) []) (List.drop lo xs) = xs
    simp
   rw [hsame]
   have hrun : (Builtin.clear_ (st :: ts).toArray ty #[.slice A' (hi - lo) ((m.ρ κ).c - lo)]).run P m.w = .ok (.tuple #[]) m.w := by
    rw [h0]
    cases A' <;> simp [Builtin.clear_, run_underlying hst]
   have hu1 : (m.h κ).used := hu
   have hrow : ∀ t1 xs0 v0, Res.row t xs (ver + 1) = Res.row t1 xs0 v0 -> ∃ t0 xs1 v1, m.h κ = .live (.row t0 xs1 v1) /\ v1 < v0 := fun t1 xs0 v0 h => by
    injection h with e1 e2 e3
    exact ⟨t, xs, ver, hκ, by omega⟩
   have hψ2 : ∀ b', m.φ κ b' -> m.χ b' \/ m.φ κ b' := fun b' h => .inr h
   have E2 := q1P (r := .row t xs (ver + 1)) (ψ := m.φ κ) H hu1 (Apart.refl _ _) hψ2 hrow
   have H2 := q4Q H hu1 (Apart.refl _ _) hψ2 hrow (show ResR (m.redo κ (.row t xs (ver + 1)) (m.φ κ) m.w) κ (.row t xs (ver + 1)) (m.φ κ) from ⟨ho, h5, h6⟩)
   refine ⟨.tuple #[], m.redo κ (.row t xs (ver + 1)) (m.φ κ) m.w, hrun, ⟨#[], rfl, trivial⟩, H2, E2, rfl, fun b hb => ?_⟩
   rcases hb.1 with h | h
   ·exact hχ b h
   ·exact hb.2 h
  ·rcases halt with ⟨hA, _, hn0, _⟩ | ⟨b, off, mm, e', fr, hA, hφb, hφb', hm, hmu, hcs, hnc, hcl⟩
   ·omega
   obtain ⟨o', rfl, hoo, _⟩ := hcut.2 b off hA
   have hlc : lo < (m.ρ κ).c := by omega
   have hoo := hoo hlc
   rw [h6] at hoo
   subst hoo
   have hle2 := Nat.mul_le_mul_right t.nc hnc
   obtain ⟨w', hrs, hA2, m', hm', hms, hcell⟩ := jy (P := P) (b := b) (off := off + lo * t.nc) (madeCells z.cells ((hi - lo) * t.nc)).toList 0 hm hmu.1 (by rw [hmsz]; rw [h5] at hle2; omega) hm0.ones
   have hrun : (Builtin.clear_ (st :: ts).toArray ty #[.slice (some ⟨b, off + lo * t.nc, none⟩) (hi - lo) ((m.ρ κ).c - lo)]).run P m.w = .ok (.tuple #[]) w' := by
    obtain ⟨k, hk'⟩ : ∃ k, hi - lo = k + 1 := ⟨hi - lo - 1, by omega⟩
    rw [hk'] at hrs ⊢
    have hzc : Builtin.zeroCells z.cells (k + 1) = madeCells z.cells ((k + 1) * t.nc) := by rw [qdz, hzs]
    simp only [Builtin.clear_, List.getElem?_toArray, List.getElem?_cons_zero, Sem.run_bind, run_underlying hst, Result.andThen_ok, hzrun, hzc, Sem.run_pure]
    simp [hrs, run_underlying hst, hzrun, hzc]
   have hA1 : Apart m.w w' fun b' => m.χ b' \/ m.φ κ b' := hA2.mono fun b' h => .inr (by rw [show b' = b from h]; exact hφb)
   have hnb : ∀ b', φ' b' -> b' ≠ b := fun b' h e => hφb' (e ▸ h)
   have hnew2 := hnew.mono (w' := w') (fz' := m.fz) (fun b' hb' => hA2.heap b' (hnb b' (hψφ b' hb'))) fun b' hb' => ⟨hb', hA2.heap b' fun e => H.fzφ κ b' (by rw [show b' = b from e]; exact hφb) hb'⟩
   have hmu' : MutR t m' fr := hmu.same hms
   have hcl' : ∀ j, (hj : j < cs.length) -> mm[off + j]? = some cs[j] := fun j hj => by simpa [World.cell?, hm] using hcl j hj
   have hres := hnew2.toSl (b := b) (off := off) (c := (m.ρ κ).c) hm' hmu' (by rw [hms]; exact hcs) (by rw [hlen]; omega) (fun j hj => by
    rw [hcell]
    simp only [Nat.add_zero, hmsz]
    have hjl : j < List.length xs * t.nc := by
     have := hnew2.1
     rw [hlen] at this; omega
    by_cases hin : off + lo * t.nc <= off + j /\ off + j < off + lo * t.nc + (hi - lo) * t.nc
    ·rw [if_pos hin, List.getElem_append_left (by simp [madeCells]; omega), List.getElem_append_right (by simp; omega)]
     rw [List.getElem?_eq_getElem (by rw [hmsz]; omega)]
     congr 1
     simp only [List.length_take]
     congr 1
     omega
    ·rw [if_neg hin, hcl' j (by omega)]
     congr 1
     by_cases hjlo : j < lo * t.nc
     ·rw [List.getElem_append_left (by simp; omega), List.getElem_append_left (by simp; omega), List.getElem_take]
     ·rw [List.getElem_append_right (by simp [madeCells]; omega), List.getElem_drop]
      congr 1
      simp [madeCells]
      omega) (fun h => hφb' (hψφ b h))
   have hu1 : (m.h κ).used := hu
   have hrow : ∀ t1 xs0 v0, Res.row t (xs.take lo ++ List.replicate (hi - lo) t.dflt ++ xs.drop hi) (ver + 1) = Res.row t1 xs0 v0 -> ∃ t0 xs1 v1, m.h κ = .live (.row t0 xs1 v1) /\ v1 < v0 := fun t1 xs0 v0 h => by
    injection h with e1 e2 e3
    exact ⟨t, xs, ver, hκ, by omega⟩
   let ψR : Nat -> Prop := fun b' => (b' = b \/ (((∃ i, 0 <= i /\ i < lo /\ ψ i b') \/ False) \/ ∃ i, hi <= i /\ i < List.length xs /\ ψ i b'))
   have hψ2 : ∀ b', ψR b' -> m.χ b' \/ m.φ κ b' := fun b' h => by
    rcases h with rfl | h
    ·exact .inr hφb
    ·exact .inr (hsub b' (hψφ b' h))
   have E2 := q1P (r := .row t (xs.take lo ++ List.replicate (hi - lo) t.dflt ++ xs.drop hi) (ver + 1)) (ψ := ψR) H hu1 hA1 hψ2 hrow
   have hRes : ResR (m.redo κ (.row t (xs.take lo ++ List.replicate (hi - lo) t.dflt ++ xs.drop hi) (ver + 1)) ψR w') κ (.row t (xs.take lo ++ List.replicate (hi - lo) t.dflt ++ xs.drop hi) (ver + 1)) ψR := by
    refine ⟨?_, ?_, h6⟩
    ·show Ow w' m.fz (.sl t) [slV (m.ρ κ)] _ _
     have : slV (m.ρ κ) = .slice (some ⟨b, off, none⟩) (List.length (xs.take lo ++ List.replicate (hi - lo) t.dflt ++ xs.drop hi)) (m.ρ κ).c := by
      rw [hlen]; unfold slV; rw [hA, h5]
     rw [this]; exact hres
    ·show (m.ρ κ).n = _
     rw [hlen]; exact h5
   have H2 := q4Q H hu1 hA1 hψ2 hrow hRes
   refine ⟨.tuple #[], (m.redo κ (.row t (xs.take lo ++ List.replicate (hi - lo) t.dflt ++ xs.drop hi) (ver + 1)) ψR w').drop (fun _ => False) _, hrun, ⟨#[], rfl, trivial⟩, q4K H2 (fun _ h => h.elim) (fun _ h => h) (fun _ h => .inl h), E2.trans (q2L (fun _ h => h.elim) fun _ h => h), rfl, fun _ h => h⟩
 all_goals exact (Tr.q8 hr).elim
end
end Go.Den
