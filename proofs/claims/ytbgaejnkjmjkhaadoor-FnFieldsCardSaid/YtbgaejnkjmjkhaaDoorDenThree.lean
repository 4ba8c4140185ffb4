/- Den, part three: calls, regions in every order, code are right. Conditions: none here. -/
import Derived.Test.YtbgaejnkjmjkhaaDoorDenTwo
set_option linter.all false
namespace Go.Den
open Go

def q1r (agg : Bool) (v : Value) : Prop := (if agg then ∃ cs, v = .agg cs else v.oneCell' = true) /\ ∀ c ∈ v.cells.toList, c.oneCell' = true
def BoxO (w : World) (fz : Nat -> Prop) (t : Ty) (v : Value) (x : t.D) (φ : Nat -> Prop) : Prop :=
 ∃ b c e fr, ∃ ψ : Nat -> Prop, v = .pointer (some ⟨b, 0, none⟩) /\ w.heap[b]? = some (.cells c e fr) /\ Mut c fr /\ Ow w fz t c.toList x ψ /\ ¬ ψ b /\ ∀ b', φ b' ↔ b' = b \/ ψ b'
def BoxR (w : World) (fz : Nat -> Prop) (t : Ty) (v : Value) (x : t.D) : Prop :=
 ∃ b c e fr, v = .pointer (some ⟨b, 0, none⟩) /\ w.heap[b]? = some (.cells c e fr) /\ fz b /\ Rd w fz t c.toList x
def Two (φ φ1 φ2 : Nat -> Prop) : Prop := (∀ b, φ1 b -> ¬ φ2 b) /\ ∀ b, φ b ↔ φ1 b \/ φ2 b
def Nil (φ : Nat -> Prop) : Prop := ∀ b, ¬ φ b
def OwL (w : World) (fz : Nat -> Prop) : (t : Ty) -> List Value -> t.D -> (Nat -> Prop) -> Prop
 | .int _, cs, _, φ => cs.length = 1 /\ Nil φ
 | .bool, cs, _, φ => cs.length = 1 /\ Nil φ
 | .str, cs, _, φ => cs.length = 1 /\ Nil φ
 | .one, cs, _, φ => cs.length = 0 /\ Nil φ
 | .sl t, cs, x, φ => Ow w fz (.sl t) cs x φ
 | .ls t, cs, x, φ => Ow w fz (.ls t) cs x φ
 | .pr a b, cs, x, φ => ∃ c1 c2, ∃ φ1 φ2 : Nat -> Prop, cs = c1 ++ c2 /\ OwL w fz a c1 x.1 φ1 /\ OwL w fz b c2 x.2 φ2 /\ Two φ φ1 φ2
theorem OwL.len {w : World} {fz : Nat -> Prop} : ∀ {t : Ty} {cs : List Value} {x : t.D} {φ : Nat -> Prop}, OwL w fz t cs x φ -> cs.length = t.nc
 | .int _, _, _, _, h => h.1
 | .bool, _, _, _, h => h.1
 | .str, _, _, _, h => h.1
 | .one, _, _, _, h => h.1
 | .sl _, _, _, _, h => Ow.len h
 | .ls _, _, _, _, h => Ow.len h
 | .pr a b, cs, x, φ, ⟨c1, c2, φ1, φ2, e, h1, h2, _⟩ => by rw [e, List.length_append, OwL.len h1, OwL.len h2]; rfl
def q0p (w : World) (fz : Nat -> Prop) : (caps : List (Ty × Bool)) -> List Value -> q3A caps -> (Nat -> Prop) -> Prop
 | [], vs, _, φ => vs = [] /\ Nil φ
 | (t, true) :: cs, vs, x, φ => ∃ v r φ1 φ2, vs = v :: r /\ BoxO w fz t v x.1 φ1 /\ q0p w fz cs r x.2 φ2 /\ Two φ φ1 φ2
 | (t, false) :: cs, vs, x, φ => ∃ v r, vs = v :: r /\ BoxR w fz t v x.1 /\ q0p w fz cs r x.2 φ
def q0K (w : World) (br : Nat) (v : Value) : Prop := ∃ c e fr, w.heap[br]? = some (.cells c e fr) /\ c.toList = [v]
theorem q0K.one {w : World} {br : Nat} {v v' : Value} (h : q0K w br v) (h' : q0K w br v') : v = v' := by
 obtain ⟨c, e, fr, h1, h2⟩ := h
 obtain ⟨c', e', fr', h3, h4⟩ := h'
 rw [h1] at h3
 injection h3 with h3
 injection h3 with h3
 rw [h3, h4] at h2
 simpa using h2.symm
def ArgO (w : World) (fz : Nat -> Prop) (agg : Bool) : (p : Par) -> Value -> p.D -> (Nat -> Prop) -> Prop
 | .val t, v, x, φ => q1r agg v /\ Rd w fz t v.cells.toList x /\ Nil φ
 | .own t, v, x, φ => q1r agg v /\ Ow w fz t v.cells.toList x φ
 | .mut t, v, x, φ => q1r agg v /\ Ow w fz t v.cells.toList x φ
 | .ptr t, v, x, φ => BoxO w fz t v x φ
 | .cptr t, v, x, φ => BoxR w fz t v x /\ Nil φ
 | .clo f caps, v, x, φ => ∃ ps : List Value, v = .func (.func f) #[] ps.toArray /\ q0p w fz caps ps x φ
 | .pptr t, v, x, φ => ∃ br v0, v = .pointer (some ⟨br, 0, none⟩) /\ q0K w br v0 /\ fz br /\ BoxO w fz t v0 x φ
 | .rclo f caps, v, x, φ => ∃ (br : Nat) (ps : List Value), v = .func (.func f) #[] (.pointer (some ⟨br, 0, none⟩) :: ps).toArray /\ fz br /\ q0p w fz caps ps x φ
def jJ (P : Program) (w : World) (fz : Nat -> Prop) : List TypeId -> (ps : List Par) -> List Value -> yY ps -> (Nat -> Prop) -> Prop
 | _, [], vs, _, φ => vs = [] /\ Nil φ
 | ts, p :: ps, vs, x, φ => ∃ v r φ1 φ2, vs = v :: r /\ ArgO w fz (jL P ts) p v x.1 φ1 /\ jJ P w fz ts.tail ps r x.2 φ2 /\ Two φ φ1 φ2
def zX (w : World) (fz : Nat -> Prop) : (caps : List (Ty × Bool)) -> List Value -> q06 caps -> (Nat -> Prop) -> Prop
 | [], _, _, φ => Nil φ
 | (t, true) :: cs, vs, x, φ => ∃ v r φ1 φ2, vs = v :: r /\ BoxO w fz t v x.1 φ1 /\ zX w fz cs r x.2 φ2 /\ Two φ φ1 φ2
 | (t, false) :: cs, vs, x, φ => zX w fz cs vs.tail x φ
def wW (w : World) (fz : Nat -> Prop) : (ps : List Par) -> List Value -> jQ ps -> (Nat -> Prop) -> Prop
 | [], _, _, φ => Nil φ
 | .mut t :: ps, vs, x, φ => ∃ v r φ1 φ2, vs = v :: r /\ OwL w fz t v.cells.toList x.1 φ1 /\ wW w fz ps r x.2 φ2 /\ Two φ φ1 φ2
 | .ptr t :: ps, vs, x, φ => ∃ v r φ1 φ2, vs = v :: r /\ BoxO w fz t v x.1 φ1 /\ wW w fz ps r x.2 φ2 /\ Two φ φ1 φ2
 | .clo f caps :: ps, vs, x, φ => ∃ (qs : List Value) (r : List Value) (φ1 φ2 : Nat -> Prop), vs = .func (.func f) #[] qs.toArray :: r /\ zX w fz caps qs x.1 φ1 /\ wW w fz ps r x.2 φ2 /\ Two φ φ1 φ2
 | .val _ :: ps, vs, x, φ => wW w fz ps vs.tail x φ
 | .own _ :: ps, vs, x, φ => wW w fz ps vs.tail x φ
 | .cptr _ :: ps, vs, x, φ => wW w fz ps vs.tail x φ
 | .pptr t :: ps, vs, x, φ => ∃ br v0 r φ1 φ2, vs = .pointer (some ⟨br, 0, none⟩) :: r /\ q0K w br v0 /\ BoxO w fz t v0 x.1 φ1 /\ wW w fz ps r x.2 φ2 /\ Two φ φ1 φ2
 | .rclo f caps :: ps, vs, x, φ => ∃ (q0 : Value) (qs : List Value) (r : List Value) (φ1 φ2 : Nat -> Prop), vs = .func (.func f) #[] (q0 :: qs).toArray :: r /\ zX w fz caps qs x.1 φ1 /\ wW w fz ps r x.2 φ2 /\ Two φ φ1 φ2
def q2k (w : World) (fz : Nat -> Prop) (agg : Bool) : (r : RTy) -> Value -> r.D -> (Nat -> Prop) -> Prop
 | .own t, v, x, φ => q1r agg v /\ Ow w fz t v.cells.toList x φ
 | .lst t, v, x, φ => q1r agg v /\ Rd w fz t v.cells.toList x /\ Nil φ
 | .ptr t, v, x, φ => BoxO w fz t v x φ
 | .optr t, v, x, φ => match (show Option t.D from x) with
  | none => v = .pointer none /\ Nil φ
  | some y => BoxO w fz t v y φ
 | .err, v, x, φ => (if (show Bool from x) then ∃ t y, v = .iface t y else v = .nilIface) /\ Nil φ
def ResO (P : Program) (w : World) (fz : Nat -> Prop) : (rs : List RTy) -> List TypeId -> List Value -> ResD rs -> (Nat -> Prop) -> Prop
 | [], ts, vs, _, φ => ts = [] /\ vs = [] /\ Nil φ
 | [r], ts, vs, x, φ => ∃ t v, ts = [t] /\ vs = [v] /\ q2k w fz (aggB P t) r v x φ
 | r :: s :: rs, ts, vs, x, φ => ∃ t tr v vr φ1 φ2, ts = t :: tr /\ vs = v :: vr /\ q2k w fz (aggB P t) r v x.1 φ1 /\ ResO P w fz (s :: rs) tr vr x.2 φ2 /\ Two φ φ1 φ2
def packed (vs : List Value) : Value := match vs with
 | [v] => v
 | vs => .tuple vs.toArray
structure Post (P : Program) (s : Sig) (ts : List TypeId) (w : World) (fz φ : Nat -> Prop) (vals : List Value) (r : s.RetD) (val : Value) (w' : World) : Prop where
 out : ∃ (vs : List Value) (fz' φr φo χ' : Nat -> Prop), val = packed vs /\ ResO P w' fz' s.res ts vs r.1 φr /\ wW w' fz' s.pars vals r.2 φo /\ Two χ' φr φo /\
  (∀ b, χ' b -> φ b \/ w.heap.size <= b) /\ (∀ b, fz b -> fz' b) /\ (∀ b, fz' b -> fz b \/ φ b \/ w.heap.size <= b) /\ (∀ b, χ' b -> ¬ fz' b) /\ (∀ b, fz' b -> b < w'.heap.size) /\ (∀ b, χ' b -> b < w'.heap.size)
 keep : ∀ b, b < w.heap.size -> ¬ φ b -> w'.heap[b]? = w.heap[b]?
 size : w.heap.size <= w'.heap.size
 os : w'.os = w.os
 tape : w'.tape = w.tape
 output : w'.output = w.output
theorem Ow.q6o {w : World} {fz fz' : Nat -> Prop} : ∀ {t : Ty} {cs : List Value} {x : t.D} {φ : Nat -> Prop}, t.pure = true -> Ow w fz t cs x φ -> Ow w fz' t cs x φ
 | .int _, _, _, _, _, h => h
 | .bool, _, _, _, _, h => h
 | .str, _, _, _, _, h => h
 | .one, _, _, _, _, h => h
 | .ls t, _, _, _, hf, _ => by cases hf
 | .sl t, _, _, _, hf, ⟨A, c, e, h⟩ => by
  refine ⟨A, c, e, ?_⟩
  rcases h with h | ⟨b, off, m, e, fr, ψ, h1, h2, h3, h4, h5, h6, h7⟩
  ·exact .inl h
  ·exact .inr ⟨b, off, m, e, fr, ψ, h1, h2, h3, h4, h5, fun i hi => by
    obtain ⟨vs, k1, k2, k3⟩ := h6 i hi
    exact ⟨vs, k1, k2, Ow.q6o (t := t) hf k3⟩, h7⟩
 | .pr a b, cs, x, φ, hf, ⟨c1, c2, φ1, φ2, e, h1, h2, h3, h4⟩ => by
  simp only [Ty.pure, Bool.and_eq_true] at hf
  exact ⟨c1, c2, φ1, φ2, e, Ow.q6o hf.1 h1, Ow.q6o hf.2 h2, h3, h4⟩
theorem Ow.re {w : World} {fz fz' : Nat -> Prop} {t : Ty} {cs : List Value} {x : t.D} {φ : Nat -> Prop} (hf : t.pure = false -> ∀ b, fz b -> fz' b) (h : Ow w fz t cs x φ) : Ow w fz' t cs x φ := by
 cases hp : t.pure with
 | true => exact h.q6o hp
 | false => exact h.more (hf hp)
theorem BoxO.re {w : World} {fz fz' : Nat -> Prop} {t : Ty} {v : Value} {x : t.D} {φ : Nat -> Prop} (hf : t.pure = false -> ∀ b, fz b -> fz' b) (h : BoxO w fz t v x φ) : BoxO w fz' t v x φ := by
 obtain ⟨b, c, e, fr, ψ, h1, h2, h3, h4, h5⟩ := h
 exact ⟨b, c, e, fr, ψ, h1, h2, h3, h4.re hf, h5⟩
theorem OwL.re {w : World} {fz fz' : Nat -> Prop} : ∀ {t : Ty} {cs : List Value} {x : t.D} {φ : Nat -> Prop}, (t.pure = false -> ∀ b, fz b -> fz' b) -> OwL w fz t cs x φ -> OwL w fz' t cs x φ
 | .int _, _, _, _, _, h => h
 | .bool, _, _, _, _, h => h
 | .str, _, _, _, _, h => h
 | .one, _, _, _, _, h => h
 | .ls t, _, _, _, hf, h => Ow.re (t := .ls t) hf h
 | .sl t, _, _, _, hf, h => Ow.re (t := .sl t) hf h
 | .pr a b, cs, x, φ, hf, ⟨c1, c2, φ1, φ2, e, h1, h2, h3⟩ =>
  ⟨c1, c2, φ1, φ2, e, OwL.re (fun h => hf (by simp [Ty.pure, h])) h1, OwL.re (fun h => hf (by simp [Ty.pure, h])) h2, h3⟩
theorem q0p.more {w : World} {fz fz' : Nat -> Prop} (hf : ∀ b, fz b -> fz' b) : ∀ {caps : List (Ty × Bool)} {vs : List Value} {x : q3A caps} {φ : Nat -> Prop}, q0p w fz caps vs x φ -> q0p w fz' caps vs x φ
 | [], _, _, _, h => h
 | (t, true) :: cs, vs, x, φ, ⟨v, r, φ1, φ2, e, h1, h2, h3⟩ => ⟨v, r, φ1, φ2, e, h1.re fun _ => hf, q0p.more hf h2, h3⟩
 | (t, false) :: cs, vs, x, φ, ⟨v, r, e, ⟨b, c, e', fr, h1, h2, h3, h4⟩, h5⟩ => ⟨v, r, e, ⟨b, c, e', fr, h1, h2, hf b h3, Rd.mono (fun b h => ⟨hf b h, rfl⟩) h4⟩, q0p.more hf h5⟩
theorem ArgO.more {w : World} {fz fz' : Nat -> Prop} (hf : ∀ b, fz b -> fz' b) {agg : Bool} {p : Par} {v : Value} {x : p.D} {φ : Nat -> Prop} (h : ArgO w fz agg p v x φ) : ArgO w fz' agg p v x φ := by
 cases p with
 | val t => exact ⟨h.1, Rd.mono (fun b h => ⟨hf b h, rfl⟩) h.2.1, h.2.2⟩
 | own t => exact ⟨h.1, h.2.more hf⟩
 | «mut» t => exact ⟨h.1, h.2.more hf⟩
 | ptr t => exact BoxO.re (fun _ => hf) h
 | cptr t =>
  obtain ⟨⟨b, c, e', fr, h1, h2, h3, h4⟩, h5⟩ := h
  exact ⟨⟨b, c, e', fr, h1, h2, hf b h3, Rd.mono (fun b h => ⟨hf b h, rfl⟩) h4⟩, h5⟩
 | clo f caps =>
  obtain ⟨ps, e, h⟩ := h
  exact ⟨ps, e, h.more hf⟩
 | pptr t =>
  obtain ⟨br, v0, e, h1, h2, h3⟩ := h
  exact ⟨br, v0, e, h1, hf br h2, BoxO.re (fun _ => hf) h3⟩
 | rclo f caps =>
  obtain ⟨br, ps, e, h1, h⟩ := h
  exact ⟨br, ps, e, hf br h1, h.more hf⟩
theorem jJ.more {P : Program} {w : World} {fz fz' : Nat -> Prop} (hf : ∀ b, fz b -> fz' b) : ∀ {ps : List Par} {ts : List TypeId} {vs : List Value} {x : yY ps} {φ : Nat -> Prop}, jJ P w fz ts ps vs x φ -> jJ P w fz' ts ps vs x φ
 | [], ts, _, _, _, h => by cases ts <;> exact h
 | p :: ps, ts, vs, x, φ, h => by
  have h : ∃ v r φ1 φ2, vs = v :: r /\ ArgO w fz (jL P ts) p v x.1 φ1 /\ jJ P w fz ts.tail ps r x.2 φ2 /\ Two φ φ1 φ2 := by cases ts <;> exact h
  obtain ⟨v, r, φ1, φ2, e, h1, h2, h3⟩ := h
  have : ∃ v r φ1 φ2, vs = v :: r /\ ArgO w fz' (jL P ts) p v x.1 φ1 /\ jJ P w fz' ts.tail ps r x.2 φ2 /\ Two φ φ1 φ2 := ⟨v, r, φ1, φ2, e, h1.more hf, jJ.more hf h2, h3⟩
  cases ts <;> exact this
theorem zX.re {w : World} {fz fz' : Nat -> Prop} : ∀ {caps : List (Ty × Bool)} {vs : List Value} {x : q06 caps} {φ : Nat -> Prop}, (q4N caps = true -> ∀ b, fz b -> fz' b) -> zX w fz caps vs x φ -> zX w fz' caps vs x φ
 | [], _, _, _, _, h => h
 | (t, true) :: cs, vs, x, φ, hf, ⟨v, r, φ1, φ2, e, h1, h2, h3⟩ => ⟨v, r, φ1, φ2, e, h1.re fun h => hf (by simp [q4N, h]), zX.re (fun h => hf (by simp [q4N, h])) h2, h3⟩
 | (t, false) :: cs, vs, x, φ, hf, h => zX.re (caps := cs) (fun h => hf (by simp [q4N, h])) h
theorem wW.re {w : World} {fz fz' : Nat -> Prop} : ∀ {ps : List Par} {vs : List Value} {x : jQ ps} {φ : Nat -> Prop}, (zn ps = true -> ∀ b, fz b -> fz' b) -> wW w fz ps vs x φ -> wW w fz' ps vs x φ
 | [], _, _, _, _, h => h
 | .mut t :: ps, vs, x, φ, hf, ⟨v, r, φ1, φ2, e, h1, h2, h3⟩ => ⟨v, r, φ1, φ2, e, h1.re fun h => hf (by simp [zn, h]), wW.re (fun h => hf (by simp [zn, h])) h2, h3⟩
 | .ptr t :: ps, vs, x, φ, hf, ⟨v, r, φ1, φ2, e, h1, h2, h3⟩ => ⟨v, r, φ1, φ2, e, h1.re fun h => hf (by simp [zn, h]), wW.re (fun h => hf (by simp [zn, h])) h2, h3⟩
 | .clo f caps :: ps, vs, x, φ, hf, ⟨qs, r, φ1, φ2, e, h1, h2, h3⟩ => ⟨qs, r, φ1, φ2, e, h1.re fun h => hf (by simp [zn, h]), wW.re (fun h => hf (by simp [zn, h])) h2, h3⟩
 | .val _ :: ps, vs, x, φ, hf, h => wW.re (ps := ps) (fun h => hf (by simp [zn, h])) h
 | .own _ :: ps, vs, x, φ, hf, h => wW.re (ps := ps) (fun h => hf (by simp [zn, h])) h
 | .cptr _ :: ps, vs, x, φ, hf, h => wW.re (ps := ps) (fun h => hf (by simp [zn, h])) h
 | .pptr t :: ps, vs, x, φ, hf, ⟨br, v0, r, φ1, φ2, e, h0, h1, h2, h3⟩ => ⟨br, v0, r, φ1, φ2, e, h0, h1.re fun h => hf (by simp [zn, h]), wW.re (fun h => hf (by simp [zn, h])) h2, h3⟩
 | .rclo f caps :: ps, vs, x, φ, hf, ⟨q0, qs, r, φ1, φ2, e, h1, h2, h3⟩ => ⟨q0, qs, r, φ1, φ2, e, h1.re fun h => hf (by simp [zn, h]), wW.re (fun h => hf (by simp [zn, h])) h2, h3⟩
theorem q2k.re {w : World} {fz fz' : Nat -> Prop} {agg : Bool} {r : RTy} {v : Value} {x : r.D} {φ : Nat -> Prop} (hf : lsR r = true -> ∀ b, fz b -> fz' b) (h : q2k w fz agg r v x φ) : q2k w fz' agg r v x φ := by
 cases r with
 | own t => exact ⟨h.1, h.2.re fun e => hf (by simp [lsR, e])⟩
 | lst t => exact ⟨h.1, Rd.mono (fun b hb => ⟨hf rfl b hb, rfl⟩) h.2.1, h.2.2⟩
 | ptr t => exact BoxO.re (fun e => hf (by simp [lsR, e])) h
 | optr t =>
  have h : (match (show Option t.D from x) with
   | none => v = .pointer none /\ Nil φ
   | some y => BoxO w fz t v y φ) := h
  show (match (show Option t.D from x) with
   | none => v = .pointer none /\ Nil φ
   | some y => BoxO w fz' t v y φ)
  split
  ·rename_i e; rw [e] at h; exact h
  ·rename_i y e; rw [e] at h; exact BoxO.re (fun e => hf (by simp [lsR, e])) h
 | err => exact h
theorem ResO.re {P : Program} {w : World} {fz fz' : Nat -> Prop} : ∀ {rs : List RTy} {ts : List TypeId} {vs : List Value} {x : ResD rs} {φ : Nat -> Prop}, (q33 rs = true -> ∀ b, fz b -> fz' b) -> ResO P w fz rs ts vs x φ -> ResO P w fz' rs ts vs x φ
 | [], _, _, _, _, _, h => h
 | [r], ts, vs, x, φ, hf, ⟨t, v, e1, e2, h⟩ => ⟨t, v, e1, e2, q2k.re (fun h => hf (by simp [q33, h])) h⟩
 | r :: s :: rs, ts, vs, x, φ, hf, ⟨t, tr, v, vr, φ1, φ2, e1, e2, h1, h2, h3⟩ => ⟨t, tr, v, vr, φ1, φ2, e1, e2, q2k.re (fun h => hf (by simp [q33, h])) h1, ResO.re (fun h => hf (by simp only [q33] at h ⊢; simp [h])) h2, h3⟩
def q3M (P : Program) (f : FuncId) (args : Array Value) (w : World) (R : Value -> World -> Prop) : Prop :=
 (∃ v w', (callFunc f args).run P w = .ok (.value v) w' /\ R v w') \/
 ((callFunc f args).run P w = .ok (.enter f args) w /\ Calls P f args w fun e w' => ∃ v, e = .returned v /\ R v w')
def q2U (w : World) : Option Value -> List Par -> List Value -> Prop
 | pv, .rclo _ _ :: ps, vs => ∃ v0 br g r rest, pv = some v0 /\ vs = .func g #[] (.pointer (some ⟨br, 0, none⟩) :: r).toArray :: rest /\ q0K w br v0 /\ q2U w none ps rest
 | _, .ptr _ :: ps, vs => q2U w vs.head? ps vs.tail
 | _, .val _ :: ps, vs | _, .own _ :: ps, vs | _, .mut _ :: ps, vs | _, .cptr _ :: ps, vs | _, .clo _ _ :: ps, vs | _, .pptr _ :: ps, vs => q2U w none ps vs.tail
 | _, [], _ => True
def q5G (P : Program) (V : Nat -> Sig) (gl : Nat -> Obj -> Prop) (v : Nat) (x : yY (V v).pars) (r : (V v).RetD) : Prop :=
 ∀ (fn : Func) (w : World) (fz φ : Nat -> Prop) (vals : List Value), P.funcs[(V v).fn]? = some fn -> jJ P w fz fn.params.toList (V v).pars vals x φ -> (∀ b, φ b -> ¬ fz b) -> (∀ b, fz b -> b < w.heap.size) ->
  (∀ b o, gl b o -> w.heap[b]? = some o /\ fz b) -> q2U w none (V v).pars vals -> q3M P (V v).fn vals.toArray w fun val w' => Post P (V v) fn.resultTypes.toList w fz φ vals r val w'
def FOk (P : Program) (V : Nat -> Sig) (gl : Nat -> Obj -> Prop) (F : Tr.Fs V) : Prop := ∀ v x r, F v x = some r -> q5G P V gl v x r
end Go.Den
namespace Go.Den
open Go

theorem q8m {w : World} {fz : Nat -> Prop} : ∀ {t : Ty} {vs : List Value} {x : t.D} {φ : Nat -> Prop} {o : Nat} {l}, Ow w fz t vs x φ -> leaf t o = some l ->
  ∃ v, ∃ ψ : Nat -> Prop, vs[o]? = some v /\ Ow w fz (.sl l.1) [v] (l.2.1 x) ψ /\ (∀ b, ψ b -> φ b) /\ ∀ (w' : World) (fz' : Nat -> Prop) (ys : List l.1.D) (ψ' : Nat -> Prop), (∀ b, fz b -> fz' b /\ w'.heap[b]? = w.heap[b]?) -> (∀ b, φ b -> ¬ ψ b -> w'.heap[b]? = w.heap[b]?) -> Ow w' fz' (.sl l.1) [v] ys ψ' -> (∀ b, ψ' b -> φ b -> ψ b) ->
   Ow w' fz' t vs (l.2.2 x ys) (fun b => ψ' b \/ (φ b /\ ¬ ψ b))
 | .sl t, vs, x, φ, 0, l, h, hl => by
  simp only [leaf, Option.some.injEq] at hl
  subst hl
  have h' := h
  obtain ⟨A, c, e, _⟩ := h
  subst e
  exact ⟨_, φ, rfl, h', fun _ h => h, fun w' fz' ys ψ' _ _ hw _ => hw.iff fun b => ⟨fun h => h.elim id fun h => absurd h.1 h.2, .inl⟩⟩
 | .sl t, _, _, _, _ + 1, _, _, hl => by simp [leaf] at hl
 | .int _, _, _, _, _, _, _, hl => by simp [leaf] at hl
 | .bool, _, _, _, _, _, _, hl => by simp [leaf] at hl
 | .str, _, _, _, _, _, _, hl => by simp [leaf] at hl
 | .one, _, _, _, _, _, _, hl => by simp [leaf] at hl
 | .ls _, _, _, _, _, _, _, hl => by simp [leaf] at hl
 | .pr a b, vs, x, φ, o, l, ⟨c1, c2, φ1, φ2, e, h1, h2, hd, hφ⟩, hl => by
  subst e
  simp only [leaf] at hl
  cases hb : Nat.blt o a.nc with
  | true =>
   rw [hb] at hl
   simp only [cT, Option.map_eq_some_iff] at hl
   obtain ⟨l', hl', rfl⟩ := hl
   obtain ⟨v, ψ, k1, k2, k3, k4⟩ := q8m h1 hl'
   have ho : o < a.nc := Nat.le_of_ble_eq_true hb
   refine ⟨v, ψ, by rw [List.getElem?_append_left (by rw [h1.len]; exact ho)]; exact k1, k2, fun b h => (hφ b).2 (.inl (k3 b h)), fun w' fz' ys ψ' hF hk hw hs => ?_⟩
   have q1 := k4 w' fz' ys ψ' hF (fun b hb hn => hk b ((hφ b).2 (.inl hb)) hn) hw fun b h h' => hs b h ((hφ b).2 (.inl h'))
   have q2 := h2.mono (fun b hb => hk b ((hφ b).2 (.inr hb)) fun h => hd b (k3 b h) hb) hF
   refine ⟨c1, c2, _, φ2, rfl, q1, q2, fun b hb hb' => ?_, fun b => ?_⟩
   ·rcases hb with hb | hb
    ·exact hd b (k3 b (hs b hb ((hφ b).2 (.inr hb')))) hb'
    ·exact hd b hb.1 hb'
   ·show (ψ' b \/ (φ b /\ ¬ ψ b)) ↔ _
    rw [hφ]
    exact ⟨fun h => h.elim (fun h => .inl (.inl h)) fun h => h.1.elim (fun h' => .inl (.inr ⟨h', h.2⟩)) .inr, fun h => h.elim (fun h => h.elim .inl fun h => .inr ⟨.inl h.1, h.2⟩) fun h => .inr ⟨.inr h, fun h' => hd b (k3 b h') h⟩⟩
  | false =>
   rw [hb] at hl
   simp only [cF, Option.map_eq_some_iff] at hl
   obtain ⟨l', hl', rfl⟩ := hl
   obtain ⟨v, ψ, k1, k2, k3, k4⟩ := q8m h2 hl'
   have ho : a.nc <= o := by
    rcases Nat.lt_or_ge o a.nc with h | h
    ·rw [show Nat.blt o a.nc = true from Nat.ble_eq_true_of_le h] at hb; cases hb
    ·exact h
   refine ⟨v, ψ, by rw [List.getElem?_append_right (by rw [h1.len]; exact ho), h1.len]; exact k1, k2, fun b h => (hφ b).2 (.inr (k3 b h)), fun w' fz' ys ψ' hF hk hw hs => ?_⟩
   have q1 := k4 w' fz' ys ψ' hF (fun b hb hn => hk b ((hφ b).2 (.inr hb)) hn) hw fun b h h' => hs b h ((hφ b).2 (.inr h'))
   have q2 := h1.mono (fun b hb => hk b ((hφ b).2 (.inl hb)) fun h => hd b hb (k3 b h)) hF
   refine ⟨c1, c2, φ1, _, rfl, q2, q1, fun b hb hb' => ?_, fun b => ?_⟩
   ·rcases hb' with hb' | hb'
    ·exact hd b hb (k3 b (hs b hb' ((hφ b).2 (.inl hb))))
    ·exact hd b hb hb'.1
   ·show (ψ' b \/ (φ b /\ ¬ ψ b)) ↔ _
    rw [hφ]
    exact ⟨fun h => h.elim (fun h => .inr (.inl h)) fun h => h.1.elim .inl fun h' => .inr (.inr ⟨h', h.2⟩), fun h => h.elim (fun h => .inr ⟨.inl h, fun h' => hd b h (k3 b h')⟩) fun h => h.elim .inl fun h => .inr ⟨.inr h.1, h.2⟩⟩
theorem qaR {w : World} {fz : Nat -> Prop} {t : Ty} {A : Option Addr} {n c : Nat} {xs : List t.D} {φ : Nat -> Prop} {i o : Nat} {l} (h : Ow w fz (.sl t) [.slice A n c] xs φ) (hi : i < List.length xs) (hl : leaf t o = some l) :
  ∃ b off v, ∃ ψ : Nat -> Prop, A = some ⟨b, off, none⟩ /\ At w b (off + i * t.nc + o) [v] /\ Ow w fz (.sl l.1) [v] (l.2.1 (nth t xs i)) ψ /\ (∀ b, ψ b -> φ b) /\
   ∀ (w' : World) (fz' : Nat -> Prop) (ys : List l.1.D) (ψ' : Nat -> Prop), (∀ b, fz b -> fz' b /\ w'.heap[b]? = w.heap[b]?) -> (∀ b, φ b -> ¬ ψ b -> w'.heap[b]? = w.heap[b]?) -> Ow w' fz' (.sl l.1) [v] ys ψ' -> (∀ b, ψ' b -> φ b -> ψ b) ->
   Ow w' fz' (.sl t) [.slice A n c] (xs.set i (l.2.2 (nth t xs i) ys)) (fun b => ψ' b \/ (φ b /\ ¬ ψ b)) := by
 obtain ⟨A', c', e, h⟩ := h
 simp only [List.cons.injEq, and_true, Value.slice.injEq] at e
 obtain ⟨rfl, rfl, rfl⟩ := e
 rcases h with ⟨_, h0, _⟩ | ⟨b0, off, mm, e, fr, Ψ, rfl, hm, hmu, hs, hle, hel, hnb, hdj, hφ⟩
 ·omega
 obtain ⟨vs, hvl, hat, how⟩ := hel i hi
 obtain ⟨v, ψ, k1, k2, k3, k4⟩ := q8m how hl
 have hov : o < vs.length := (List.getElem?_eq_some_iff.1 k1).1
 have hψφ : ∀ b, ψ b -> φ b := fun b hb => (hφ b).2 (.inr ⟨i, hi, k3 b hb⟩)
 refine ⟨b0, off, v, ψ, rfl, ?_, k2, hψφ, fun w' fz' ys ψ' hF hk hw hs' => ?_⟩
 ·obtain ⟨cc, ee, ff, q1, q2, q3⟩ := hat
  refine ⟨cc, ee, ff, q1, by simp only [List.length_singleton]; omega, fun j hj => ?_⟩
  have : j = 0 := by simpa using hj
  subst this
  have := q3 o hov
  rw [Nat.add_zero, this]
  have k1' := (List.getElem?_eq_some_iff.1 k1).2
  simp [k1']
 ·have hb0 : w'.heap[b0]? = w.heap[b0]? := hk b0 ((hφ b0).2 (.inl rfl)) fun h => hnb i hi (k3 b0 h)
  have hlen : List.length (xs.set i (l.2.2 (nth t xs i) ys)) = List.length xs := List.length_set
  refine ⟨_, c, by rw [hlen], .inr ⟨b0, off, mm, e, fr, fun j b => if j = i then (ψ' b \/ (Ψ i b /\ ¬ ψ b)) else Ψ j b, rfl, hb0.trans hm, hmu, hs, by rw [hlen]; exact hle, fun j hj => ?_, fun j hj => ?_, fun j j' b hj hj' hne hb hb' => ?_, fun b => ?_⟩⟩
  ·rw [hlen] at hj
   by_cases hji : j = i
   ·subst hji
    refine ⟨vs, hvl, hat.mono hb0, ?_⟩
    have e1 : nth t (xs.set j (l.2.2 (nth t xs j) ys)) j = l.2.2 (nth t xs j) ys := by
     unfold nth
     rw [List.getD_eq_getElem?_getD, List.getElem?_set_self hj]; rfl
    rw [e1]
    simp only [if_true]
    exact k4 w' fz' ys ψ' hF (fun b hb hn => hk b ((hφ b).2 (.inr ⟨j, hj, hb⟩)) hn) hw fun b hb hb' => hs' b hb ((hφ b).2 (.inr ⟨j, hj, hb'⟩))
   ·obtain ⟨us, q1, q2, q3⟩ := hel j hj
    refine ⟨us, q1, q2.mono hb0, ?_⟩
    have e1 : nth t (xs.set i (l.2.2 (nth t xs i) ys)) j = nth t xs j := by
     unfold nth
     rw [List.getD_eq_getElem?_getD, List.getElem?_set_ne (fun e => hji e.symm), <- List.getD_eq_getElem?_getD]
    rw [e1]
    simp only [hji, if_false]
    exact q3.mono (fun b hb => hk b ((hφ b).2 (.inr ⟨j, hj, hb⟩)) fun h => hdj i j b hi hj (fun e => hji e.symm) (k3 b h) hb) hF
  ·rw [hlen] at hj
   by_cases hji : j = i
   ·subst hji
    simp only [if_true]
    rintro (h | h)
    ·exact hnb j hj (k3 _ (hs' _ h ((hφ b0).2 (.inl rfl))))
    ·exact hnb j hj h.1
   ·simp only [hji, if_false]; exact hnb j hj
  ·rw [hlen] at hj hj'
   have hx : ∀ j, j < List.length xs -> j ≠ i -> (ψ' b \/ (Ψ i b /\ ¬ ψ b)) -> ¬ Ψ j b := fun j hj hji h h' => by
    rcases h with h | h
    ·exact hdj i j b hi hj (fun e => hji e.symm) (k3 b (hs' b h ((hφ b).2 (.inr ⟨j, hj, h'⟩)))) h'
    ·exact hdj i j b hi hj (fun e => hji e.symm) h.1 h'
   by_cases hji : j = i
   ·subst hji
    have hji' : j' ≠ j := fun e => hne e.symm
    simp only [if_true] at hb
    simp only [hji', if_false] at hb'
    exact hx j' hj' hji' hb hb'
   ·simp only [hji, if_false] at hb
    by_cases hji' : j' = i
    ·subst hji'
     simp only [if_true] at hb'
     exact hx j hj hji hb' hb
    ·simp only [hji', if_false] at hb'
     exact hdj j j' b hj hj' hne hb hb'
  ·show (ψ' b \/ (φ b /\ ¬ ψ b)) ↔ _
   rw [hφ, hlen]
   constructor
   ·rintro (h | ⟨h | ⟨j, hj, h⟩, hn⟩)
    ·exact .inr ⟨i, hi, by simp only [if_true]; exact .inl h⟩
    ·exact .inl h
    ·by_cases hji : j = i
     ·subst hji; exact .inr ⟨j, hj, by simp only [if_true]; exact .inr ⟨h, hn⟩⟩
     ·exact .inr ⟨j, hj, by simp only [hji, if_false]; exact h⟩
   ·rintro (h | ⟨j, hj, h⟩)
    ·exact .inr ⟨.inl h, fun h' => hnb i hi (k3 _ (h ▸ h'))⟩
    ·by_cases hji : j = i
     ·subst hji
      simp only [if_true] at h
      exact h.elim .inl fun h => .inr ⟨.inr ⟨j, hj, h.1⟩, h.2⟩
     ·simp only [hji, if_false] at h
      exact .inr ⟨.inr ⟨j, hj, h⟩, fun h' => hdj i j b hi hj (fun e => hji e.symm) (k3 b h') h⟩
end Go.Den
namespace Go.Den
open Go
def MutE (m : M) (w' : World) (fz' : Nat -> Prop) (κ : Nat) (s : Slot) (φ : Nat -> Prop) : Prop := ∃ (t : Ty) (xs ys : List t.D) (ver : Nat), s = .live (.row t ys (ver + 1)) /\ m.h κ = .live (.row t xs ver) /\ Ow w' fz' (.sl t) [slV (m.ρ κ)] ys φ
section
variable {V : Nat -> Sig} {F : Tr.Fs V} {m : M}
def Back (V : Nat -> Sig) (F : Tr.Fs V) (m : M) (t : Ty) (vs : List Value) (pl : List Pla) (φ : Nat -> Prop) : Prop :=
 ∀ (w' : World) (fz' : Nat -> Prop) (x' : t.D) (φ' : Nat -> Prop), (∀ b, m.fz b -> fz' b /\ w'.heap[b]? = m.w.heap[b]?) -> (∀ κ ∈ qD pl, ∀ b, m.φ κ b -> ¬ φ b -> w'.heap[b]? = m.w.heap[b]?) -> OwL w' fz' t vs x' φ' -> (∀ κ ∈ qD pl, ∀ b, φ' b -> m.φ κ b -> φ b) ->
  ∀ (tail : List Pla) (u : Upd) (rest : List Pla) (rd : List Nat), (putM (V := V) t x' (pl ++ tail)).run F m.h = some ((u, rest), rd) -> rest = tail /\ keysOf u = qD pl /\
   ∃ Φ : Nat -> Nat -> Prop, (∀ p ∈ u, MutE m w' fz' p.1 p.2 (Φ p.1)) /\ (∀ κ ∈ qD pl, ∀ b, Φ κ b -> φ' b \/ (m.φ κ b /\ ¬ φ b)) /\ ∀ κ κ' b, κ ∈ qD pl -> κ' ∈ qD pl -> κ ≠ κ' -> Φ κ b -> ¬ Φ κ' b
theorem q5u (a b : List Pla) : qD (a ++ b) = qD a ++ qD b := by simp [qD]
theorem q4b {t : Ty} {vs : List Value} {φ : Nat -> Prop} (hp : ∀ (x' : t.D) (ps : List Pla), putM (V := V) t x' ps = .ret ([], ps)) : Back V F m t vs [] φ := fun w' fz' x' φ' _ _ _ _ tail u rest rd hr => by
 rw [List.nil_append, hp] at hr
 obtain ⟨e, _⟩ := Tr.q9 hr
 obtain ⟨rfl, rfl⟩ := Prod.mk.inj e
 exact ⟨rfl, rfl, fun _ _ => False, fun p h => (by cases h), fun κ h => (by cases h), fun κ _ _ h => (by cases h)⟩
theorem q85 (H : HR m) : ∀ {t : Ty} {cs : List SV} {vs : List Value} {x : t.D} {rest : List SV} {pl : List Pla} {rd : List Nat}, All2 m.SR cs vs -> (mutD (V := V) t cs).run F m.h = some ((x, rest, pl), rd) -> (qD pl).Nodup ->
  ∃ v1 v2, ∃ φ : Nat -> Prop, vs = v1 ++ v2 /\ Ow m.w m.fz t v1 x φ /\ All2 m.SR rest v2 /\ (∀ b, φ b -> ∃ κ ∈ qD pl, m.φ κ b) /\ Back V F m t v1 pl φ
 | .int k, cs, vs, x, rest, pl, rd, ha, hr, hn => by
  match cs, vs, ha, hr with
  | .int l n :: r, v :: vs, ha, hr =>
   simp only [mutD] at hr
   rcases Tr.yI hr with ⟨hk, hr⟩ | ⟨_, hr⟩
   ·obtain ⟨e, _⟩ := Tr.q9 hr
    obtain ⟨rfl, rfl, rfl⟩ := inj3 e
    have : k = l := of_decide_eq_true hk
    subst this
    exact ⟨[v], vs, fun _ => False, rfl, ⟨by rw [show v = _ from ha.1], fun _ h => h⟩, ha.2, fun _ h => h.elim, q4b fun _ _ => rfl⟩
   ·exact (Tr.q8 hr).elim
  | .bool _ :: _, _, _, hr | .str _ :: _, _, _, hr | .lst _ _ :: _, _, _, hr | .own _ :: _, _, _, hr | .sub _ _ _ :: _, _, _, hr | .view _ _ _ _ :: _, _, _, hr | .ptr _ _ :: _, _, _, hr | .rptr _ _ _ :: _, _, _, hr | .lptr _ _ _ _ :: _, _, _, hr | .vptr _ _ _ _ _ _ :: _, _, _, hr | .clo _ _ :: _, _, _, hr | .nils :: _, _, _, hr | .nilp :: _, _, _, hr | .nilf :: _, _, _, hr | .err _ :: _, _, _, hr | .undef :: _, _, _, hr | [], _, _, hr => exact (Tr.q8 hr).elim
 | .bool, cs, vs, x, rest, pl, rd, ha, hr, hn => by
  match cs, vs, ha, hr with
  | .bool b :: r, v :: vs, ha, hr =>
   obtain ⟨e, _⟩ := Tr.q9 hr
   obtain ⟨rfl, rfl, rfl⟩ := inj3 e
   exact ⟨[v], vs, fun _ => False, rfl, ⟨by rw [show v = _ from ha.1], fun _ h => h⟩, ha.2, fun _ h => h.elim, q4b fun _ _ => rfl⟩
  | .int _ _ :: _, _, _, hr | .str _ :: _, _, _, hr | .lst _ _ :: _, _, _, hr | .own _ :: _, _, _, hr | .sub _ _ _ :: _, _, _, hr | .view _ _ _ _ :: _, _, _, hr | .ptr _ _ :: _, _, _, hr | .rptr _ _ _ :: _, _, _, hr | .lptr _ _ _ _ :: _, _, _, hr | .vptr _ _ _ _ _ _ :: _, _, _, hr | .clo _ _ :: _, _, _, hr | .nils :: _, _, _, hr | .nilp :: _, _, _, hr | .nilf :: _, _, _, hr | .err _ :: _, _, _, hr | .undef :: _, _, _, hr | [], _, _, hr => exact (Tr.q8 hr).elim
 | .str, cs, vs, x, rest, pl, rd, ha, hr, hn => by
  match cs, vs, ha, hr with
  | .str b :: r, v :: vs, ha, hr =>
   obtain ⟨e, _⟩ := Tr.q9 hr
   obtain ⟨rfl, rfl, rfl⟩ := inj3 e
   exact ⟨[v], vs, fun _ => False, rfl, ⟨by rw [show v = _ from ha.1], fun _ h => h⟩, ha.2, fun _ h => h.elim, q4b fun _ _ => rfl⟩
  | .int _ _ :: _, _, _, hr | .bool _ :: _, _, _, hr | .lst _ _ :: _, _, _, hr | .own _ :: _, _, _, hr | .sub _ _ _ :: _, _, _, hr | .view _ _ _ _ :: _, _, _, hr | .ptr _ _ :: _, _, _, hr | .rptr _ _ _ :: _, _, _, hr | .lptr _ _ _ _ :: _, _, _, hr | .vptr _ _ _ _ _ _ :: _, _, _, hr | .clo _ _ :: _, _, _, hr | .nils :: _, _, _, hr | .nilp :: _, _, _, hr | .nilf :: _, _, _, hr | .err _ :: _, _, _, hr | .undef :: _, _, _, hr | [], _, _, hr => exact (Tr.q8 hr).elim
 | .one, cs, vs, x, rest, pl, rd, ha, hr, hn => by
  have hr : (Tr.ret (V := V) (((), cs, []) : Unit × List SV × List Pla)).run F m.h = some ((x, rest, pl), rd) := by cases cs <;> exact hr
  obtain ⟨e, _⟩ := Tr.q9 hr
  obtain ⟨rfl, rfl, rfl⟩ := inj3 e
  exact ⟨[], vs, fun _ => False, rfl, ⟨rfl, fun _ h => h⟩, ha, fun _ h => h.elim, q4b fun _ _ => rfl⟩
 | .ls u, cs, vs, x, rest, pl, rd, ha, hr, hn => by
  cases cs <;> exact (Tr.q8 hr).elim
 | .sl u, cs, vs, x, rest, pl, rd, ha, hr, hn => by
  match cs, vs, ha, hr with
  | .nils :: r, v :: vs, ha, hr =>
   obtain ⟨e, _⟩ := Tr.q9 hr
   obtain ⟨rfl, rfl, rfl⟩ := inj3 e
   refine ⟨[v], vs, fun _ => False, rfl, ⟨none, 0, by rw [show v = _ from ha.1]; rfl, .inl ⟨rfl, rfl, rfl, fun _ h => h⟩⟩, ha.2, fun _ h => h.elim, fun w' fz' x' φ' _ _ _ _ tail u' rest' rd' hr' => ?_⟩
   obtain ⟨e, _⟩ := Tr.q9 hr'
   obtain ⟨rfl, rfl⟩ := Prod.mk.inj e
   exact ⟨rfl, rfl, fun _ _ => False, fun p h => (by cases h), fun κ h => (by cases h), fun κ _ _ h => (by cases h)⟩
  | .own κ :: r, v :: vs, ha, hr =>
   obtain ⟨t, xs, ver, r0, hκ, h1, _⟩ := jD (f := fun t xs _ => (Tr.wH (q1J t u xs)).bind fun ys => .ret (ys, r, [some (κ, none)])) (fun _ _ _ => rfl) (fun s hs => by rcases s with _ | _ | (_ | _ | ⟨t, xs, v'⟩) <;> first | rfl | exact absurd rfl (hs t xs v')) hr
   obtain ⟨ys, r1, r2, h2, h3, _⟩ := Tr.bind_some h1
   obtain ⟨h2, _⟩ := Tr.yu h2
   obtain ⟨e, rfl⟩ := q2q h2
   subst e
   obtain ⟨e, _⟩ := Tr.q9 h3
   obtain ⟨rfl, rfl, rfl⟩ := inj3 e
   have hv : v = slV (m.ρ κ) := ha.1.2
   refine ⟨[v], vs, m.φ κ, rfl, by rw [hv]; exact (H.res κ _ hκ).1, ha.2, fun b hb => ⟨κ, by simp [qD], hb⟩, fun w' fz' x' φ' _ _ hw _ tail u' rest' rd' hr' => ?_⟩
   obtain ⟨t', xs', ver', r', hκ', h1', _⟩ := jD (f := fun _ _ ver => .ret ([(κ, .live (.row t x' (ver + 1)))], tail)) (fun _ _ _ => rfl) (fun s hs => by rcases s with _ | _ | (_ | _ | ⟨t, xs, v'⟩) <;> first | rfl | exact absurd rfl (hs t xs v')) hr'
   rw [hκ] at hκ'
   cases hκ'
   obtain ⟨e, _⟩ := Tr.q9 h1'
   obtain ⟨rfl, rfl⟩ := Prod.mk.inj e
   refine ⟨rfl, rfl, fun _ => φ', fun p hp => ?_, fun κ' _ b hb => .inl hb, fun κ1 κ2 b h1 h2 hne => ?_⟩
   ·simp only [List.mem_singleton] at hp
    subst hp
    exact ⟨t, _, x', ver, rfl, hκ, by rw [<- hv]; exact hw⟩
   ·simp only [qD, List.filterMap_cons, Option.map_some, List.filterMap_nil, List.mem_singleton] at h1 h2
    exact absurd (h1.trans h2.symm) hne
  | .view κ ver i o :: r, v :: vs, ha, hr =>
   obtain ⟨t, xs, ver', r0, hκ, h1, _⟩ := jD (f := fun t xs v => bif Nat.beq v ver then (match leaf t o with
    | some l => (Tr.wH (q1J l.1 u (l.2.1 (nth t xs i)))).bind fun ys => .ret (ys, r, [some (κ, some (i, o))])
    | none => .no) else .no) (fun _ _ _ => rfl) (fun s hs => by rcases s with _ | _ | (_ | _ | ⟨t, xs, v'⟩) <;> first | rfl | exact absurd rfl (hs t xs v')) hr
   obtain ⟨hver, h1⟩ := qo h1
   have hver : ver' = ver := Nat.eq_of_beq_eq_true hver
   split at h1
   ·rename_i l hl
    obtain ⟨ys, r1, r2, h2, h3, _⟩ := Tr.bind_some h1
    obtain ⟨h2, _⟩ := Tr.yu h2
    obtain ⟨e, rfl⟩ := q2q h2
    subst e
    obtain ⟨e, _⟩ := Tr.q9 h3
    obtain ⟨rfl, rfl, rfl⟩ := inj3 e
    obtain ⟨hu, _, hv⟩ := ha.1
    obtain ⟨hi, b, off, hA, hat⟩ := (hv t xs ver' hκ).2 hver.symm
    obtain ⟨b', off', v', ψ, hA', hat', q1, q2, q3⟩ := qaR (H.res κ _ hκ).1 hi hl
    have hA'' : (m.ρ κ).A = some ⟨b', off', none⟩ := hA'
    rw [hA] at hA''
    cases hA''
    have hvv : v' = v := by
     have e1 := hat.cell (j := 0) (by simp)
     have e2 := hat'.cell (j := 0) (by simp)
     rw [e1] at e2
     simpa using e2.symm
    subst hvv
    refine ⟨[v'], vs, ψ, rfl, q1, ha.2, fun b hb => ⟨κ, by simp [qD], q2 b hb⟩, fun w' fz' x' φ' hF hk hw hs tail u' rest' rd' hr' => ?_⟩
    obtain ⟨t', xs', ver'', r', hκ', h1', _⟩ := jD (f := fun t xs ver => match leaf t o with
     | some l' => (Tr.wH (q1J l.1 l'.1 x')).bind fun ys => .ret ([(κ, .live (.row t (xs.set i (l'.2.2 (nth t xs i) ys)) (ver + 1)))], tail)
     | none => .no) (fun _ _ _ => rfl) (fun s hs => by rcases s with _ | _ | (_ | _ | ⟨t, xs, v'⟩) <;> first | rfl | exact absurd rfl (hs t xs v')) hr'
    rw [hκ] at hκ'
    cases hκ'
    rw [hl] at h1'
    obtain ⟨zs, r3, r4, h4, h5, _⟩ := Tr.bind_some h1'
    obtain ⟨h4, _⟩ := Tr.yu h4
    obtain ⟨e, rfl⟩ := q2q h4
    obtain ⟨e', _⟩ := Tr.q9 h5
    obtain ⟨rfl, rfl⟩ := Prod.mk.inj e'
    have hmem : κ ∈ qD [some (κ, some (i, o))] := by simp [qD]
    refine ⟨rfl, rfl, fun _ b => φ' b \/ (m.φ κ b /\ ¬ ψ b), fun p hp => ?_, fun κ' hκ' b hb => ?_, fun κ1 κ2 b h1 h2 hne => ?_⟩
    ·simp only [List.mem_singleton] at hp
     subst hp
     exact ⟨t, xs, _, ver', rfl, hκ, q3 w' fz' _ φ' hF (hk κ hmem) hw (fun b hb hb' => hs κ hmem b hb hb')⟩
    ·simp only [qD, List.filterMap_cons, Option.map_some, List.filterMap_nil, List.mem_singleton] at hκ'
     subst hκ'
     exact hb
    ·simp only [qD, List.filterMap_cons, Option.map_some, List.filterMap_nil, List.mem_singleton] at h1 h2
     exact absurd (h1.trans h2.symm) hne
   ·exact (Tr.q8 h1).elim
  | .int _ _ :: _, _, _, hr | .bool _ :: _, _, _, hr | .str _ :: _, _, _, hr | .lst _ _ :: _, _, _, hr | .sub _ _ _ :: _, _, _, hr | .ptr _ _ :: _, _, _, hr | .rptr _ _ _ :: _, _, _, hr | .lptr _ _ _ _ :: _, _, _, hr | .vptr _ _ _ _ _ _ :: _, _, _, hr | .clo _ _ :: _, _, _, hr | .nilp :: _, _, _, hr | .nilf :: _, _, _, hr | .err _ :: _, _, _, hr | .undef :: _, _, _, hr | [], _, _, hr => exact (Tr.q8 hr).elim
 | .pr a b, cs, vs, x, rest, pl, rd, ha, hr, hn => by
  have hr : ((mutD (V := V) a cs).bind fun p => (mutD b p.2.1).bind fun q => .ret ((p.1, q.1), q.2.1, p.2.2 ++ q.2.2)).run F m.h = some ((x, rest, pl), rd) := by cases cs <;> exact hr
  obtain ⟨⟨x1, r1, pl1⟩, rd1, rd2, h1, h2, _⟩ := Tr.bind_some hr
  obtain ⟨⟨x2, r2, pl2⟩, rd3, rd4, h3, h4, _⟩ := Tr.bind_some h2
  obtain ⟨e, _⟩ := Tr.q9 h4
  obtain ⟨rfl, rfl, rfl⟩ := inj3 e
  simp only [q5u] at hn ⊢
  obtain ⟨n1, n2, n3⟩ := List.nodup_append.1 hn
  obtain ⟨va, v2, φ1, rfl, k1, k2, k3, k4⟩ := q85 H ha h1 n1
  obtain ⟨vb, v3, φ2, rfl, q1, q2, q3, q4⟩ := q85 H k2 h3 n2
  have hd : ∀ b, φ1 b -> ¬ φ2 b := fun b hb hb' => by
   obtain ⟨κ, hκ, h⟩ := k3 b hb
   obtain ⟨κ', hκ', h'⟩ := q3 b hb'
   exact H.disj κ κ' b (n3 κ hκ κ' hκ') h h'
  refine ⟨va ++ vb, v3, fun b => φ1 b \/ φ2 b, by rw [List.append_assoc], ⟨va, vb, φ1, φ2, rfl, k1, q1, hd, fun _ => Iff.rfl⟩, q2, fun b hb => ?_, fun w' fz' x' φ' hF hk hw hs tail u rest' rd' hr' => ?_⟩
  ·rcases hb with hb | hb
   ·obtain ⟨κ, hκ, h⟩ := k3 b hb; exact ⟨κ, List.mem_append_left _ hκ, h⟩
   ·obtain ⟨κ, hκ, h⟩ := q3 b hb; exact ⟨κ, List.mem_append_right _ hκ, h⟩
  ·rw [q5u] at hk hs ⊢
   obtain ⟨c1, c2, φ'1, φ'2, ec, w1, w2, ht⟩ := hw
   have hl : va.length = c1.length := by rw [k1.len, w1.len]
   obtain ⟨rfl, rfl⟩ := List.append_inj ec hl
   rw [List.append_assoc] at hr'
   obtain ⟨⟨u1, t1⟩, s1, s2, g1, g2, _⟩ := Tr.bind_some hr'
   obtain ⟨⟨u2, t2⟩, s3, s4, g3, g4, _⟩ := Tr.bind_some g2
   obtain ⟨e, _⟩ := Tr.q9 g4
   obtain ⟨rfl, rfl⟩ := Prod.mk.inj e
   obtain ⟨rfl, e1, Φ1, a1, a2, a3⟩ := k4 w' fz' x'.1 φ'1 hF (fun κ hκ b hb hn => hk κ (List.mem_append_left _ hκ) b hb fun h => h.elim hn fun h => by
     obtain ⟨κ', hκ', h'⟩ := q3 b h
     exact H.disj κ κ' b (n3 κ hκ κ' hκ') hb h') w1 (fun κ hκ b hb hb' => (hs κ (List.mem_append_left _ hκ) b ((ht.2 b).2 (.inl hb)) hb').elim id fun h => by
     obtain ⟨κ', hκ', h'⟩ := q3 b h
     exact (H.disj κ κ' b (n3 κ hκ κ' hκ') hb' h').elim) _ _ _ _ g1
   obtain ⟨rfl, e2, Φ2, b1, b2, b3⟩ := q4 w' fz' x'.2 φ'2 hF (fun κ hκ b hb hn => hk κ (List.mem_append_right _ hκ) b hb fun h => h.elim (fun h => by
     obtain ⟨κ', hκ', h'⟩ := k3 b h
     exact H.disj κ' κ b (n3 κ' hκ' κ hκ) h' hb) hn) w2 (fun κ hκ b hb hb' => (hs κ (List.mem_append_right _ hκ) b ((ht.2 b).2 (.inr hb)) hb').elim (fun h => by
     obtain ⟨κ', hκ', h'⟩ := k3 b h
     exact (H.disj κ' κ b (n3 κ' hκ' κ hκ) h' hb').elim) id) _ _ _ _ g3
   have hin : ∀ κ, κ ∈ qD pl2 -> κ ∉ qD pl1 := fun κ h h' => n3 κ h' κ h rfl
   refine ⟨rfl, by rw [qj, e1, e2], fun κ => if κ ∈ qD pl1 then Φ1 κ else Φ2 κ, fun p hp => ?_, fun κ hκ b hb => ?_, fun κ κ' b hκ hκ' hne hb hb' => ?_⟩
   ·rcases List.mem_append.1 hp with hp | hp
    ·have : p.1 ∈ qD pl1 := by rw [<- e1]; exact List.mem_map_of_mem hp
     simp only [this, if_true]
     exact a1 p hp
    ·have : p.1 ∈ qD pl2 := by rw [<- e2]; exact List.mem_map_of_mem hp
     simp only [hin _ this, if_false]
     exact b1 p hp
   ·by_cases hm : κ ∈ qD pl1
    ·simp only [hm, if_true] at hb
     rcases a2 κ hm b hb with h | h
     ·exact .inl ((ht.2 b).2 (.inl h))
     ·exact .inr ⟨h.1, fun h' => h'.elim h.2 fun h' => by
       obtain ⟨κ', hκ', h''⟩ := q3 b h'
       exact H.disj κ κ' b (n3 κ hm κ' hκ') h.1 h''⟩
    ·simp only [hm, if_false] at hb
     have hm2 : κ ∈ qD pl2 := (List.mem_append.1 hκ).resolve_left hm
     rcases b2 κ hm2 b hb with h | h
     ·exact .inl ((ht.2 b).2 (.inr h))
     ·exact .inr ⟨h.1, fun h' => h'.elim (fun h' => by
       obtain ⟨κ', hκ', h''⟩ := k3 b h'
       exact H.disj κ' κ b (n3 κ' hκ' κ hm2) h'' h.1) h.2⟩
   ·
    have cross : ∀ κ κ' b, κ ∈ qD pl1 -> κ' ∈ qD pl2 -> Φ1 κ b -> ¬ Φ2 κ' b := fun κ κ' b hκ hκ' hb hb' => by
     rcases a2 κ hκ b hb with h | h <;> rcases b2 κ' hκ' b hb' with h' | h'
     ·exact ht.1 b h h'
     ·rcases hs κ' (List.mem_append_right _ hκ') b ((ht.2 b).2 (.inl h)) h'.1 with h2 | h2
      ·obtain ⟨κ2, hκ2, h3⟩ := k3 b h2
       exact H.disj κ2 κ' b (n3 κ2 hκ2 κ' hκ') h3 h'.1
      ·exact h'.2 h2
     ·rcases hs κ (List.mem_append_left _ hκ) b ((ht.2 b).2 (.inr h')) h.1 with h2 | h2
      ·exact h.2 h2
      ·obtain ⟨κ2, hκ2, h3⟩ := q3 b h2
       exact H.disj κ κ2 b (n3 κ hκ κ2 hκ2) h.1 h3
     ·exact H.disj κ κ' b (n3 κ hκ κ' hκ') h.1 h'.1
    by_cases hm : κ ∈ qD pl1 <;> by_cases hm' : κ' ∈ qD pl1
    ·simp only [hm, if_true] at hb
     simp only [hm', if_true] at hb'
     exact a3 κ κ' b hm hm' hne hb hb'
    ·simp only [hm, if_true] at hb
     simp only [hm', if_false] at hb'
     exact cross κ κ' b hm ((List.mem_append.1 hκ').resolve_left hm') hb hb'
    ·simp only [hm, if_false] at hb
     simp only [hm', if_true] at hb'
     exact cross κ' κ b hm' ((List.mem_append.1 hκ).resolve_left hm) hb' hb
    ·simp only [hm, if_false] at hb
     simp only [hm', if_false] at hb'
     exact b3 κ κ' b ((List.mem_append.1 hκ).resolve_left hm) ((List.mem_append.1 hκ').resolve_left hm') hne hb hb'
end
end Go.Den
namespace Go.Den
open Go

section
variable {P : Program} {V : Nat -> Sig} {F : Tr.Fs V} {m : M}
theorem q3V {l : List Nat} (h : nodupB l = true) : l.Nodup := by
 induction l with
 | nil => exact List.nodup_nil
 | cons x l ih => obtain ⟨h1, h2⟩ := q2S h; exact List.nodup_cons.2 ⟨h1, ih h2⟩
theorem q2O {l : List Nat} (h : l.Nodup) : nodupB l = true := by
 induction l with
 | nil => rfl
 | cons x l ih =>
  obtain ⟨h1, h2⟩ := List.nodup_cons.1 h
  simp only [nodupB, Bool.and_eq_true, Bool.not_eq_true', ih h2, and_true]
  cases hb : l.any (Nat.beq x) with
  | false => rfl
  | true =>
   obtain ⟨y, hy, e⟩ := List.any_eq_true.1 hb
   exact absurd (Nat.eq_of_beq_eq_true e ▸ hy) h1
def jX : Upd -> List Nat
 | [] => []
 | (κ, s) :: r => match s with
  | .gone => κ :: jX r
  | _ => jX r
theorem q2e : ∀ (a b : Upd), jX (a ++ b) = jX a ++ jX b
 | [], b => rfl
 | (κ, s) :: r, b => by
  simp only [List.cons_append, jX]
  cases s <;> simp [q2e r b]
theorem q37 : ∀ {u : Upd} {κ : Nat}, κ ∈ jX u -> (κ, Slot.gone) ∈ u
 | (k, s) :: r, κ, h => by
  simp only [jX] at h
  cases s with
  | gone =>
   rcases List.mem_cons.1 h with rfl | h
   ·exact List.mem_cons_self ..
   ·exact List.mem_cons_of_mem _ (q37 h)
  | free => exact List.mem_cons_of_mem _ (q37 h)
  | live q => exact List.mem_cons_of_mem _ (q37 h)
theorem q7P {u : Upd} {κ : Nat} (h : κ ∈ jX u) : κ ∈ keysOf u := List.mem_map.2 ⟨_, q37 h, rfl⟩
theorem q1S (H : HR m) {t : Ty} {κ : Nat} {x : t.D} {u : Upd} {rd : List Nat} (hr : (boxT (V := V) t κ).run F m.h = some ((x, u), rd)) (hn : (keysOf u).Nodup) :
  κ ∈ jX u /\ ∃ φ η : Nat -> Prop, BoxO m.w (fun b => m.fz b \/ η b) t (.pointer (some ⟨(m.ρ κ).b, 0, none⟩)) x φ /\ Ups m η u /\ (∀ b, φ b -> ∃ κ ∈ keysOf u, m.φ κ b) /\ (∀ b, η b -> ∃ κ ∈ keysOf u, m.φ κ b) /\ ∀ b, φ b -> ¬ η b := by
 obtain ⟨cells, r, hκ, h1, _⟩ := q9u (f := fun cells => (decO (V := V) t cells).bind fun p => match p.2.1 with
  | [] => .ret (p.1, (κ, .gone) :: p.2.2)
  | _ => .no) (fun _ => rfl) (fun s hs => by rcases s with _ | _ | (cs | cs | ⟨t, xs, v'⟩) <;> first | rfl | exact absurd rfl (hs cs)) hr
 obtain ⟨⟨y, rest, u'⟩, r1, r2, h2, h3, _⟩ := Tr.bind_some h1
 match rest, h3 with
 | [], h3 =>
  obtain ⟨e, _⟩ := Tr.q9 h3
  obtain ⟨rfl, rfl⟩ := Prod.mk.inj e
  obtain ⟨hk, hn'⟩ := List.nodup_cons.1 hn
  obtain ⟨c, e, fr, h4, h5, h6, h7⟩ := H.res κ _ hκ
  obtain ⟨v1, v2, ψ, η, e1, k1, k2, k3, k4, k5⟩ := q1t H h6 h2 (q2O hn')
  have : v2 = [] := by match v2, k2 with | [], _ => rfl
  rw [this, List.append_nil] at e1
  rw [<- e1] at k1
  have hκb : ∀ b, ψ b \/ η b -> b ≠ (m.ρ κ).b := fun b hb e => by
   obtain ⟨κ', hκ', hb'⟩ := k4 _ hb
   exact H.disj κ κ' _ (fun e => hk (by rw [e]; exact hκ')) ((h7 b).2 e) hb'
  refine ⟨List.mem_cons_self .., fun b' => b' = (m.ρ κ).b \/ ψ b', η, ⟨(m.ρ κ).b, c, e, fr, ψ, rfl, h4, h5, k1, fun hb => ?_, fun _ => Iff.rfl⟩, fun p hp => ?_, fun b hb => ?_, fun b hb => ?_, fun b hb hb' => ?_⟩
  ·obtain ⟨κ', hκ', hb'⟩ := k4 _ (.inl hb)
   exact H.disj κ κ' _ (fun e => hk (by rw [e]; exact hκ')) ((h7 _).2 rfl) hb'
  ·rcases List.mem_cons.1 hp with rfl | hp
   ·exact ⟨.inl rfl, _, hκ⟩
   ·exact k3 p hp
  ·rcases hb with rfl | hb
   ·exact ⟨κ, by simp [keysOf], (h7 _).2 rfl⟩
   ·obtain ⟨κ', hκ', hb'⟩ := k4 _ (.inl hb)
    exact ⟨κ', List.mem_cons_of_mem _ hκ', hb'⟩
  ·obtain ⟨κ', hκ', hb'⟩ := k4 _ (.inr hb)
   exact ⟨κ', List.mem_cons_of_mem _ hκ', hb'⟩
  ·exact hb.elim (hκb b (.inr hb')) fun h => k5 b h hb'
 | _ :: _, h3 => exact (Tr.q8 h3).elim
theorem yX {ks ks' : List Nat} (h : ∀ κ ∈ ks, κ ∈ ks') (b : Nat) (hb : m.seen ks b) : m.seen ks' b := hb.imp id fun ⟨κ, hκ, h'⟩ => ⟨κ, h κ hκ, h'⟩
theorem q9G (H : HR m) {l : Bool} {t : Ty} {κ : Nat} {x : t.D} {u : Upd} {ks : List Nat} {rd : List Nat} (hr : (qcD (V := V) l t κ).run F m.h = some ((x, u, ks), rd)) {S : Nat -> Prop} (hS : ∀ b, m.seen ks b -> S b) :
  (l = true -> ks = []) /\ ∃ η : Nat -> Prop, BoxR m.w (fun b => S b \/ η b) t (.pointer (some ⟨(m.ρ κ).b, 0, none⟩)) x /\ Ups m η u /\ (∀ b, η b -> ∃ κ ∈ keysOf u, m.φ κ b) := by
 obtain ⟨r, h1, _⟩ := Tr.wO hr
 have fin : ∀ {cells : List SV} {c : Array Value} {u' : Upd} {ks' ks0 : List Nat} {r : List Nat}, All2 m.SR cells c.toList -> ((decR (V := V) t cells).bind fun p => match p.2 with | [] => Tr.ret (p.1, u', ks') | _ => .no).run F m.h = some ((x, u, ks), r) -> (∀ κ ∈ z8 cells, κ ∈ ks0) ->
   u = u' /\ ks = ks' /\ Rd m.w (m.seen ks0) t c.toList x := by
  intro cells c u' ks' ks0 r hall h hk
  obtain ⟨⟨y, rest⟩, r1, r2, h2, h3, _⟩ := Tr.bind_some h
  match rest, h3 with
  | [], h3 =>
   obtain ⟨e, _⟩ := Tr.q9 h3
   obtain ⟨rfl, rfl, rfl⟩ := inj3 e
   obtain ⟨v1, v2, e1, k1, _, k2⟩ := q3U H hk hall h2
   have : v2 = [] := by match v2, k2 with | [], _ => rfl
   rw [this, List.append_nil] at e1
   rw [<- e1] at k1
   exact ⟨rfl, rfl, k1⟩
  | _ :: _, h3 => exact (Tr.q8 h3).elim
 rcases hs : m.h κ with _ | _ | (cs | cs | ⟨t', xs, v'⟩ | ⟨t', xs⟩)
 ·rw [hs] at h1; exact (Tr.q8 h1).elim
 ·rw [hs] at h1; exact (Tr.q8 h1).elim
 ·rw [hs] at h1
  obtain ⟨c, e, fr, h2, h3, h4, h5⟩ := H.res κ _ hs
  rcases Tr.yI h1 with ⟨hl, h1⟩ | ⟨hl, h1⟩
  ·obtain ⟨hk, h1⟩ := qo h1
   have hk : z8 cs = [] := List.isEmpty_iff.1 hk
   obtain ⟨hu, hks, hrd⟩ := fin (ks0 := []) h4 h1 fun κ' h => by rw [hk] at h; cases h
   refine ⟨fun _ => hks, m.φ κ, ⟨_, c, e, fr, rfl, h2, .inr ((h5 _).2 rfl), Rd.mono (fun b hb => ⟨?_, rfl⟩) hrd⟩, ?_, fun b hb => ⟨κ, by rw [hu]; simp [keysOf], hb⟩⟩
   ·rcases hb with hb | ⟨_, h, _⟩
    ·exact .inl (hS b (.inl hb))
    ·cases h
   ·intro p hp
    rw [hu] at hp
    simp only [List.mem_singleton] at hp
    subst hp
    exact ⟨.inr (.inr ⟨cs, rfl, hs, fun _ h => h⟩), _, hs⟩
  ·obtain ⟨hu, hks, hrd⟩ := fin (ks0 := κ :: z8 cs) h4 h1 fun κ' h => List.mem_cons_of_mem _ h
   rw [<- hks] at hrd
   refine ⟨(fun h => by rw [h] at hl; cases hl), fun _ => False, ⟨_, c, e, fr, rfl, h2, .inl (hS _ (.inr ⟨κ, by rw [hks]; simp, (h5 _).2 rfl⟩)), Rd.mono (fun b hb => ⟨.inl (hS b hb), rfl⟩) hrd⟩, (by rw [hu]; intro p hp; cases hp), fun _ h => h.elim⟩
 ·rw [hs] at h1
  rcases Tr.yI h1 with ⟨_, h1⟩ | ⟨hl, h1⟩
  ·exact (Tr.q8 h1).elim
  ·obtain ⟨c, e, fr, h2, h3, h4, h5⟩ := H.res κ _ hs
   obtain ⟨hu, hks, hrd⟩ := fin (ks0 := z8 cs) h4 h1 fun κ' h => h
   rw [<- hks] at hrd
   refine ⟨fun h => ?_, fun _ => False, ⟨_, c, e, fr, rfl, h2, .inl (hS _ (.inl h3)), Rd.mono (fun b hb => ⟨.inl (hS b hb), rfl⟩) hrd⟩, (by rw [hu]; intro p hp; cases hp), fun _ h => h.elim⟩
   rw [h] at hl
   simp only [Bool.true_and, Bool.not_eq_false', List.isEmpty_iff] at hl
   rw [hks, hl]
 ·rw [hs] at h1; exact (Tr.q8 h1).elim
 ·rw [hs] at h1; exact (Tr.q8 h1).elim
def ptrV (m : M) (κ : Nat) : Value := .pointer (some ⟨(m.ρ κ).b, 0, none⟩)
theorem q5e (H : HR m) {κ κ0 : Nat} {ks : List Nat} {rd : List Nat} (hr : (q9n (V := V) κ).run F m.h = some ((κ0, ks), rd)) {S : Nat -> Prop} (hS : ∀ b, m.seen ks b -> S b) :
  q0K m.w (m.ρ κ).b (ptrV m κ0) /\ S (m.ρ κ).b := by
 obtain ⟨r, h1, _⟩ := Tr.wO hr
 have fin : ∀ {c : Array Value} {κ1 : Nat}, All2 m.SR [.ptr κ1 0] c.toList -> c.toList = [ptrV m κ1] := fun {c κ1} h => by
  generalize c.toList = l at h ⊢
  match l, h with
  | [v], h => rw [show v = ptrV m κ1 from h.1.2]
 rcases hs : m.h κ with _ | _ | (cs | cs | ⟨t', xs, v'⟩ | ⟨t', xs⟩)
 ·rw [hs] at h1; exact (Tr.q8 h1).elim
 ·rw [hs] at h1; exact (Tr.q8 h1).elim
 ·rw [hs] at h1
  obtain ⟨c, e, fr, h2, h3, h4, h5⟩ := H.res κ _ hs
  match cs, h1, h4 with
  | [.ptr κ1 0], h1, h4 =>
   obtain ⟨e', _⟩ := Tr.q9 h1
   obtain ⟨rfl, rfl⟩ := Prod.mk.inj e'
   exact ⟨⟨c, e, fr, h2, fin h4⟩, hS _ (.inr ⟨κ, by simp, (h5 _).2 rfl⟩)⟩
 ·rw [hs] at h1
  obtain ⟨c, e, fr, h2, h3, h4, h5⟩ := H.res κ _ hs
  match cs, h1, h4 with
  | [.ptr κ1 0], h1, h4 =>
   obtain ⟨e', _⟩ := Tr.q9 h1
   obtain ⟨rfl, rfl⟩ := Prod.mk.inj e'
   exact ⟨⟨c, e, fr, h2, fin h4⟩, hS _ (.inl h3)⟩
 ·rw [hs] at h1; exact (Tr.q8 h1).elim
 ·rw [hs] at h1; exact (Tr.q8 h1).elim
def CapI (m : M) (g : List Nat) : (caps : List (Ty × Bool)) -> List Nat -> List Nat -> Prop
 | [], _, bs => bs = []
 | (_, true) :: cs, κ :: ks, κ' :: bs => κ = κ' /\ κ ∈ g /\ CapI m g cs ks bs
 | (_, true) :: _, _, _ => False
 | (_, false) :: cs, ks, bs => CapI m g cs ks.tail bs
def q30 (V : Nat -> Sig) (F : Tr.Fs V) (m : M) (g : List Nat) (φ0 : Nat -> Prop) : Par -> Value -> ArgI -> Prop
 | .mut t, v, i => i.boxes = [] /\ ∃ φ : Nat -> Prop, (∀ κ ∈ qD i.muts, ∀ b, m.φ κ b -> φ0 b -> φ b) /\ (∀ κ ∈ qD i.muts, ∀ b, m.φ κ b -> φ b -> φ0 b) /\ Back V F m t v.cells.toList i.muts φ
 | .ptr _, v, i => i.muts = [] /\ ∃ κ, i.boxes = [κ] /\ κ ∈ g /\ v = ptrV m κ
 | .clo f caps, v, i => i.muts = [] /\ ∃ ks, v = .func (.func f) #[] (ks.map (ptrV m)).toArray /\ CapI m g caps ks i.boxes
 | .pptr _, v, i => i.muts = [] /\ ∃ κ κr, i.boxes = [κ] /\ κ ∈ g /\ v = ptrV m κr /\ q0K m.w (m.ρ κr).b (ptrV m κ) /\ m.seen i.reads (m.ρ κr).b
 | .rclo f caps, v, i => i.muts = [] /\ ∃ κr ks, v = .func (.func f) #[] ((κr :: ks).map (ptrV m)).toArray /\ CapI m g caps ks i.boxes
 | _, _, i => i.muts = [] /\ i.boxes = []
theorem CapI.mono {g g' : List Nat} (h : ∀ κ ∈ g, κ ∈ g') : ∀ {caps : List (Ty × Bool)} {ks bs : List Nat}, CapI m g caps ks bs -> CapI m g' caps ks bs
 | [], _, _, h => h
 | (_, true) :: cs, κ :: ks, κ' :: bs, ⟨h1, h2, h3⟩ => ⟨h1, h κ h2, CapI.mono h h3⟩
 | (_, true) :: _, [], _, h => h.elim
 | (_, true) :: _, _ :: _, [], h => h.elim
 | (_, false) :: cs, ks, bs, h3 => CapI.mono (caps := cs) h h3
theorem q30.more {g : List Nat} {φ0 φ1 : Nat -> Prop} {p : Par} {v : Value} {i : ArgI} (hi : q30 V F m g φ0 p v i) (h : ∀ κ ∈ qD i.muts, ∀ b, m.φ κ b -> (φ1 b ↔ φ0 b)) : q30 V F m g φ1 p v i := by
 cases p with
 | «mut» t => obtain ⟨h1, φ, h2, h2', h3⟩ := hi; exact ⟨h1, φ, fun κ hκ b hb h0 => h2 κ hκ b hb ((h κ hκ b hb).1 h0), fun κ hκ b hb h0 => (h κ hκ b hb).2 (h2' κ hκ b hb h0), h3⟩
 | _ => exact hi
theorem q30.mono {g g' : List Nat} {φ0 : Nat -> Prop} (h : ∀ κ ∈ g, κ ∈ g') {p : Par} {v : Value} {i : ArgI} (hi : q30 V F m g φ0 p v i) : q30 V F m g' φ0 p v i := by
 cases p with
 | ptr t => obtain ⟨h1, κ, h2, h3, h4⟩ := hi; exact ⟨h1, κ, h2, h κ h3, h4⟩
 | clo f caps => obtain ⟨h1, ks, h2, h3⟩ := hi; exact ⟨h1, ks, h2, h3.mono h⟩
 | pptr t => obtain ⟨h1, κ, κr, h2, h3, h4⟩ := hi; exact ⟨h1, κ, κr, h2, h κ h3, h4⟩
 | rclo f caps => obtain ⟨h1, κr, ks, h2, h3⟩ := hi; exact ⟨h1, κr, ks, h2, h3.mono h⟩
 | _ => exact hi
theorem qdh {a b : List Nat} {φ1 φ2 : Nat -> Prop} (H : HR m) (hd : ∀ x ∈ a, ∀ y ∈ b, x ≠ y) (h1 : ∀ i, φ1 i -> ∃ κ ∈ a, m.φ κ i) (h2 : ∀ i, φ2 i -> ∃ κ ∈ b, m.φ κ i) : Two (fun i => φ1 i \/ φ2 i) φ1 φ2 :=
 ⟨fun i hi hi' => by
  obtain ⟨κ, hκ, h⟩ := h1 i hi
  obtain ⟨κ', hκ', h'⟩ := h2 i hi'
  exact H.disj κ κ' i (hd κ hκ κ' hκ') h h', fun _ => Iff.rfl⟩
theorem q5q (H : HR m) {l : Bool} : ∀ {caps : List (Ty × Bool)} {ks : List Nat} {x : q3A caps} {i : ArgI} {rd : List Nat}, (q7H (V := V) l caps ks).run F m.h = some ((x, i), rd) -> (keysOf i.gone).Nodup -> ∀ {S : Nat -> Prop}, (∀ b, m.seen i.reads b -> S b) ->
  i.muts = [] /\ (l = true -> i.reads = []) /\ CapI m (jX i.gone) caps ks i.boxes /\ ∃ φ η : Nat -> Prop, q0p m.w (fun b => S b \/ η b) caps (ks.map (ptrV m)) x φ /\ Ups m η i.gone /\ (∀ b, φ b -> ∃ κ ∈ keysOf i.gone, m.φ κ b) /\ (∀ b, η b -> ∃ κ ∈ keysOf i.gone, m.φ κ b) /\ ∀ b, φ b -> ¬ η b
 | [], [], x, i, rd, hr, hn, S, hS => by
  obtain ⟨e, _⟩ := Tr.q9 hr
  obtain ⟨rfl, rfl⟩ := Prod.mk.inj e
  exact ⟨rfl, fun _ => rfl, rfl, fun _ => False, fun _ => False, ⟨rfl, fun _ h => h⟩, (fun p hp => by cases hp), (fun _ h => h.elim), (fun _ h => h.elim), fun _ h => h.elim⟩
 | [], _ :: _, x, i, rd, hr, hn, S, hS => (Tr.q8 hr).elim
 | (t, true) :: cs, κ :: ks, x, i, rd, hr, hn, S, hS => by
  obtain ⟨⟨y, u⟩, r1, r2, h1, h2, _⟩ := Tr.bind_some hr
  obtain ⟨⟨z, j⟩, r3, r4, h3, h4, _⟩ := Tr.bind_some h2
  obtain ⟨e, _⟩ := Tr.q9 h4
  obtain ⟨rfl, rfl⟩ := Prod.mk.inj e
  simp only [qj, q2e] at hn ⊢
  obtain ⟨n1, n2, n3⟩ := List.nodup_append.1 hn
  obtain ⟨hk, φ1, η1, k1, k2, k3, g1, g2⟩ := q1S H h1 n1
  obtain ⟨k4, k5, k6, φ2, η2, k7, k8, k9, g3, g4⟩ := q5q H h3 n2 hS
  have hfz : ∀ b, m.fz b -> S b := fun b hb => hS b (.inl hb)
  have cross : ∀ b, φ1 b \/ η1 b -> ¬ (φ2 b \/ η2 b) := fun b hb hb' => by
   obtain ⟨κ, hκ, h⟩ := hb.elim (k3 b) (g1 b)
   obtain ⟨κ', hκ', h'⟩ := hb'.elim (k9 b) (g3 b)
   exact H.disj κ κ' b (n3 κ hκ κ' hκ') h h'
  refine ⟨k4, k5, ⟨rfl, List.mem_append_left _ hk, k6.mono fun κ h => List.mem_append_right _ h⟩, fun b => φ1 b \/ φ2 b, fun b => η1 b \/ η2 b, ⟨_, _, φ1, φ2, rfl, k1.re fun _ b h => h.elim (fun h => .inl (hfz b h)) fun h => .inr (.inl h), k7.more fun b h => h.imp id .inr, qdh H n3 k3 k9⟩, k2.append k8, fun b hb => ?_, fun b hb => ?_, fun b hb hb' => ?_⟩
  ·rcases hb with hb | hb
   ·obtain ⟨κ, hκ, h⟩ := k3 b hb; exact ⟨κ, List.mem_append_left _ hκ, h⟩
   ·obtain ⟨κ, hκ, h⟩ := k9 b hb; exact ⟨κ, List.mem_append_right _ hκ, h⟩
  ·rcases hb with hb | hb
   ·obtain ⟨κ, hκ, h⟩ := g1 b hb; exact ⟨κ, List.mem_append_left _ hκ, h⟩
   ·obtain ⟨κ, hκ, h⟩ := g3 b hb; exact ⟨κ, List.mem_append_right _ hκ, h⟩
  ·rcases hb with hb | hb <;> rcases hb' with hb' | hb'
   ·exact g2 b hb hb'
   ·exact cross b (.inl hb) (.inr hb')
   ·exact cross b (.inr hb') (.inl hb)
   ·exact g4 b hb hb'
 | (t, true) :: cs, [], x, i, rd, hr, hn, S, hS => (Tr.q8 hr).elim
 | (t, false) :: cs, κ :: ks, x, i, rd, hr, hn, S, hS => by
  obtain ⟨⟨y, u, kr⟩, r1, r2, h1, h2, _⟩ := Tr.bind_some hr
  obtain ⟨⟨z, j⟩, r3, r4, h3, h4, _⟩ := Tr.bind_some h2
  obtain ⟨e, _⟩ := Tr.q9 h4
  obtain ⟨rfl, rfl⟩ := Prod.mk.inj e
  simp only [qj, q2e] at hn ⊢
  obtain ⟨n1, n2, n3⟩ := List.nodup_append.1 hn
  obtain ⟨k1, η1, k2, g1, g2⟩ := q9G H h1 fun b hb => hS b (yX (fun κ h => List.mem_append_left _ h) b hb)
  obtain ⟨k4, k5, k6, φ2, η2, k7, k8, k9, g3, g4⟩ := q5q H h3 n2 fun b hb => hS b (yX (fun κ h => List.mem_append_right _ h) b hb)
  obtain ⟨b0, c0, e0, fr0, q1, q2, q3, q4⟩ := k2
  refine ⟨k4, fun h => by show kr ++ j.reads = []; rw [k1 h, k5 h]; rfl, k6.mono (fun κ h => List.mem_append_right _ h), φ2, fun b => η1 b \/ η2 b, ⟨_, _, rfl, ⟨b0, c0, e0, fr0, q1, q2, q3.imp id .inl, Rd.mono (fun b h => ⟨h.imp id .inl, rfl⟩) q4⟩, k7.more fun b h => h.imp id .inr⟩, g1.append k8, fun b hb => ?_, fun b hb => ?_, fun b hb hb' => ?_⟩
  ·obtain ⟨κ, hκ, h⟩ := k9 b hb; exact ⟨κ, List.mem_append_right _ hκ, h⟩
  ·rcases hb with hb | hb
   ·obtain ⟨κ, hκ, h⟩ := g2 b hb; exact ⟨κ, List.mem_append_left _ hκ, h⟩
   ·obtain ⟨κ, hκ, h⟩ := g3 b hb; exact ⟨κ, List.mem_append_right _ hκ, h⟩
  ·rcases hb' with hb' | hb'
   ·obtain ⟨κ, hκ, h⟩ := g2 b hb'
    obtain ⟨κ', hκ', h'⟩ := k9 b hb
    exact H.disj κ κ' b (n3 κ hκ κ' hκ') h h'
   ·exact g4 b hb hb'
 | (t, false) :: cs, [], x, i, rd, hr, hn, S, hS => (Tr.q8 hr).elim
theorem q39 {agg : Bool} {x : CV} {v : Value} (h : q41 agg x = true) (hc : m.CR x v) : okCV x = true /\ q1r agg v := by
 simp only [q41, Bool.and_eq_true] at h
 refine ⟨h.1, ?_, (CR.cells h.1 hc).2⟩
 cases x with
 | s y =>
  have : agg = false := by simpa using h.2
  rw [this]
  simp only [Bool.false_eq_true, if_false]
  exact SR.one (x := y) h.1 hc
 | a cs =>
  obtain ⟨vs, e, _⟩ := hc
  rw [show agg = true from h.2]
  simp only [if_true]
  exact ⟨vs, e⟩
theorem qfw (H : HR m) {l agg : Bool} {p : Par} {a : PV} {v : Value} {x : p.D} {i : ArgI} {rd : List Nat} (ha : m.PR a v) (hr : (argT (V := V) l agg p a).run F m.h = some ((x, i), rd)) (hn : (keysOf i.gone).Nodup) (hn2 : (qD i.muts).Nodup) {S : Nat -> Prop} (hS : ∀ b, m.seen i.reads b -> S b) :
  ∃ φ η : Nat -> Prop, q30 V F m (jX i.gone) φ p v i /\ (l = true -> i.reads = []) /\ ArgO m.w (fun b => S b \/ η b) agg p v x φ /\ Ups m η i.gone /\ (∀ b, φ b -> ∃ κ ∈ keysOf i.gone ++ qD i.muts, m.φ κ b) /\ (∀ b, η b -> ∃ κ ∈ keysOf i.gone, m.φ κ b) /\ ∀ b, φ b -> ¬ η b := by
 have hfz : ∀ b, m.fz b -> S b := fun b hb => hS b (.inl hb)
 unfold argT at hr
 split at hr
 ·rename_i t c
  have ⟨hk, hr'⟩ := qo hr
  clear hr
  obtain ⟨hok, hsh⟩ := q39 hk ha
  rcases Tr.yI hr' with ⟨hl, hr'⟩ | ⟨hl, hr'⟩
  ·obtain ⟨⟨y, rest, u'⟩, r1, r2, h2, h3, _⟩ := Tr.bind_some hr'
   match rest, h3 with
   | [], h3 =>
    obtain ⟨e, _⟩ := Tr.q9 h3
    obtain ⟨rfl, rfl⟩ := Prod.mk.inj e
    obtain ⟨v1, v2, ψ, η, e1, k1, k2, k3, k4, k5⟩ := q1t H (CR.cells hok ha).1 h2 (q2O hn)
    have : v2 = [] := by match v2, k2 with | [], _ => rfl
    rw [this, List.append_nil] at e1
    rw [<- e1] at k1
    have hst := k1.still (Ty.q53 t)
    refine ⟨fun _ => False, η, ⟨rfl, rfl⟩, fun _ => rfl, ⟨hsh, Rd.cvt (Ty.q54 t) (k1.rd (fun b h => h.imp (hfz b) id) fun b h => (hst b h).elim), fun _ h => h⟩, k3, (fun _ h => h.elim), (fun b hb => k4 b (.inr hb)), fun _ h => h.elim⟩
   | _ :: _, h3 => exact (Tr.q8 h3).elim
  obtain ⟨⟨y, rest⟩, r1, r2, h2, h3, _⟩ := Tr.bind_some hr'
  match rest, h3 with
  | [], h3 =>
   obtain ⟨e, _⟩ := Tr.q9 h3
   obtain ⟨rfl, rfl⟩ := Prod.mk.inj e
   obtain ⟨v1, v2, e1, k1, _, k2⟩ := q3U H (fun _ h => h) (CR.cells hok ha).1 h2
   have : v2 = [] := by match v2, k2 with | [], _ => rfl
   rw [this, List.append_nil] at e1
   rw [<- e1] at k1
   refine ⟨fun _ => False, fun _ => False, ⟨rfl, rfl⟩, fun h => ?_, ⟨hsh, Rd.mono (fun b hb => ⟨.inl (hS b hb), rfl⟩) k1, fun _ h => h⟩, (fun p hp => by cases hp), (fun _ h => h.elim), (fun _ h => h.elim), fun _ h => h.elim⟩
   rw [h] at hl
   simpa using hl
  | _ :: _, h3 => exact (Tr.q8 h3).elim
 ·rename_i t c
  have ⟨hk, hr'⟩ := qo hr
  clear hr
  obtain ⟨hok, hsh⟩ := q39 hk ha
  obtain ⟨⟨y, rest, u'⟩, r1, r2, h2, h3, _⟩ := Tr.bind_some hr'
  match rest, h3 with
  | [], h3 =>
   obtain ⟨e, _⟩ := Tr.q9 h3
   obtain ⟨rfl, rfl⟩ := Prod.mk.inj e
   obtain ⟨v1, v2, ψ, η, e1, k1, k2, k3, k4, k5⟩ := q1t H (CR.cells hok ha).1 h2 (q2O hn)
   have : v2 = [] := by match v2, k2 with | [], _ => rfl
   rw [this, List.append_nil] at e1
   rw [<- e1] at k1
   exact ⟨ψ, η, ⟨rfl, rfl⟩, fun _ => rfl, ⟨hsh, k1.more fun b h => h.imp (hfz b) id⟩, k3, (fun b hb => by obtain ⟨κ, hκ, h⟩ := k4 b (.inl hb); exact ⟨κ, List.mem_append_left _ hκ, h⟩), (fun b hb => k4 b (.inr hb)), k5⟩
  | _ :: _, h3 => exact (Tr.q8 h3).elim
 ·rename_i t c
  have ⟨hk, hr'⟩ := qo hr
  clear hr
  obtain ⟨hok, hsh⟩ := q39 hk ha
  obtain ⟨⟨y, rest, pl⟩, r1, r2, h2, h3, _⟩ := Tr.bind_some hr'
  match rest, h3 with
  | [], h3 =>
   obtain ⟨e, _⟩ := Tr.q9 h3
   obtain ⟨rfl, rfl⟩ := Prod.mk.inj e
   obtain ⟨v1, v2, φ, e1, k1, k2, k3, k4⟩ := q85 H (CR.cells hok ha).1 h2 hn2
   have : v2 = [] := by match v2, k2 with | [], _ => rfl
   rw [this, List.append_nil] at e1
   rw [<- e1] at k1 k4
   exact ⟨φ, fun _ => False, ⟨rfl, φ, fun _ _ _ _ h => h, fun _ _ _ _ h => h, k4⟩, fun _ => rfl, ⟨hsh, k1.more fun b h => .inl (hfz b h)⟩, (fun p hp => by cases hp), (fun b hb => by obtain ⟨κ, hκ, h⟩ := k3 b hb; exact ⟨κ, List.mem_append_right _ hκ, h⟩), (fun _ h => h.elim), fun _ _ h => h⟩
  | _ :: _, h3 => exact (Tr.q8 h3).elim
 ·rename_i t κ
  obtain ⟨⟨y, u⟩, r1, r2, h1, h2, _⟩ := Tr.bind_some hr
  obtain ⟨e, _⟩ := Tr.q9 h2
  obtain ⟨rfl, rfl⟩ := Prod.mk.inj e
  obtain ⟨hk, φ1, η1, k1, k2, k3, g1, g2⟩ := q1S H h1 hn
  have hv : v = ptrV m κ := ha.2
  exact ⟨φ1, η1, ⟨rfl, κ, rfl, hk, hv⟩, fun _ => rfl, by rw [hv]; exact BoxO.re (fun _ b h => h.imp (hfz b) id) k1, k2, (fun b hb => by obtain ⟨κ, hκ, h⟩ := k3 b hb; exact ⟨κ, List.mem_append_left _ hκ, h⟩), g1, g2⟩
 ·rename_i t κ
  obtain ⟨⟨y, u, kr⟩, r1, r2, h1, h2, _⟩ := Tr.bind_some hr
  obtain ⟨e, _⟩ := Tr.q9 h2
  obtain ⟨rfl, rfl⟩ := Prod.mk.inj e
  obtain ⟨k1, η1, k2, g1, g2⟩ := q9G H h1 hS
  have hv : v = ptrV m κ := ha.2
  exact ⟨fun _ => False, η1, ⟨rfl, rfl⟩, k1, ⟨by rw [hv]; exact k2, fun _ h => h⟩, g1, (fun _ h => h.elim), g2, fun _ h => h.elim⟩
 ·rename_i f caps g ks
  obtain ⟨hk, hr⟩ := qo hr
  have hk := Nat.eq_of_beq_eq_true hk
  obtain ⟨k4, k5, k6, φ2, η2, k7, k8, k9, g3, g4⟩ := q5q H hr hn hS
  have hv : v = .func (.func g) #[] (ks.map (ptrV m)).toArray := ha.2
  exact ⟨φ2, η2, ⟨k4, ks, by rw [hv, hk], k6⟩, k5, ⟨ks.map (ptrV m), by rw [hv, hk], k7⟩, k8, (fun b hb => by obtain ⟨κ, hκ, h⟩ := k9 b hb; exact ⟨κ, List.mem_append_left _ hκ, h⟩), g3, g4⟩
 ·rename_i t κr
  rcases Tr.yI hr with ⟨_, hr⟩ | ⟨hl, hr⟩
  ·exact (Tr.q8 hr).elim
  obtain ⟨⟨κ, kr⟩, r1, r2, h1, h2, _⟩ := Tr.bind_some hr
  obtain ⟨⟨y, u⟩, r3, r4, h3, h4, _⟩ := Tr.bind_some h2
  obtain ⟨e, _⟩ := Tr.q9 h4
  obtain ⟨rfl, rfl⟩ := Prod.mk.inj e
  obtain ⟨q1, q2⟩ := q5e H h1 hS
  obtain ⟨_, q3⟩ := q5e H h1 (S := m.seen kr) fun _ h => h
  obtain ⟨hk, φ1, η1, k1, k2, k3, g1, g2⟩ := q1S H h3 hn
  have hv : v = ptrV m κr := ha.2
  exact ⟨φ1, η1, ⟨rfl, κ, κr, rfl, hk, hv, q1, q3⟩, (fun h => by rw [h] at hl; cases hl), ⟨_, ptrV m κ, hv, q1, .inl q2, BoxO.re (fun _ b h => h.imp (hfz b) id) k1⟩, k2, (fun b hb => by obtain ⟨κ, hκ, h⟩ := k3 b hb; exact ⟨κ, List.mem_append_left _ hκ, h⟩), g1, g2⟩
 ·rename_i f caps g κr ks
  obtain ⟨hk, hr⟩ := qo hr
  simp only [Bool.and_eq_true, Bool.not_eq_true'] at hk
  obtain ⟨hk, hl⟩ := hk
  have hk := Nat.eq_of_beq_eq_true hk
  obtain ⟨⟨κ, kr⟩, r1, r2, h1, h2, _⟩ := Tr.bind_some hr
  obtain ⟨⟨y, j⟩, r3, r4, h3, h4, _⟩ := Tr.bind_some h2
  obtain ⟨e, _⟩ := Tr.q9 h4
  obtain ⟨rfl, rfl⟩ := Prod.mk.inj e
  obtain ⟨q1, q2⟩ := q5e H h1 fun b hb => hS b (yX (fun κ h => List.mem_append_left _ h) b hb)
  obtain ⟨k4, k5, k6, φ2, η2, k7, k8, k9, g3, g4⟩ := q5q H h3 hn fun b hb => hS b (yX (fun κ h => List.mem_append_right _ h) b hb)
  have hv : v = .func (.func g) #[] ((κr :: ks).map (ptrV m)).toArray := ha.2
  exact ⟨φ2, η2, ⟨k4, κr, ks, by rw [hv, hk], k6⟩, (fun h => by rw [h] at hl; cases hl), ⟨(m.ρ κr).b, ks.map (ptrV m), by rw [hv, hk]; rfl, .inl q2, k7⟩, k8, (fun b hb => by obtain ⟨κ, hκ, h⟩ := k9 b hb; exact ⟨κ, List.mem_append_left _ hκ, h⟩), g3, g4⟩
 ·exact (Tr.q8 hr).elim
def zD (V : Nat -> Sig) (F : Tr.Fs V) (m : M) (g : List Nat) (φ0 : Nat -> Prop) : List Par -> List Value -> List ArgI -> Prop
 | [], [], [] => True
 | p :: ps, v :: vs, i :: is => q30 V F m g φ0 p v i /\ zD V F m g φ0 ps vs is
 | _, _, _ => False
theorem zD.mono {g g' : List Nat} {φ0 : Nat -> Prop} (h : ∀ κ ∈ g, κ ∈ g') : ∀ {ps : List Par} {vs : List Value} {is : List ArgI}, zD V F m g φ0 ps vs is -> zD V F m g' φ0 ps vs is
 | [], [], [], _ => trivial
 | _ :: _, _ :: _, _ :: _, hi => ⟨hi.1.mono h, zD.mono h hi.2⟩
theorem zD.more {g : List Nat} {φ0 φ1 : Nat -> Prop} : ∀ {ps : List Par} {vs : List Value} {is : List ArgI}, zD V F m g φ0 ps vs is -> (∀ κ ∈ qz is, ∀ b, m.φ κ b -> (φ1 b ↔ φ0 b)) -> zD V F m g φ1 ps vs is
 | [], [], [], _, _ => trivial
 | _ :: _, _ :: _, i :: is, hi, h => by
  have hm : qz (i :: is) = qD i.muts ++ qz is := by simp [qz]
  rw [hm] at h
  exact ⟨hi.1.more fun κ hκ => h κ (List.mem_append_left _ hκ), zD.more hi.2 fun κ hκ => h κ (List.mem_append_right _ hκ)⟩
theorem q8y (H : HR m) {l : Bool} : ∀ {ts : List TypeId} {ps : List Par} {as : List PV} {vs : List Value} {x : yY ps} {is : List ArgI} {rd : List Nat}, All2 m.PR as vs -> (q6t (V := V) P l ts ps as).run F m.h = some ((x, is), rd) ->
  (keysOf (y8 is) ++ qz is).Nodup -> ∀ {S : Nat -> Prop}, (∀ b, m.seen (readAll is) b -> S b) ->
  ∃ φ η : Nat -> Prop, zD V F m (jX (y8 is)) φ ps vs is /\ (l = true -> readAll is = []) /\ jJ P m.w (fun b => S b \/ η b) ts ps vs x φ /\ Ups m η (y8 is) /\ (∀ b, φ b -> ∃ κ ∈ keysOf (y8 is) ++ qz is, m.φ κ b) /\ (∀ b, η b -> ∃ κ ∈ keysOf (y8 is), m.φ κ b) /\ ∀ b, φ b -> ¬ η b
 | ts, [], [], [], x, is, rd, _, hr, hn, S, hS => by
  have hr : (Tr.ret (V := V) (((), []) : Unit × List ArgI)).run F m.h = some ((x, is), rd) := by cases ts <;> exact hr
  obtain ⟨e, _⟩ := Tr.q9 hr
  obtain ⟨rfl, rfl⟩ := Prod.mk.inj e
  exact ⟨fun _ => False, fun _ => False, trivial, fun _ => rfl, ⟨rfl, fun _ h => h⟩, (fun p hp => by cases hp), (fun _ h => h.elim), (fun _ h => h.elim), fun _ h => h.elim⟩
 | ts, p :: ps, a :: as, v :: vs, x, is, rd, ha, hr, hn, S, hS => by
  have hr : ((argT (V := V) l (jL P ts) p a).bind fun x => (q6t P l ts.tail ps as).bind fun r => .ret ((x.1, r.1), x.2 :: r.2)).run F m.h = some ((x, is), rd) := by cases ts <;> exact hr
  obtain ⟨⟨y, i⟩, r1, r2, h1, h2, _⟩ := Tr.bind_some hr
  obtain ⟨⟨z, js⟩, r3, r4, h3, h4, _⟩ := Tr.bind_some h2
  obtain ⟨e, _⟩ := Tr.q9 h4
  obtain ⟨rfl, rfl⟩ := Prod.mk.inj e
  have hg : keysOf (y8 (i :: js)) = keysOf i.gone ++ keysOf (y8 js) := by simp [y8, keysOf]
  have hgk : jX (y8 (i :: js)) = jX i.gone ++ jX (y8 js) := by
   rw [show y8 (i :: js) = i.gone ++ y8 js by simp [y8], q2e]
  have hm : qz (i :: js) = qD i.muts ++ qz js := by simp [qz]
  have hrd : readAll (i :: js) = i.reads ++ readAll js := by simp [readAll]
  rw [hg, hm] at hn
  rw [hg, hm, hrd, hgk]
  rw [hrd] at hS
  obtain ⟨n1, n2, n3⟩ := List.nodup_append.1 hn
  obtain ⟨n4, n5, n6⟩ := List.nodup_append.1 n1
  obtain ⟨n7, n8, n9⟩ := List.nodup_append.1 n2
  obtain ⟨φ1, η1, k1, k2, k3, k4, k5, g1, g2⟩ := qfw H ha.1 h1 n4 n7 fun b hb => hS b (yX (fun κ h => List.mem_append_left _ h) b hb)
  obtain ⟨φ2, η2, k6, k7, k8, k9, k10, g3, g4⟩ := q8y H ha.2 h3 (List.nodup_append.2 ⟨n5, n8, fun x hx y hy => n3 x (List.mem_append_right _ hx) y (List.mem_append_right _ hy)⟩) fun b hb => hS b (yX (fun κ h => List.mem_append_right _ h) b hb)
  have hx1 : ∀ κ ∈ qD i.muts, ∀ b, m.φ κ b -> ((φ1 b \/ φ2 b) ↔ φ1 b) := fun κ hκ b hb => ⟨fun h => h.elim id fun h => by
   obtain ⟨κ', hκ', h'⟩ := k10 b h
   refine (H.disj κ κ' b ?_ hb h').elim
   rcases List.mem_append.1 hκ' with h1 | h1
   ·exact fun e => n3 κ' (List.mem_append_right _ h1) κ (List.mem_append_left _ hκ) e.symm
   ·exact n9 κ hκ κ' h1, .inl⟩
  have hx2 : ∀ κ ∈ qz js, ∀ b, m.φ κ b -> ((φ1 b \/ φ2 b) ↔ φ2 b) := fun κ hκ b hb => ⟨fun h => h.elim (fun h => by
   obtain ⟨κ', hκ', h'⟩ := k5 b h
   refine (H.disj κ' κ b ?_ h' hb).elim
   rcases List.mem_append.1 hκ' with h1 | h1
   ·exact n3 κ' (List.mem_append_left _ h1) κ (List.mem_append_right _ hκ)
   ·exact n9 κ' h1 κ hκ) id, .inr⟩
  have cr1 : ∀ b, φ1 b -> ¬ η2 b := fun b hb hb' => by
   obtain ⟨κ, hκ, h⟩ := k5 b hb
   obtain ⟨κ', hκ', h'⟩ := g3 b hb'
   refine H.disj κ κ' b ?_ h h'
   rcases List.mem_append.1 hκ with h1 | h1
   ·exact n6 κ h1 κ' hκ'
   ·exact (n3 κ' (List.mem_append_right _ hκ') κ (List.mem_append_left _ h1)).symm
  have cr2 : ∀ b, φ2 b -> ¬ η1 b := fun b hb hb' => by
   obtain ⟨κ, hκ, h⟩ := k10 b hb
   obtain ⟨κ', hκ', h'⟩ := g1 b hb'
   refine H.disj κ κ' b ?_ h h'
   rcases List.mem_append.1 hκ with h1 | h1
   ·exact (n6 κ' hκ' κ h1).symm
   ·exact (n3 κ' (List.mem_append_left _ hκ') κ (List.mem_append_right _ h1)).symm
  refine ⟨fun b => φ1 b \/ φ2 b, fun b => η1 b \/ η2 b, ⟨(k1.mono fun κ h => List.mem_append_left _ h).more hx1, (k6.mono fun κ h => List.mem_append_right _ h).more hx2⟩, fun h => by rw [k2 h, k7 h]; rfl, ⟨v, vs, φ1, φ2, rfl, k3.more fun b h => h.imp id .inl, k8.more fun b h => h.imp id .inr, qdh H (fun x hx y hy => ?_) k5 k10⟩, ?_, fun b hb => ?_, fun b hb => ?_, fun b hb hb' => ?_⟩
  ·rcases List.mem_append.1 hx with hx | hx <;> rcases List.mem_append.1 hy with hy | hy
   ·exact n6 x hx y hy
   ·exact n3 x (List.mem_append_left _ hx) y (List.mem_append_right _ hy)
   ·exact (n3 y (List.mem_append_right _ hy) x (List.mem_append_left _ hx)).symm
   ·exact n9 x hx y hy
  ·have : y8 (i :: js) = i.gone ++ y8 js := by simp [y8]
   rw [this]; exact k4.append k9
  ·rcases hb with hb | hb
   ·obtain ⟨κ, hκ, h⟩ := k5 b hb
    refine ⟨κ, ?_, h⟩
    rcases List.mem_append.1 hκ with hκ | hκ
    ·exact List.mem_append_left _ (List.mem_append_left _ hκ)
    ·exact List.mem_append_right _ (List.mem_append_left _ hκ)
   ·obtain ⟨κ, hκ, h⟩ := k10 b hb
    refine ⟨κ, ?_, h⟩
    rcases List.mem_append.1 hκ with hκ | hκ
    ·exact List.mem_append_left _ (List.mem_append_right _ hκ)
    ·exact List.mem_append_right _ (List.mem_append_right _ hκ)
  ·rcases hb with hb | hb
   ·obtain ⟨κ, hκ, h⟩ := g1 b hb; exact ⟨κ, List.mem_append_left _ hκ, h⟩
   ·obtain ⟨κ, hκ, h⟩ := g3 b hb; exact ⟨κ, List.mem_append_right _ hκ, h⟩
  ·rcases hb with hb | hb <;> rcases hb' with hb' | hb'
   ·exact g2 b hb hb'
   ·exact cr1 b hb hb'
   ·exact cr2 b hb hb'
   ·exact g4 b hb hb'
 | ts, [], _ :: _, _, x, is, rd, _, hr, hn, S, hS => by cases ts <;> exact (Tr.q8 hr).elim
 | ts, _ :: _, [], _, x, is, rd, _, hr, hn, S, hS => by cases ts <;> exact (Tr.q8 hr).elim
theorem CapI.boxes {g : List Nat} : ∀ {caps : List (Ty × Bool)} {ks bs : List Nat}, CapI m g caps ks bs -> ∀ κ ∈ bs, κ ∈ g
 | [], _, bs, h, κ, hκ => by rw [show bs = [] from h] at hκ; cases hκ
 | (_, true) :: cs, k :: ks, k' :: bs, ⟨h1, h2, h3⟩, κ, hκ => by
  rcases List.mem_cons.1 hκ with rfl | hκ
  ·exact h1 ▸ h2
  ·exact CapI.boxes h3 κ hκ
 | (_, true) :: _, [], _, h, _, _ => h.elim
 | (_, true) :: _, _ :: _, [], h, _, _ => h.elim
 | (_, false) :: cs, ks, bs, h3, κ, hκ => CapI.boxes (caps := cs) h3 κ hκ
theorem zD.boxes {g : List Nat} {φ0 : Nat -> Prop} : ∀ {ps : List Par} {vs : List Value} {is : List ArgI}, zD V F m g φ0 ps vs is -> ∀ κ ∈ qF is, κ ∈ g
 | [], [], [], _, κ, hκ => by cases hκ
 | p :: ps, v :: vs, i :: is, ⟨h1, h2⟩, κ, hκ => by
  have : qF (i :: is) = i.boxes ++ qF is := by simp [qF]
  rw [this] at hκ
  rcases List.mem_append.1 hκ with hκ | hκ
  ·cases p with
   | «mut» t => rw [h1.1] at hκ; cases hκ
   | val t => rw [h1.2] at hκ; cases hκ
   | own t => rw [h1.2] at hκ; cases hκ
   | cptr t => rw [h1.2] at hκ; cases hκ
   | ptr t =>
    obtain ⟨_, κ', hb, hg, _⟩ := h1
    rw [hb] at hκ
    rw [List.mem_singleton.1 hκ]; exact hg
   | clo f caps =>
    obtain ⟨_, ks, _, hc⟩ := h1
    exact hc.boxes κ hκ
   | pptr t =>
    obtain ⟨_, κ', _, hb, hg, _⟩ := h1
    rw [hb] at hκ
    rw [List.mem_singleton.1 hκ]; exact hg
   | rclo f caps =>
    obtain ⟨_, κr, ks, _, hc⟩ := h1
    exact hc.boxes κ hκ
  ·exact zD.boxes h2 κ hκ
theorem q8P {l : Bool} {h : Heap} : ∀ {ts : List TypeId} {ps : List Par} {as : List PV} {x : yY ps} {is : List ArgI} {rd : List Nat}, (q6t (V := V) P l ts ps as).run F h = some ((x, is), rd) -> as.length = ps.length
 | ts, [], [], x, is, rd, hr => rfl
 | ts, p :: ps, a :: as, x, is, rd, hr => by
  have hr : ((argT (V := V) l (jL P ts) p a).bind fun x => (q6t P l ts.tail ps as).bind fun r => .ret ((x.1, r.1), x.2 :: r.2)).run F h = some ((x, is), rd) := by cases ts <;> exact hr
  obtain ⟨⟨y, i⟩, r1, r2, h1, h2, _⟩ := Tr.bind_some hr
  obtain ⟨⟨z, js⟩, r3, r4, h3, h4, _⟩ := Tr.bind_some h2
  rw [List.length_cons, List.length_cons, q8P h3]
 | ts, [], _ :: _, x, is, rd, hr => by cases ts <;> exact (Tr.q8 hr).elim
 | ts, _ :: _, [], x, is, rd, hr => by cases ts <;> exact (Tr.q8 hr).elim
theorem q0G (H : HR m) : ∀ {ps : List Par} {as : List PV} {vs : List Value} {pv : Option PV} {vv : Option Value} {rd : List Nat}, as.length = ps.length -> All2 m.PR as vs -> (∀ a, pv = some a -> ∃ v, vv = some v /\ m.PR a v) -> (q6c (V := V) pv ps as).run F m.h = some ((), rd) -> q2U m.w vv ps vs
 | [], as, vs, pv, vv, rd, hl, ha, hp, hr => by simp [q2U]
 | p :: ps, [], vs, pv, vv, rd, hl, ha, hp, hr => by simp at hl
 | p :: ps, a :: as, [], pv, vv, rd, hl, ha, hp, hr => ha.elim
 | p :: ps, a :: as, v :: vs, pv, vv, rd, hl, ha, hp, hr => by
  have hl' : as.length = ps.length := by simpa using hl
  have no : ∀ a' : PV, (none : Option PV) = some a' -> ∃ v', (none : Option Value) = some v' /\ m.PR a' v' := fun _ e => by cases e
  cases p with
  | rclo f caps =>
   unfold q6c at hr
   split at hr
   ·rename_i κ g κr ks
    obtain ⟨⟨κ', kr⟩, r1, r2, h1, h2, _⟩ := Tr.bind_some hr
    obtain ⟨hk, h2⟩ := qo h2
    have hk := Nat.eq_of_beq_eq_true hk
    obtain ⟨q1, _⟩ := q5e H h1 (S := m.seen kr) fun _ h => h
    obtain ⟨v0, hv0, hpr⟩ := hp _ rfl
    have e0 : v0 = ptrV m κ := hpr.2
    have hv : v = .func (.func g) #[] ((κr :: ks).map (ptrV m)).toArray := ha.1.2
    refine ⟨v0, (m.ρ κr).b, _, ks.map (ptrV m), vs, hv0, by rw [hv]; rfl, by rw [e0, <- hk]; exact q1, ?_⟩
    exact q0G H hl' ha.2 no h2
   ·exact (Tr.q8 hr).elim
  | ptr t => exact q0G (ps := ps) (pv := some a) (vv := some v) H hl' ha.2 (fun a' e => ⟨v, rfl, by cases e; exact ha.1⟩) hr
  | val t => exact q0G (ps := ps) H hl' ha.2 no hr
  | own t => exact q0G (ps := ps) H hl' ha.2 no hr
  | «mut» t => exact q0G (ps := ps) H hl' ha.2 no hr
  | cptr t => exact q0G (ps := ps) H hl' ha.2 no hr
  | clo f caps => exact q0G (ps := ps) H hl' ha.2 no hr
  | pptr t => exact q0G (ps := ps) H hl' ha.2 no hr
end
end Go.Den
namespace Go.Den
open Go

structure Came (m : M) (h' : Heap) (φ' : Nat -> Nat -> Prop) (χ' fz' : Nat -> Prop) (w' : World) : Prop where
 slot : ∀ κ, (h' κ = m.h κ /\ φ' κ = m.φ κ /\ ∀ b, m.φ κ b -> w'.heap[b]? = m.w.heap[b]?) \/ ∃ t0 xs0 v0, ∃ t : Ty, ∃ xs : List t.D, ∃ v, m.h κ = .live (.row t0 xs0 v0) /\ h' κ = .live (.row t xs v) /\ v0 < v /\ Ow w' fz' (.sl t) [slV (m.ρ κ)] xs (φ' κ) /\ (m.ρ κ).n = List.length xs /\ (m.ρ κ).sz = t.nc
 disj : ∀ κ κ' b, κ ≠ κ' -> φ' κ b -> ¬ φ' κ' b
 loose : ∀ κ b, φ' κ b -> ¬ χ' b
 fzφ : ∀ κ b, φ' κ b -> ¬ fz' b
 fzχ : ∀ b, χ' b -> ¬ fz' b
 fz : ∀ b, m.fz b -> fz' b /\ w'.heap[b]? = m.w.heap[b]?
 ltf : ∀ b, fz' b -> b < w'.heap.size
 ltχ : ∀ b, χ' b -> b < w'.heap.size
 orig : ∀ b, (χ' b \/ ∃ κ, φ' κ b) -> (m.χ b \/ ∃ κ, m.φ κ b) \/ m.w.heap.size <= b
 keep : ∀ b, b < m.w.heap.size -> ¬ (m.χ b \/ ∃ κ, m.φ κ b) -> w'.heap[b]? = m.w.heap[b]?
 size : m.w.heap.size <= w'.heap.size
 os : w'.os = m.w.os
 tape : w'.tape = m.w.tape
 output : w'.output = m.w.output
 fzo : ∀ b, fz' b -> m.fz b \/ (m.χ b \/ ∃ κ, m.φ κ b) \/ m.w.heap.size <= b
def M.came (m : M) (h' : Heap) (φ' : Nat -> Nat -> Prop) (χ' fz' : Nat -> Prop) (w' : World) : M := { m with h := h', φ := φ', χ := χ', fz := fz', w := w' }
theorem q9x {m : M} (H : HR m) {h' : Heap} {φ' : Nat -> Nat -> Prop} {χ' fz' : Nat -> Prop} {w' : World} (C : Came m h' φ' χ' fz' w') : Ext m (m.came h' φ' χ' fz' w') where
 used := fun κ h => ⟨by
  rcases C.slot κ with ⟨e, _⟩ | ⟨t0, xs0, v0, t, xs, v, _, e, _⟩
  ·show (h' κ).used; rw [e]; exact h
  ·show (h' κ).used; rw [e]; trivial, rfl⟩
 fz := C.fz
 row := fun κ t xs v hu hr => by
  have hr : h' κ = .live (.row t xs v) := hr
  rcases C.slot κ with ⟨e, _, hw⟩ | ⟨t0, xs0, v0, t', xs', v', e0, e, hlt, _⟩
  ·refine ⟨t, xs, v, by rw [<- e]; exact hr, .inr ⟨e, fun b off hA => hw b (q5J H (by rw [<- e]; exact hr) hA)⟩⟩
  ·rw [e] at hr
   injection hr with hr; injection hr with _ _ e3
   exact ⟨t0, xs0, v0, e0, .inl (by omega)⟩
 orig := C.orig
 gl := rfl
 keep := C.keep
 size := C.size
 os := C.os
 tape := C.tape
 output := C.output
 fzo := C.fzo
theorem qf2 {m : M} (H : HR m) {h' : Heap} {φ' : Nat -> Nat -> Prop} {χ' fz' : Nat -> Prop} {w' : World} (C : Came m h' φ' χ' fz' w') : HR (m.came h' φ' χ' fz' w') where
 res := fun κ r hr => by
  have hr : h' κ = .live r := hr
  rcases C.slot κ with ⟨e, eφ, hw⟩ | ⟨t0, xs0, v0, t', xs', v', e0, e, hlt, ho, hn, hs⟩
  ·show ResR _ κ r (φ' κ)
   rw [eφ]
   rw [e] at hr
   exact (H.res κ r hr).keep (q9x H C) (by rw [hr]; trivial) hw
  ·rw [e] at hr
   injection hr with hr
   subst hr
   exact ⟨ho, hn, hs⟩
 dead := fun κ hd b => by
  rcases C.slot κ with ⟨e, eφ, _⟩ | ⟨t0, xs0, v0, t', xs', v', e0, e, _⟩
  ·show ¬ φ' κ b
   rw [eφ]
   exact H.dead κ (fun r hr => hd r (by show h' κ = _; rw [e]; exact hr)) b
  ·exact absurd e (hd _)
 disj := C.disj
 loose := C.loose
 fzφ := C.fzφ
 fzχ := C.fzχ
 ltf := C.ltf
 ltχ := C.ltχ
 glob := fun b o h => ⟨(C.fz b (H.glob b o h).2).2.trans (H.glob b o h).1, (C.fz b (H.glob b o h).2).1⟩

def q2R (w : World) (fz : Nat -> Prop) : (ps : List Par) -> List Value -> jQ ps -> (Nat -> Prop) -> Prop
 | [], _, _, φ => Nil φ
 | .mut _ :: ps, vs, x, φ => q2R w fz ps vs.tail x.2 φ
 | .ptr t :: ps, vs, x, φ => ∃ v r φ1 φ2, vs = v :: r /\ BoxO w fz t v x.1 φ1 /\ q2R w fz ps r x.2 φ2 /\ Two φ φ1 φ2
 | .clo f caps :: ps, vs, x, φ => ∃ (qs : List Value) (r : List Value) (φ1 φ2 : Nat -> Prop), vs = .func (.func f) #[] qs.toArray :: r /\ zX w fz caps qs x.1 φ1 /\ q2R w fz ps r x.2 φ2 /\ Two φ φ1 φ2
 | .val _ :: ps, vs, x, φ => q2R w fz ps vs.tail x φ
 | .own _ :: ps, vs, x, φ => q2R w fz ps vs.tail x φ
 | .cptr _ :: ps, vs, x, φ => q2R w fz ps vs.tail x φ
 | .pptr t :: ps, vs, x, φ => ∃ br v0 r φ1 φ2, vs = .pointer (some ⟨br, 0, none⟩) :: r /\ q0K w br v0 /\ BoxO w fz t v0 x.1 φ1 /\ q2R w fz ps r x.2 φ2 /\ Two φ φ1 φ2
 | .rclo f caps :: ps, vs, x, φ => ∃ (q0 : Value) (qs : List Value) (r : List Value) (φ1 φ2 : Nat -> Prop), vs = .func (.func f) #[] (q0 :: qs).toArray :: r /\ zX w fz caps qs x.1 φ1 /\ q2R w fz ps r x.2 φ2 /\ Two φ φ1 φ2
section
variable {P : Program} {V : Nat -> Sig} {F : Tr.Fs V} {m : M}
def qft (m : M) (w' : World) (fz' : Nat -> Prop) (φ0 : Nat -> Prop) (ks : List Nat) (mu : Upd) (φm : Nat -> Prop) (Φ : Nat -> Nat -> Prop) : Prop :=
 keysOf mu = ks /\ (∀ p ∈ mu, MutE m w' fz' p.1 p.2 (Φ p.1)) /\ (∀ κ ∈ ks, ∀ b, Φ κ b -> φm b \/ (m.φ κ b /\ ¬ φ0 b)) /\ ∀ κ κ' b, κ ∈ ks -> κ' ∈ ks -> κ ≠ κ' -> Φ κ b -> ¬ Φ κ' b
theorem q5g {φ φ1 φ2 φm φp : Nat -> Prop} (h : Two φ φ1 φ2) (k : Two φ2 φm φp) : Two φ φm (fun b => φ1 b \/ φp b) /\ Two (fun b => φ1 b \/ φp b) φ1 φp := by
 refine ⟨⟨fun b hb hb' => ?_, fun b => ?_⟩, fun b hb hb' => h.1 b hb ((k.2 b).2 (.inr hb')), fun _ => Iff.rfl⟩
 ·rcases hb' with hb' | hb'
  ·exact h.1 b hb' ((k.2 b).2 (.inl hb))
  ·exact k.1 b hb hb'
 ·rw [h.2, k.2]
  exact ⟨fun h => h.elim (fun h => .inr (.inl h)) fun h => h.elim .inl fun h => .inr (.inr h), fun h => h.elim (fun h => .inr (.inl h)) fun h => h.elim .inl fun h => .inr (.inr h)⟩
theorem q1v (H : HR m) {w' : World} {fz' : Nat -> Prop} (hF : ∀ b, m.fz b -> fz' b /\ w'.heap[b]? = m.w.heap[b]?) {g : List Nat} {φ0 : Nat -> Prop} (hkeep : ∀ κ b, m.φ κ b -> ¬ φ0 b -> w'.heap[b]? = m.w.heap[b]?) : ∀ {ps : List Par} {vs : List Value} {is : List ArgI} {x : jQ ps} {φ : Nat -> Prop} {mu : Upd} {rd : List Nat}, zD V F m g φ0 ps vs is -> wW w' fz' ps vs x φ -> (∀ κ b, φ b -> m.φ κ b -> φ0 b) ->
  (outM (V := V) ps x is).run F m.h = some (mu, rd) -> (qz is).Nodup -> ∃ (Φ : Nat -> Nat -> Prop) (φm φp : Nat -> Prop), Two φ φm φp /\ q2R w' fz' ps vs x φp /\ qft m w' fz' φ0 (qz is) mu φm Φ
 | [], vs, is, x, φ, mu, rd, hi, ho, hs, hr, hn => by
  have hr : (Tr.ret (V := V) ([] : Upd)).run F m.h = some (mu, rd) := by cases is <;> exact hr
  obtain ⟨rfl, _⟩ := Tr.q9 hr
  have hm : qz is = [] := by match vs, is, hi with | [], [], _ => rfl
  rw [hm]
  exact ⟨fun _ _ => False, fun _ => False, φ, ⟨fun _ h => h.elim, fun b => ⟨.inr, fun h => h.elim False.elim id⟩⟩, ho, rfl, fun p h => (by cases h), fun κ h => (by cases h), fun κ _ _ h => (by cases h)⟩
 | .mut t :: ps, v :: vs, i :: is, x, φ, mu, rd, ⟨hi, his⟩, ho, hs, hr, hn => by
  obtain ⟨_, φa, ha1, ha2, hB⟩ := hi
  have hm : qz (i :: is) = qD i.muts ++ qz is := by simp [qz]
  rw [hm] at hn ⊢
  obtain ⟨n1, n2, n3⟩ := List.nodup_append.1 hn
  obtain ⟨v', r', φ1, φ2, e, k1, k2, k3⟩ := ho
  injection e with e1 e2
  subst e1; subst e2
  obtain ⟨⟨u1, rest⟩, r1, r2, g1, g2, _⟩ := Tr.bind_some hr
  obtain ⟨u2, r3, r4, g3, g4, _⟩ := Tr.bind_some g2
  obtain ⟨rfl, _⟩ := Tr.q9 g4
  obtain ⟨_, e1, Φ1, a1, a2, a3⟩ := hB w' fz' x.1 φ1 hF (fun κ hκ b hb hnb => hkeep κ b hb fun h => hnb (ha1 κ hκ b hb h)) k1 (fun κ hκ b hb hb' => ha1 κ hκ b hb' (hs κ b ((k3.2 b).2 (.inl hb)) hb')) [] u1 rest r1 (by rw [List.append_nil]; exact g1)
  obtain ⟨Φ2, φm, φp, k4, k5, e2, b1, b2, b3⟩ := q1v H hF hkeep his k2 (fun κ b hb hb' => hs κ b ((k3.2 b).2 (.inr hb)) hb') g3 n2
  have hin : ∀ κ, κ ∈ qz is -> κ ∉ qD i.muts := fun κ h h' => n3 κ h' κ h rfl
  have a2' : ∀ κ ∈ qD i.muts, ∀ b, Φ1 κ b -> φ1 b \/ (m.φ κ b /\ ¬ φ0 b) := fun κ hκ b hb => (a2 κ hκ b hb).imp id fun h => ⟨h.1, fun h' => h.2 (ha1 κ hκ b h.1 h')⟩
  have cross : ∀ κ κ' b, κ ∈ qD i.muts -> κ' ∈ qz is -> Φ1 κ b -> ¬ Φ2 κ' b := fun κ κ' b hκ hκ' hb hb' => by
   rcases a2' κ hκ b hb with h | h <;> rcases b2 κ' hκ' b hb' with h' | h'
   ·exact k3.1 b h ((k4.2 b).2 (.inl h'))
   ·exact h'.2 (hs κ' b ((k3.2 b).2 (.inl h)) h'.1)
   ·exact h.2 (hs κ b ((k3.2 b).2 (.inr ((k4.2 b).2 (.inl h')))) h.1)
   ·exact H.disj κ κ' b (n3 κ hκ κ' hκ') h.1 h'.1
  refine ⟨fun κ => if κ ∈ qD i.muts then Φ1 κ else Φ2 κ, fun b => φ1 b \/ φm b, φp, ⟨fun b hb hb' => ?_, fun b => ?_⟩, k5, by rw [qj, e1, e2], fun p hp => ?_, fun κ hκ b hb => ?_, fun κ κ' b hκ hκ' hne hb hb' => ?_⟩
  ·rcases hb with hb | hb
   ·exact k3.1 b hb ((k4.2 b).2 (.inr hb'))
   ·exact k4.1 b hb hb'
  ·rw [k3.2, k4.2]
   exact ⟨fun h => h.elim (fun h => .inl (.inl h)) fun h => h.elim (fun h => .inl (.inr h)) .inr, fun h => h.elim (fun h => h.elim .inl fun h => .inr (.inl h)) fun h => .inr (.inr h)⟩
  ·rcases List.mem_append.1 hp with hp | hp
   ·have : p.1 ∈ qD i.muts := by rw [<- e1]; exact List.mem_map_of_mem hp
    simp only [this, if_true]
    exact a1 p hp
   ·have : p.1 ∈ qz is := by rw [<- e2]; exact List.mem_map_of_mem hp
    simp only [hin _ this, if_false]
    exact b1 p hp
  ·by_cases hm : κ ∈ qD i.muts
   ·simp only [hm, if_true] at hb
    exact (a2' κ hm b hb).imp .inl id
   ·simp only [hm, if_false] at hb
    exact (b2 κ ((List.mem_append.1 hκ).resolve_left hm) b hb).imp .inr id
  ·by_cases hm : κ ∈ qD i.muts <;> by_cases hm' : κ' ∈ qD i.muts
   ·simp only [hm, if_true] at hb
    simp only [hm', if_true] at hb'
    exact a3 κ κ' b hm hm' hne hb hb'
   ·simp only [hm, if_true] at hb
    simp only [hm', if_false] at hb'
    exact cross κ κ' b hm ((List.mem_append.1 hκ').resolve_left hm') hb hb'
   ·simp only [hm, if_false] at hb
    simp only [hm', if_true] at hb'
    exact cross κ' κ b hm' ((List.mem_append.1 hκ).resolve_left hm) hb' hb
   ·simp only [hm, if_false] at hb
    simp only [hm', if_false] at hb'
    exact b3 κ κ' b ((List.mem_append.1 hκ).resolve_left hm) ((List.mem_append.1 hκ').resolve_left hm') hne hb hb'
 | .ptr t :: ps, v :: vs, i :: is, x, φ, mu, rd, ⟨hi, his⟩, ho, hs, hr, hn => by
  have hm : qz (i :: is) = qz is := by simp [qz, hi.1, qD]
  rw [hm] at hn ⊢
  obtain ⟨v', r', φ1, φ2, e, k1, k2, k3⟩ := ho
  injection e with e1 e2
  subst e1; subst e2
  obtain ⟨Φ, φm, φp, k4, k5, k6⟩ := q1v H hF hkeep his k2 (fun κ b hb hb' => hs κ b ((k3.2 b).2 (.inr hb)) hb') hr hn
  obtain ⟨k7, k8⟩ := q5g k3 k4
  exact ⟨Φ, φm, _, k7, ⟨_, _, φ1, φp, rfl, k1, k5, k8⟩, k6⟩
 | .clo f caps :: ps, v :: vs, i :: is, x, φ, mu, rd, ⟨hi, his⟩, ho, hs, hr, hn => by
  have hm : qz (i :: is) = qz is := by simp [qz, hi.1, qD]
  rw [hm] at hn ⊢
  obtain ⟨qs, r', φ1, φ2, e, k1, k2, k3⟩ := ho
  injection e with e1 e2
  subst e2
  obtain ⟨Φ, φm, φp, k4, k5, k6⟩ := q1v H hF hkeep his k2 (fun κ b hb hb' => hs κ b ((k3.2 b).2 (.inr hb)) hb') hr hn
  obtain ⟨k7, k8⟩ := q5g k3 k4
  exact ⟨Φ, φm, _, k7, ⟨qs, _, φ1, φp, by rw [e1], k1, k5, k8⟩, k6⟩
 | .pptr t :: ps, v :: vs, i :: is, x, φ, mu, rd, ⟨hi, his⟩, ho, hs, hr, hn => by
  have hm : qz (i :: is) = qz is := by simp [qz, hi.1, qD]
  rw [hm] at hn ⊢
  obtain ⟨br, v0, r', φ1, φ2, e, k0, k1, k2, k3⟩ := ho
  injection e with e1 e2
  subst e2
  obtain ⟨Φ, φm, φp, k4, k5, k6⟩ := q1v H hF hkeep his k2 (fun κ b hb hb' => hs κ b ((k3.2 b).2 (.inr hb)) hb') hr hn
  obtain ⟨k7, k8⟩ := q5g k3 k4
  exact ⟨Φ, φm, _, k7, ⟨br, v0, _, φ1, φp, by rw [e1], k0, k1, k5, k8⟩, k6⟩
 | .rclo f caps :: ps, v :: vs, i :: is, x, φ, mu, rd, ⟨hi, his⟩, ho, hs, hr, hn => by
  have hm : qz (i :: is) = qz is := by simp [qz, hi.1, qD]
  rw [hm] at hn ⊢
  obtain ⟨q0, qs, r', φ1, φ2, e, k1, k2, k3⟩ := ho
  injection e with e1 e2
  subst e2
  obtain ⟨Φ, φm, φp, k4, k5, k6⟩ := q1v H hF hkeep his k2 (fun κ b hb hb' => hs κ b ((k3.2 b).2 (.inr hb)) hb') hr hn
  obtain ⟨k7, k8⟩ := q5g k3 k4
  exact ⟨Φ, φm, _, k7, ⟨q0, qs, _, φ1, φp, by rw [e1], k1, k5, k8⟩, k6⟩
 | .val t :: ps, v :: vs, i :: is, x, φ, mu, rd, ⟨hi, his⟩, ho, hs, hr, hn => by
  have hm : qz (i :: is) = qz is := by simp [qz, show i.muts = [] from hi.1, qD]
  rw [hm] at hn ⊢
  exact q1v (ps := ps) H hF hkeep his ho hs hr hn
 | .own t :: ps, v :: vs, i :: is, x, φ, mu, rd, ⟨hi, his⟩, ho, hs, hr, hn => by
  have hm : qz (i :: is) = qz is := by simp [qz, show i.muts = [] from hi.1, qD]
  rw [hm] at hn ⊢
  exact q1v (ps := ps) H hF hkeep his ho hs hr hn
 | .cptr t :: ps, v :: vs, i :: is, x, φ, mu, rd, ⟨hi, his⟩, ho, hs, hr, hn => by
  have hm : qz (i :: is) = qz is := by simp [qz, show i.muts = [] from hi.1, qD]
  rw [hm] at hn ⊢
  exact q1v (ps := ps) H hF hkeep his ho hs hr hn

structure Step (m m' : M) (u : Upd) (j j' : Nat) : Prop where
 hr : HR m'
 ext : Ext m m'
 h : m'.h = m.h.upd u
 w : m'.w = m.w
 fz : m'.fz = m.fz
 χ : ∀ b, m'.χ b -> m.χ b
 le : j <= j'
theorem Step.refl (H : HR m) (j : Nat) : Step m m [] j j := ⟨H, Ext.refl m, rfl, rfl, rfl, fun _ h => h, Nat.le_refl _⟩
theorem Step.trans {m1 m2 : M} {u v : Upd} {j j1 j2 : Nat} (h : Step m m1 u j j1) (k : Step m1 m2 v j1 j2) : Step m m2 (u ++ v) j j2 :=
 ⟨k.hr, h.ext.trans k.ext, by rw [k.h, h.h, <- Heap.zN], k.w.trans h.w, k.fz.trans h.fz, fun b hb => h.χ b (k.χ b hb), Nat.le_trans h.le k.le⟩
theorem q5L (H : HR m) {t : Ty} {κ j : Nat} {x : t.D} {φ : Nat -> Prop} (hu : (m.h κ).used) (hd : ∀ r, m.h κ ≠ .live r) (hb : BoxO m.w m.fz t (ptrV m κ) x φ) (hφ : ∀ b, φ b -> m.χ b) (hf : ∀ k, j <= k -> k < (qP t κ x j).2 -> m.h k = .free) :
  ∃ m', Step m m' (qP t κ x j).1 j (qP t κ x j).2 /\ ∀ b, m'.χ b ↔ m.χ b /\ ¬ φ b := by
 obtain ⟨b, c, e, fr, ψ, e1, h2, h3, h4, h5, h6⟩ := hb
 rcases he : encO t j x with ⟨cs, u, j'⟩
 simp only [qP, he] at hf ⊢
 obtain ⟨k1, k2, m1, H1, E1, e2, w1, f1, χ1, s1⟩ := q3I H h4 (fun b' h => hφ b' ((h6 b').2 (.inr h))) he hf
 simp only [ptrV, Value.pointer.injEq, Option.some.injEq, Addr.mk.injEq, and_true] at e1
 have hρ : (m1.ρ κ).b = b := by rw [(E1.used κ hu).2]; exact e1
 have hκu : κ ∉ keysOf u := fun h => by
  have := k2 κ h
  have := hf κ this.1 this.2
  rw [this] at hu; exact hu
 have hκ1 : m1.h κ = m.h κ := by rw [e2, Heap.upd_ne _ _ _ hκu]
 have hφ1 : ∀ b', ¬ m1.φ κ b' := H1.dead κ fun r => by rw [hκ1]; exact hd r
 have hψ : ∀ b', b' = b -> m1.χ b' \/ m1.φ κ b' := fun b' h => by
  subst h
  exact .inl ((χ1 b').2 ⟨hφ b' ((h6 b').2 (.inl rfl)), h5⟩)
 have hu1 : (m1.h κ).used := by rw [hκ1]; exact hu
 have hres : ResR (m1.redo κ (.box cs) (fun b' => b' = b) m1.w) κ (.box cs) fun b' => b' = b := by
  refine ⟨c, e, fr, ?_, h3, All2.mono (fun _ _ h => (q1P (r := .box cs) H1 hu1 (Apart.refl _ _) hψ (fun t xs v h => by cases h)).sr h) s1, fun b' => ?_⟩
  ·show m1.w.heap[(m1.ρ κ).b]? = _
   rw [hρ, w1]; exact h2
  ·show b' = b ↔ b' = (m1.ρ κ).b
   rw [hρ]
 refine ⟨m1.redo κ (.box cs) (fun b' => b' = b) m1.w, ⟨q4Q H1 hu1 (Apart.refl _ _) hψ (fun t xs v h => by cases h) hres, E1.trans (q1P H1 hu1 (Apart.refl _ _) hψ (fun t xs v h => by cases h)), ?_, w1, f1, fun b' h => ?_, k1⟩, fun b' => ?_⟩
 ·show m1.h.set κ _ = _
  rw [e2, Heap.zN]; rfl
 ·rcases h.1 with h' | h'
  ·exact ((χ1 b').1 h').1
  ·exact (hφ1 b' h').elim
 ·show (m1.χ b' \/ m1.φ κ b') /\ ¬ b' = b ↔ _
  rw [χ1, h6]
  constructor
  ·rintro ⟨h | h, hne⟩
   ·exact ⟨h.1, fun h' => h'.elim hne h.2⟩
   ·exact (hφ1 b' h).elim
  ·rintro ⟨h, hne⟩
   exact ⟨.inl ⟨h, fun h' => hne (.inr h')⟩, fun h' => hne (.inl h')⟩
theorem q5S (H : HR m) {t : Ty} {κ j : Nat} {x : t.D} {v : Value} {φ : Nat -> Prop} (hκ : m.h κ = .free) (hlt : κ < j) (hb : BoxO m.w m.fz t v x φ) (hφ : ∀ b, φ b -> m.χ b) (hf : ∀ k, j <= k -> k < (qP t κ x j).2 -> m.h k = .free) :
  ∃ m', Step m m' (qP t κ x j).1 j (qP t κ x j).2 /\ (∀ b, m'.χ b ↔ m.χ b /\ ¬ φ b) /\ m'.SR (.ptr κ 0) v := by
 obtain ⟨b, c, e, fr, ψ, e1, h2, h3, h4, h5, h6⟩ := hb
 rcases he : encO t j x with ⟨cs, u, j'⟩
 simp only [qP, he] at hf ⊢
 obtain ⟨k1, k2, m1, H1, E1, e2, w1, f1, χ1, s1⟩ := q3I H h4 (fun b' h => hφ b' ((h6 b').2 (.inr h))) he hf
 have hκu : κ ∉ keysOf u := fun h => by have := k2 κ h; omega
 have hκ1 : m1.h κ = .free := by rw [e2, Heap.upd_ne _ _ _ hκu]; exact hκ
 have hψ : ∀ b', b' = b -> m1.χ b' := fun b' h => by
  subst h
  exact (χ1 b').2 ⟨hφ b' ((h6 b').2 (.inl rfl)), h5⟩
 let l : Loc := ⟨b, none, 0, 0, 0⟩
 have hres : ResR (m1.take κ (.box cs) l fun b' => b' = b) κ (.box cs) fun b' => b' = b := by
  refine ⟨c, e, fr, ?_, h3, All2.mono (fun _ _ h => (q0u (r := .box cs) (l := l) hκ1 hψ).sr h) s1, fun b' => ?_⟩
  ·show m1.w.heap[(fset m1.ρ κ l κ).b]? = _
   rw [qU, w1]; exact h2
  ·show b' = b ↔ b' = (fset m1.ρ κ l κ).b
   rw [qU]
 refine ⟨m1.take κ (.box cs) l fun b' => b' = b, ⟨q4P H1 hκ1 hψ hres, E1.trans (q0u hκ1 hψ), ?_, w1, f1, fun b' h => ((χ1 b').1 h.1).1, k1⟩, fun b' => ?_, ?_, ?_⟩
 ·show m1.h.set κ _ = _
  rw [e2, Heap.zN]; rfl
 ·show m1.χ b' /\ ¬ b' = b ↔ _
  rw [χ1, h6]
  exact ⟨fun h => ⟨h.1.1, fun h' => h'.elim h.2 h.1.2⟩, fun h => ⟨⟨h.1, fun h' => h.2 (.inr h')⟩, fun h' => h.2 (.inl h')⟩⟩
 ·show (m1.h.set κ _ κ).used
  rw [Heap.wD]; trivial
 ·show v = Value.pointer (some ⟨(fset m1.ρ κ l κ).b, 0, none⟩)
  rw [qU, e1]
end
end Go.Den
namespace Go.Den
open Go

section
variable {P : Program} {V : Nat -> Sig} {F : Tr.Fs V} {m m0 : M}
theorem q3d : ∀ (t : Ty) (j : Nat) (x : t.D), ∀ k ∈ keysOf (encO t j x).2.1, j <= k /\ k < (encO t j x).2.2
 | .int _, j, x, k, h => by cases h
 | .bool, j, x, k, h => by cases h
 | .str, j, x, k, h => by cases h
 | .one, j, x, k, h => by cases h
 | .ls _, j, x, k, h => by cases h
 | .sl t, j, x, k, h => by simp only [encO, keysOf, List.map_cons, List.map_nil, List.mem_singleton] at h ⊢; omega
 | .pr a b, j, x, k, h => by
  rcases he1 : encO a j x.1 with ⟨c1, u1, j1⟩
  rcases he2 : encO b j1 x.2 with ⟨c2, u2, j2⟩
  have h1 := q3d a j x.1
  have h2 := q3d b j1 x.2
  have h3 := q1R a j x.1
  have h4 := q1R b j1 x.2
  rw [he1] at h1 h3
  rw [he2] at h2 h4
  simp only [encO, he1, he2, qj, List.mem_append] at h ⊢
  rcases h with h | h
  ·have := h1 k h; simp only at this h3 h4; omega
  ·have := h2 k h; simp only at this h3 h4; omega
theorem zy (t : Ty) (κ : Nat) (x : t.D) (j : Nat) : j <= (qP t κ x j).2 /\ ∀ k ∈ keysOf (qP t κ x j).1, k = κ \/ (j <= k /\ k < (qP t κ x j).2) := by
 refine ⟨q1R t j x, fun k hk => ?_⟩
 simp only [qP, qj, List.mem_append] at hk ⊢
 rcases hk with hk | hk
 ·exact .inr (q3d t j x k hk)
 ·simp only [keysOf, List.map_cons, List.map_nil, List.mem_singleton] at hk; exact .inl hk
def Gone (m m0 : M) (κ : Nat) : Prop := m.h κ = .gone /\ m.ρ κ = m0.ρ κ
theorem Gone.step {m' : M} {u : Upd} {j j' κ : Nat} (h : Gone m m0 κ) (s : Step m m' u j j') (hk : κ ∉ keysOf u) : Gone m' m0 κ :=
 ⟨by rw [s.h, Heap.upd_ne _ _ _ hk]; exact h.1, by rw [(s.ext.used κ (by rw [h.1]; trivial)).2]; exact h.2⟩
theorem Gone.ptrV {κ : Nat} (h : Gone m m0 κ) : ptrV m0 κ = ptrV m κ := by unfold Den.ptrV; rw [h.2]
theorem q1d : ∀ {caps : List (Ty × Bool)} {bs : List Nat} {x : q06 caps} {j : Nat} {u : Upd} {j' : Nat}, zF caps x bs j = some (u, j') -> j <= j' /\ ∀ k ∈ keysOf u, k ∈ bs \/ (j <= k /\ k < j')
 | [], bs, x, j, u, j', h => by
  have h : some (([] : Upd), j) = some (u, j') := by cases bs <;> exact h
  obtain ⟨rfl, rfl⟩ := Prod.mk.inj (Option.some.inj h)
  exact ⟨Nat.le_refl _, fun k h => by cases h⟩
 | (t, true) :: cs, κ :: bs, x, j, u, j', h => by
  have h : (zF cs x.2 bs (qP t κ x.1 j).2).map (fun q => ((qP t κ x.1 j).1 ++ q.1, q.2)) = some (u, j') := h
  obtain ⟨⟨u2, j2⟩, h2, h3⟩ := Option.map_eq_some_iff.1 h
  obtain ⟨rfl, rfl⟩ := Prod.mk.inj h3
  obtain ⟨b1, b2⟩ := zy t κ x.1 j
  obtain ⟨c1, c2⟩ := q1d h2
  refine ⟨Nat.le_trans b1 c1, fun k hk => ?_⟩
  rw [qj] at hk
  rcases List.mem_append.1 hk with hk | hk
  ·rcases b2 k hk with rfl | h'
   ·exact .inl (by simp)
   ·exact .inr ⟨h'.1, Nat.lt_of_lt_of_le h'.2 c1⟩
  ·rcases c2 k hk with h' | h'
   ·exact .inl (by simp [h'])
   ·exact .inr ⟨Nat.le_trans b1 h'.1, h'.2⟩
 | (t, true) :: cs, [], x, j, u, j', h => by cases h
 | (t, false) :: cs, bs, x, j, u, j', h => q1d (caps := cs) (bs := bs) (x := x) h
theorem q4a {g : List Nat} : ∀ {caps : List (Ty × Bool)} {ks bs : List Nat} {x : q06 caps} {φ : Nat -> Prop} {j : Nat} {u : Upd} {j' : Nat} {m : M}, HR m -> CapI m0 g caps ks bs -> zX m.w m.fz caps (ks.map (ptrV m0)) x φ -> (∀ b, φ b -> m.χ b) ->
  zF caps x bs j = some (u, j') -> bs.Nodup -> (∀ κ ∈ bs, Gone m m0 κ) -> (∀ k, j <= k -> k < j' -> m.h k = .free) -> ∃ m', Step m m' u j j' /\ ∀ b, m'.χ b ↔ m.χ b /\ ¬ φ b
 | [], ks, bs, x, φ, j, u, j', m, H, _, ho, hφ, he, hn, hg, hf => by
  have he : some (([] : Upd), j) = some (u, j') := by cases bs <;> exact he
  obtain ⟨rfl, rfl⟩ := Prod.mk.inj (Option.some.inj he)
  exact ⟨m, Step.refl H j, fun b => ⟨fun h => ⟨h, ho b⟩, fun h => h.1⟩⟩
 | (t, true) :: cs, κ :: ks, κ' :: bs, x, φ, j, u, j', m, H, ⟨hκ, hkg, hc⟩, ho, hφ, he, hn, hg, hf => by
  subst hκ
  obtain ⟨v, r, φ1, φ2, e, k1, k2, k3⟩ := ho
  injection e with e1 e2
  subst e1; subst e2
  have he : (zF cs x.2 bs (qP t κ x.1 j).2).map (fun q => ((qP t κ x.1 j).1 ++ q.1, q.2)) = some (u, j') := he
  obtain ⟨⟨u2, j2⟩, h2, h3⟩ := Option.map_eq_some_iff.1 he
  obtain ⟨rfl, rfl⟩ := Prod.mk.inj h3
  obtain ⟨n1, n2⟩ := List.nodup_cons.1 hn
  obtain ⟨b1, b2⟩ := zy t κ x.1 j
  have hgκ := hg κ (by simp)
  obtain ⟨key, _⟩ := q1d h2
  obtain ⟨m1, s1, χ1⟩ := q5L H (by rw [hgκ.1]; trivial) (fun r h => by rw [hgκ.1] at h; cases h) (hgκ.ptrV ▸ k1) (fun b h => hφ b ((k3.2 b).2 (.inl h))) (fun k h1 h2 => hf k h1 (by omega))
  have hnk : ∀ κ' ∈ bs, κ' ∉ keysOf (qP t κ x.1 j).1 := fun κ' h hk => by
   rcases b2 κ' hk with rfl | h'
   ·exact n1 h
   ·have := hf κ' h'.1 (by omega)
    rw [(hg κ' (by simp [h])).1] at this; cases this
  obtain ⟨m2, s2, χ2⟩ := q4a s1.hr hc (by rw [s1.w, s1.fz]; exact k2) (fun b h => (χ1 b).2 ⟨hφ b ((k3.2 b).2 (.inr h)), fun h' => k3.1 b h' h⟩) h2 n2 (fun κ' h => (hg κ' (by simp [h])).step s1 (hnk κ' h)) (fun k h1 h2' => by
   rw [s1.h, Heap.upd_ne _ _ _ fun hk => ?_]
   ·exact hf k (by omega) h2'
   ·rcases b2 k hk with rfl | h'
    ·have := hf k (by omega) h2'
     rw [hgκ.1] at this; cases this
    ·omega)
  refine ⟨m2, s1.trans s2, fun b => ?_⟩
  rw [χ2, χ1, k3.2]
  exact ⟨fun h => ⟨h.1.1, fun h' => h'.elim h.1.2 h.2⟩, fun h => ⟨⟨h.1, fun h' => h.2 (.inl h')⟩, fun h' => h.2 (.inr h')⟩⟩
 | (t, true) :: cs, [], bs, x, φ, j, u, j', m, H, hc, ho, hφ, he, hn, hg, hf => hc.elim
 | (t, true) :: cs, _ :: _, [], x, φ, j, u, j', m, H, hc, ho, hφ, he, hn, hg, hf => hc.elim
 | (t, false) :: cs, ks, bs, x, φ, j, u, j', m, H, hc, ho, hφ, he, hn, hg, hf => by
  have ho : zX m.w m.fz cs (ks.map (ptrV m0)).tail x φ := ho
  rw [show (ks.map (ptrV m0)).tail = ks.tail.map (ptrV m0) by cases ks <;> rfl] at ho
  exact q4a (caps := cs) H hc ho hφ he hn hg hf
theorem jA {g : List Nat} {φ0 : Nat -> Prop} {h0 : Heap} : ∀ {ps : List Par} {vs : List Value} {is : List ArgI} {x : jQ ps} {j : Nat} {u : Upd} {j' : Nat} {rd : List Nat}, zD V F m0 g φ0 ps vs is -> (outP (V := V) ps x is j).run F h0 = some ((u, j'), rd) ->
  j <= j' /\ ∀ k ∈ keysOf u, k ∈ qF is \/ (j <= k /\ k < j')
 | [], vs, is, x, j, u, j', rd, hi, hr => by
  have hr : (Tr.ret (V := V) (([], j) : Upd × Nat)).run F h0 = some ((u, j'), rd) := by cases is <;> exact hr
  obtain ⟨e, _⟩ := Tr.q9 hr
  obtain ⟨rfl, rfl⟩ := Prod.mk.inj e
  exact ⟨Nat.le_refl _, fun k h => by cases h⟩
 | .mut t :: ps, v :: vs, i :: is, x, j, u, j', rd, ⟨hi, his⟩, hr => by
  obtain ⟨h1, h2⟩ := jA (ps := ps) his hr
  exact ⟨h1, fun k hk => (h2 k hk).imp (fun h => by simp [qF] at h ⊢; exact .inr h) id⟩
 | .val t :: ps, v :: vs, i :: is, x, j, u, j', rd, ⟨hi, his⟩, hr => by
  obtain ⟨h1, h2⟩ := jA (ps := ps) his hr
  exact ⟨h1, fun k hk => (h2 k hk).imp (fun h => by simp [qF] at h ⊢; exact .inr h) id⟩
 | .own t :: ps, v :: vs, i :: is, x, j, u, j', rd, ⟨hi, his⟩, hr => by
  obtain ⟨h1, h2⟩ := jA (ps := ps) his hr
  exact ⟨h1, fun k hk => (h2 k hk).imp (fun h => by simp [qF] at h ⊢; exact .inr h) id⟩
 | .cptr t :: ps, v :: vs, i :: is, x, j, u, j', rd, ⟨hi, his⟩, hr => by
  obtain ⟨h1, h2⟩ := jA (ps := ps) his hr
  exact ⟨h1, fun k hk => (h2 k hk).imp (fun h => by simp [qF] at h ⊢; exact .inr h) id⟩
 | .ptr t :: ps, v :: vs, i :: is, x, j, u, j', rd, ⟨⟨_, κ, hb, _⟩, his⟩, hr => by
  have hr : (match i.boxes with
   | [κ] => (outP (V := V) ps x.2 is (qP t κ x.1 j).2).bind fun q => .ret ((qP t κ x.1 j).1 ++ q.1, q.2)
   | _ => .no : Tr V (Upd × Nat)).run F h0 = some ((u, j'), rd) := hr
  rw [hb] at hr
  obtain ⟨⟨u2, j2⟩, r1, r2, h2, h3, _⟩ := Tr.bind_some hr
  obtain ⟨e, _⟩ := Tr.q9 h3
  obtain ⟨rfl, rfl⟩ := Prod.mk.inj e
  obtain ⟨b1, b2⟩ := zy t κ x.1 j
  obtain ⟨c1, c2⟩ := jA his h2
  refine ⟨Nat.le_trans b1 c1, fun k hk => ?_⟩
  have hba : qF (i :: is) = κ :: qF is := by simp [qF, hb]
  rw [qj] at hk
  rw [hba]
  rcases List.mem_append.1 hk with hk | hk
  ·rcases b2 k hk with rfl | h'
   ·exact .inl (by simp)
   ·exact .inr ⟨h'.1, Nat.lt_of_lt_of_le h'.2 c1⟩
  ·rcases c2 k hk with h' | h'
   ·exact .inl (by simp [h'])
   ·exact .inr ⟨Nat.le_trans b1 h'.1, h'.2⟩
 | .clo f caps :: ps, v :: vs, i :: is, x, j, u, j', rd, ⟨hi, his⟩, hr => by
  have hr : (match zF caps x.1 i.boxes j with
   | some (u, j1) => (outP (V := V) ps x.2 is j1).bind fun q => .ret (u ++ q.1, q.2)
   | none => .no : Tr V (Upd × Nat)).run F h0 = some ((u, j'), rd) := hr
  cases hc : zF caps x.1 i.boxes j with
  | none => rw [hc] at hr; exact (Tr.q8 hr).elim
  | some p =>
   obtain ⟨u1, j1⟩ := p
   rw [hc] at hr
   obtain ⟨⟨u2, j2⟩, r1, r2, h2, h3, _⟩ := Tr.bind_some hr
   obtain ⟨e, _⟩ := Tr.q9 h3
   obtain ⟨rfl, rfl⟩ := Prod.mk.inj e
   obtain ⟨b1, b2⟩ := q1d hc
   obtain ⟨c1, c2⟩ := jA his h2
   refine ⟨Nat.le_trans b1 c1, fun k hk => ?_⟩
   have hba : qF (i :: is) = i.boxes ++ qF is := by simp [qF]
   rw [qj] at hk
   rw [hba, List.mem_append]
   rcases List.mem_append.1 hk with hk | hk
   ·rcases b2 k hk with h' | h'
    ·exact .inl (.inl h')
    ·exact .inr ⟨h'.1, Nat.lt_of_lt_of_le h'.2 c1⟩
   ·rcases c2 k hk with h' | h'
    ·exact .inl (.inr h')
    ·exact .inr ⟨Nat.le_trans b1 h'.1, h'.2⟩
 | .pptr t :: ps, v :: vs, i :: is, x, j, u, j', rd, ⟨⟨_, κ, κr, hb, _⟩, his⟩, hr => by
  have hr : (match i.boxes with
   | [κ] => (outP (V := V) ps x.2 is (qP t κ x.1 j).2).bind fun q => .ret ((qP t κ x.1 j).1 ++ q.1, q.2)
   | _ => .no : Tr V (Upd × Nat)).run F h0 = some ((u, j'), rd) := hr
  rw [hb] at hr
  obtain ⟨⟨u2, j2⟩, r1, r2, h2, h3, _⟩ := Tr.bind_some hr
  obtain ⟨e, _⟩ := Tr.q9 h3
  obtain ⟨rfl, rfl⟩ := Prod.mk.inj e
  obtain ⟨b1, b2⟩ := zy t κ x.1 j
  obtain ⟨c1, c2⟩ := jA his h2
  refine ⟨Nat.le_trans b1 c1, fun k hk => ?_⟩
  have hba : qF (i :: is) = κ :: qF is := by simp [qF, hb]
  rw [qj] at hk
  rw [hba]
  rcases List.mem_append.1 hk with hk | hk
  ·rcases b2 k hk with rfl | h'
   ·exact .inl (by simp)
   ·exact .inr ⟨h'.1, Nat.lt_of_lt_of_le h'.2 c1⟩
  ·rcases c2 k hk with h' | h'
   ·exact .inl (by simp [h'])
   ·exact .inr ⟨Nat.le_trans b1 h'.1, h'.2⟩
 | .rclo f caps :: ps, v :: vs, i :: is, x, j, u, j', rd, ⟨hi, his⟩, hr => by
  have hr : (match zF caps x.1 i.boxes j with
   | some (u, j1) => (outP (V := V) ps x.2 is j1).bind fun q => .ret (u ++ q.1, q.2)
   | none => .no : Tr V (Upd × Nat)).run F h0 = some ((u, j'), rd) := hr
  cases hc : zF caps x.1 i.boxes j with
  | none => rw [hc] at hr; exact (Tr.q8 hr).elim
  | some p =>
   obtain ⟨u1, j1⟩ := p
   rw [hc] at hr
   obtain ⟨⟨u2, j2⟩, r1, r2, h2, h3, _⟩ := Tr.bind_some hr
   obtain ⟨e, _⟩ := Tr.q9 h3
   obtain ⟨rfl, rfl⟩ := Prod.mk.inj e
   obtain ⟨b1, b2⟩ := q1d hc
   obtain ⟨c1, c2⟩ := jA his h2
   refine ⟨Nat.le_trans b1 c1, fun k hk => ?_⟩
   have hba : qF (i :: is) = i.boxes ++ qF is := by simp [qF]
   rw [qj] at hk
   rw [hba, List.mem_append]
   rcases List.mem_append.1 hk with hk | hk
   ·rcases b2 k hk with h' | h'
    ·exact .inl (.inl h')
    ·exact .inr ⟨h'.1, Nat.lt_of_lt_of_le h'.2 c1⟩
   ·rcases c2 k hk with h' | h'
    ·exact .inl (.inr h')
    ·exact .inr ⟨Nat.le_trans b1 h'.1, h'.2⟩
theorem q1w {g : List Nat} {φ0 : Nat -> Prop} {h0 : Heap} : ∀ {ps : List Par} {vs : List Value} {is : List ArgI} {x : jQ ps} {φ : Nat -> Prop} {j : Nat} {u : Upd} {j' : Nat} {rd : List Nat} {m : M}, HR m -> zD V F m0 g φ0 ps vs is -> q2R m.w m.fz ps vs x φ -> (∀ b, φ b -> m.χ b) ->
  (outP (V := V) ps x is j).run F h0 = some ((u, j'), rd) -> (qF is).Nodup -> (∀ κ ∈ qF is, Gone m m0 κ) -> (∀ k, j <= k -> k < j' -> m.h k = .free) -> (∀ b, m0.seen (readAll is) b -> m.w.heap[b]? = m0.w.heap[b]?) -> ∃ m', Step m m' u j j' /\ ∀ b, m'.χ b ↔ m.χ b /\ ¬ φ b
 | [], vs, is, x, φ, j, u, j', rd, m, H, hi, ho, hφ, hr, hn, hg, hf, hsn => by
  have hr : (Tr.ret (V := V) (([], j) : Upd × Nat)).run F h0 = some ((u, j'), rd) := by cases is <;> exact hr
  obtain ⟨e, _⟩ := Tr.q9 hr
  obtain ⟨rfl, rfl⟩ := Prod.mk.inj e
  exact ⟨m, Step.refl H _, fun b => ⟨fun h => ⟨h, ho b⟩, fun h => h.1⟩⟩
 | .mut t :: ps, v :: vs, i :: is, x, φ, j, u, j', rd, m, H, ⟨hi, his⟩, ho, hφ, hr, hn, hg, hf, hsn => by
  have hba : qF (i :: is) = i.boxes ++ qF is := by simp [qF]
  rw [hba] at hn hg
  exact q1w (ps := ps) H his ho hφ hr (List.nodup_append.1 hn).2.1 (fun κ h => hg κ (List.mem_append_right _ h)) hf (fun b h => hsn b (yX (fun κ h => by simp [readAll] at h ⊢; exact .inr h) b h))
 | .val t :: ps, v :: vs, i :: is, x, φ, j, u, j', rd, m, H, ⟨hi, his⟩, ho, hφ, hr, hn, hg, hf, hsn => by
  have hba : qF (i :: is) = i.boxes ++ qF is := by simp [qF]
  rw [hba] at hn hg
  exact q1w (ps := ps) H his ho hφ hr (List.nodup_append.1 hn).2.1 (fun κ h => hg κ (List.mem_append_right _ h)) hf (fun b h => hsn b (yX (fun κ h => by simp [readAll] at h ⊢; exact .inr h) b h))
 | .own t :: ps, v :: vs, i :: is, x, φ, j, u, j', rd, m, H, ⟨hi, his⟩, ho, hφ, hr, hn, hg, hf, hsn => by
  have hba : qF (i :: is) = i.boxes ++ qF is := by simp [qF]
  rw [hba] at hn hg
  exact q1w (ps := ps) H his ho hφ hr (List.nodup_append.1 hn).2.1 (fun κ h => hg κ (List.mem_append_right _ h)) hf (fun b h => hsn b (yX (fun κ h => by simp [readAll] at h ⊢; exact .inr h) b h))
 | .cptr t :: ps, v :: vs, i :: is, x, φ, j, u, j', rd, m, H, ⟨hi, his⟩, ho, hφ, hr, hn, hg, hf, hsn => by
  have hba : qF (i :: is) = i.boxes ++ qF is := by simp [qF]
  rw [hba] at hn hg
  exact q1w (ps := ps) H his ho hφ hr (List.nodup_append.1 hn).2.1 (fun κ h => hg κ (List.mem_append_right _ h)) hf (fun b h => hsn b (yX (fun κ h => by simp [readAll] at h ⊢; exact .inr h) b h))
 | .ptr t :: ps, v :: vs, i :: is, x, φ, j, u, j', rd, m, H, ⟨⟨_, κ, hb, _, hv⟩, his⟩, ho, hφ, hr, hn, hg, hf, hsn => by
  have hr : (match i.boxes with
   | [κ] => (outP (V := V) ps x.2 is (qP t κ x.1 j).2).bind fun q => .ret ((qP t κ x.1 j).1 ++ q.1, q.2)
   | _ => .no : Tr V (Upd × Nat)).run F h0 = some ((u, j'), rd) := hr
  rw [hb] at hr
  obtain ⟨⟨u2, j2⟩, r1, r2, h2, h3, _⟩ := Tr.bind_some hr
  obtain ⟨e, _⟩ := Tr.q9 h3
  obtain ⟨rfl, rfl⟩ := Prod.mk.inj e
  have hba : qF (i :: is) = κ :: qF is := by simp [qF, hb]
  rw [hba] at hn hg
  obtain ⟨n1, n2⟩ := List.nodup_cons.1 hn
  obtain ⟨v', r, φ1, φ2, e, k1, k2, k3⟩ := ho
  injection e with e1 e2
  subst e1; subst e2
  obtain ⟨b1, b2⟩ := zy t κ x.1 j
  obtain ⟨c1, c2⟩ := jA his h2
  have hgκ := hg κ (by simp)
  rw [hv, hgκ.ptrV] at k1
  obtain ⟨m1, s1, χ1⟩ := q5L H (by rw [hgκ.1]; trivial) (fun r h => by rw [hgκ.1] at h; cases h) k1 (fun b h => hφ b ((k3.2 b).2 (.inl h))) (fun k h1 h2 => hf k h1 (by omega))
  have hnk : ∀ κ' ∈ qF is, κ' ∉ keysOf (qP t κ x.1 j).1 := fun κ' h hk => by
   rcases b2 κ' hk with rfl | h'
   ·exact n1 h
   ·have := hf κ' h'.1 (by omega)
    rw [(hg κ' (by simp [h])).1] at this; cases this
  obtain ⟨m2, s2, χ2⟩ := q1w s1.hr his (by rw [s1.w, s1.fz]; exact k2) (fun b h => (χ1 b).2 ⟨hφ b ((k3.2 b).2 (.inr h)), fun h' => k3.1 b h' h⟩) h2 n2 (fun κ' h => (hg κ' (by simp [h])).step s1 (hnk κ' h)) (fun k h1 h2' => by
   rw [s1.h, Heap.upd_ne _ _ _ fun hk => ?_]
   ·exact hf k (by omega) h2'
   ·rcases b2 k hk with rfl | h'
    ·have := hf k (by omega) h2'
     rw [hgκ.1] at this; cases this
    ·omega) (fun b h => by rw [s1.w]; exact hsn b (yX (fun κ h => by simp [readAll] at h ⊢; exact .inr h) b h))
  refine ⟨m2, s1.trans s2, fun b => ?_⟩
  rw [χ2, χ1, k3.2]
  exact ⟨fun h => ⟨h.1.1, fun h' => h'.elim h.1.2 h.2⟩, fun h => ⟨⟨h.1, fun h' => h.2 (.inl h')⟩, fun h' => h.2 (.inr h')⟩⟩
 | .clo f caps :: ps, v :: vs, i :: is, x, φ, j, u, j', rd, m, H, ⟨⟨_, ks, hv, hci⟩, his⟩, ho, hφ, hr, hn, hg, hf, hsn => by
  have hr : (match zF caps x.1 i.boxes j with
   | some (u, j1) => (outP (V := V) ps x.2 is j1).bind fun q => .ret (u ++ q.1, q.2)
   | none => .no : Tr V (Upd × Nat)).run F h0 = some ((u, j'), rd) := hr
  cases hc : zF caps x.1 i.boxes j with
  | none => rw [hc] at hr; exact (Tr.q8 hr).elim
  | some p =>
   obtain ⟨u1, j1⟩ := p
   rw [hc] at hr
   obtain ⟨⟨u2, j2⟩, r1, r2, h2, h3, _⟩ := Tr.bind_some hr
   obtain ⟨e, _⟩ := Tr.q9 h3
   obtain ⟨rfl, rfl⟩ := Prod.mk.inj e
   have hba : qF (i :: is) = i.boxes ++ qF is := by simp [qF]
   rw [hba] at hn hg
   obtain ⟨n1, n2, n3⟩ := List.nodup_append.1 hn
   obtain ⟨qs, r, φ1, φ2, e, k1, k2, k3⟩ := ho
   rw [hv] at e
   injection e with e1 e2
   subst e2
   have hq : ks.map (ptrV m0) = qs := by
    injection e1 with _ _ e1
    have := congrArg Array.toList e1
    simpa using this
   rw [<- hq] at k1
   obtain ⟨b1, b2⟩ := q1d hc
   obtain ⟨c1, c2⟩ := jA his h2
   obtain ⟨m1, s1, χ1⟩ := q4a H hci k1 (fun b h => hφ b ((k3.2 b).2 (.inl h))) hc n1 (fun κ h => hg κ (List.mem_append_left _ h)) (fun k h1 h2 => hf k h1 (by omega))
   have hnk : ∀ κ' ∈ qF is, κ' ∉ keysOf u1 := fun κ' h hk => by
    rcases b2 κ' hk with h' | h'
    ·exact n3 κ' h' κ' h rfl
    ·have := hf κ' h'.1 (by omega)
     rw [(hg κ' (List.mem_append_right _ h)).1] at this; cases this
   obtain ⟨m2, s2, χ2⟩ := q1w s1.hr his (by rw [s1.w, s1.fz]; exact k2) (fun b h => (χ1 b).2 ⟨hφ b ((k3.2 b).2 (.inr h)), fun h' => k3.1 b h' h⟩) h2 n2 (fun κ' h => (hg κ' (List.mem_append_right _ h)).step s1 (hnk κ' h)) (fun k h1 h2' => by
    rw [s1.h, Heap.upd_ne _ _ _ fun hk => ?_]
    ·exact hf k (by omega) h2'
    ·rcases b2 k hk with h' | h'
     ·have := hf k (by omega) h2'
      rw [(hg k (List.mem_append_left _ h')).1] at this; cases this
     ·omega) (fun b h => by rw [s1.w]; exact hsn b (yX (fun κ h => by simp [readAll] at h ⊢; exact .inr h) b h))
   refine ⟨m2, s1.trans s2, fun b => ?_⟩
   rw [χ2, χ1, k3.2]
   exact ⟨fun h => ⟨h.1.1, fun h' => h'.elim h.1.2 h.2⟩, fun h => ⟨⟨h.1, fun h' => h.2 (.inl h')⟩, fun h' => h.2 (.inr h')⟩⟩
 | .pptr t :: ps, v :: vs, i :: is, x, φ, j, u, j', rd, m, H, ⟨⟨_, κ, κr, hb, _, hv, hh, hsr⟩, his⟩, ho, hφ, hr, hn, hg, hf, hsn => by
  have hr : (match i.boxes with
   | [κ] => (outP (V := V) ps x.2 is (qP t κ x.1 j).2).bind fun q => .ret ((qP t κ x.1 j).1 ++ q.1, q.2)
   | _ => .no : Tr V (Upd × Nat)).run F h0 = some ((u, j'), rd) := hr
  rw [hb] at hr
  obtain ⟨⟨u2, j2⟩, r1, r2, h2, h3, _⟩ := Tr.bind_some hr
  obtain ⟨e, _⟩ := Tr.q9 h3
  obtain ⟨rfl, rfl⟩ := Prod.mk.inj e
  have hba : qF (i :: is) = κ :: qF is := by simp [qF, hb]
  rw [hba] at hn hg
  obtain ⟨n1, n2⟩ := List.nodup_cons.1 hn
  obtain ⟨br, v0, r, φ1, φ2, e, k0, k1, k2, k3⟩ := ho
  injection e with e1 e2
  subst e2
  have hbr : br = (m0.ρ κr).b := by
   rw [hv] at e1
   simp only [Den.ptrV, Value.pointer.injEq, Option.some.injEq, Addr.mk.injEq, and_true] at e1
   exact e1.symm
  have hv0 : v0 = Den.ptrV m0 κ := by
   obtain ⟨c, e', fr, a1, a2⟩ := hh
   refine k0.one ⟨c, e', fr, ?_, a2⟩
   rw [hbr, hsn _ (yX (fun κ h => by simp [readAll]; exact .inl h) _ hsr)]; exact a1
  obtain ⟨b1, b2⟩ := zy t κ x.1 j
  obtain ⟨c1, c2⟩ := jA his h2
  have hgκ := hg κ (by simp)
  rw [hv0, hgκ.ptrV] at k1
  obtain ⟨m1, s1, χ1⟩ := q5L H (by rw [hgκ.1]; trivial) (fun r h => by rw [hgκ.1] at h; cases h) k1 (fun b h => hφ b ((k3.2 b).2 (.inl h))) (fun k h1 h2 => hf k h1 (by omega))
  have hnk : ∀ κ' ∈ qF is, κ' ∉ keysOf (qP t κ x.1 j).1 := fun κ' h hk => by
   rcases b2 κ' hk with rfl | h'
   ·exact n1 h
   ·have := hf κ' h'.1 (by omega)
    rw [(hg κ' (by simp [h])).1] at this; cases this
  obtain ⟨m2, s2, χ2⟩ := q1w s1.hr his (by rw [s1.w, s1.fz]; exact k2) (fun b h => (χ1 b).2 ⟨hφ b ((k3.2 b).2 (.inr h)), fun h' => k3.1 b h' h⟩) h2 n2 (fun κ' h => (hg κ' (by simp [h])).step s1 (hnk κ' h)) (fun k h1 h2' => by
   rw [s1.h, Heap.upd_ne _ _ _ fun hk => ?_]
   ·exact hf k (by omega) h2'
   ·rcases b2 k hk with rfl | h'
    ·have := hf k (by omega) h2'
     rw [hgκ.1] at this; cases this
    ·omega) (fun b h => by rw [s1.w]; exact hsn b (yX (fun κ h => by simp [readAll] at h ⊢; exact .inr h) b h))
  refine ⟨m2, s1.trans s2, fun b => ?_⟩
  rw [χ2, χ1, k3.2]
  exact ⟨fun h => ⟨h.1.1, fun h' => h'.elim h.1.2 h.2⟩, fun h => ⟨⟨h.1, fun h' => h.2 (.inl h')⟩, fun h' => h.2 (.inr h')⟩⟩
 | .rclo f caps :: ps, v :: vs, i :: is, x, φ, j, u, j', rd, m, H, ⟨⟨_, κr, ks, hv, hci⟩, his⟩, ho, hφ, hr, hn, hg, hf, hsn => by
  have hr : (match zF caps x.1 i.boxes j with
   | some (u, j1) => (outP (V := V) ps x.2 is j1).bind fun q => .ret (u ++ q.1, q.2)
   | none => .no : Tr V (Upd × Nat)).run F h0 = some ((u, j'), rd) := hr
  cases hc : zF caps x.1 i.boxes j with
  | none => rw [hc] at hr; exact (Tr.q8 hr).elim
  | some p =>
   obtain ⟨u1, j1⟩ := p
   rw [hc] at hr
   obtain ⟨⟨u2, j2⟩, r1, r2, h2, h3, _⟩ := Tr.bind_some hr
   obtain ⟨e, _⟩ := Tr.q9 h3
   obtain ⟨rfl, rfl⟩ := Prod.mk.inj e
   have hba : qF (i :: is) = i.boxes ++ qF is := by simp [qF]
   rw [hba] at hn hg
   obtain ⟨n1, n2, n3⟩ := List.nodup_append.1 hn
   obtain ⟨q0, qs, r, φ1, φ2, e, k1, k2, k3⟩ := ho
   rw [hv] at e
   injection e with e1 e2
   subst e2
   have hq : ks.map (ptrV m0) = qs := by
    injection e1 with _ _ e1
    have := congrArg Array.toList e1
    simp only [List.map_cons, List.cons.injEq] at this
    exact this.2
   rw [<- hq] at k1
   obtain ⟨b1, b2⟩ := q1d hc
   obtain ⟨c1, c2⟩ := jA his h2
   obtain ⟨m1, s1, χ1⟩ := q4a H hci k1 (fun b h => hφ b ((k3.2 b).2 (.inl h))) hc n1 (fun κ h => hg κ (List.mem_append_left _ h)) (fun k h1 h2 => hf k h1 (by omega))
   have hnk : ∀ κ' ∈ qF is, κ' ∉ keysOf u1 := fun κ' h hk => by
    rcases b2 κ' hk with h' | h'
    ·exact n3 κ' h' κ' h rfl
    ·have := hf κ' h'.1 (by omega)
     rw [(hg κ' (List.mem_append_right _ h)).1] at this; cases this
   obtain ⟨m2, s2, χ2⟩ := q1w s1.hr his (by rw [s1.w, s1.fz]; exact k2) (fun b h => (χ1 b).2 ⟨hφ b ((k3.2 b).2 (.inr h)), fun h' => k3.1 b h' h⟩) h2 n2 (fun κ' h => (hg κ' (List.mem_append_right _ h)).step s1 (hnk κ' h)) (fun k h1 h2' => by
    rw [s1.h, Heap.upd_ne _ _ _ fun hk => ?_]
    ·exact hf k (by omega) h2'
    ·rcases b2 k hk with h' | h'
     ·have := hf k (by omega) h2'
      rw [(hg k (List.mem_append_left _ h')).1] at this; cases this
     ·omega) (fun b h => by rw [s1.w]; exact hsn b (yX (fun κ h => by simp [readAll] at h ⊢; exact .inr h) b h))
   refine ⟨m2, s1.trans s2, fun b => ?_⟩
   rw [χ2, χ1, k3.2]
   exact ⟨fun h => ⟨h.1.1, fun h' => h'.elim h.1.2 h.2⟩, fun h => ⟨⟨h.1, fun h' => h.2 (.inl h')⟩, fun h' => h.2 (.inr h')⟩⟩
end
end Go.Den
namespace Go.Den
open Go

section
variable {P : Program} {V : Nat -> Sig} {F : Tr.Fs V} {m : M}
theorem q4T {h : Heap} {ρ : Env} {fz : Nat -> Prop} {w : World} {agg : Bool} {v : Value} {cs : List SV} (hs : q1r agg v) (hc : All2 (SR h ρ fz w) cs v.cells.toList) : CR h ρ fz w (mkCV agg cs) v := by
 unfold mkCV
 cases agg with
 | true =>
  obtain ⟨vs, rfl⟩ := (show ∃ cs, v = .agg cs by simpa [q1r] using hs.1)
  exact ⟨vs, rfl, hc⟩
 | false =>
  have h1 : v.oneCell' = true := by simpa using hs.1
  rw [cells_one h1] at hc
  match cs, hc with
  | [c], hc => exact hc.1
theorem q8T {t : Ty} {x : t.D} {vs : List Value} {φ : Nat -> Prop} {j : Nat} {cs : List SV} {u : Upd} {j' : Nat} (H : HR m) (ho : Ow m.w m.fz t vs x φ) (hφ : ∀ b, φ b -> m.χ b) (he : encO t j x = (cs, u, j')) (hf : ∀ k, j <= k -> k < j' -> m.h k = .free) :
  ∃ m', Step m m' u j j' /\ (∀ b, m'.χ b ↔ m.χ b /\ ¬ φ b) /\ All2 m'.SR cs vs := by
 obtain ⟨k1, k2, m1, H1, E1, e2, w1, f1, χ1, s1⟩ := q3I H ho hφ he hf
 exact ⟨m1, ⟨H1, E1, e2, w1, f1, fun b h => ((χ1 b).1 h).1, k1⟩, χ1, s1⟩
theorem q8x {agg : Bool} {r : RTy} {x : r.D} {j : Nat} {y : CV} {u : Upd} {j' : Nat} {rd : List Nat} {h0 : Heap} (hr : (q9m (V := V) agg r x j).run F h0 = some ((y, u, j'), rd)) : j <= j' /\ ∀ k ∈ keysOf u, j <= k /\ k < j' := by
 cases r with
 | own t =>
  obtain ⟨e, _⟩ := Tr.q9 hr
  obtain ⟨rfl, rfl, rfl⟩ := inj3 e
  exact ⟨q1R t j x, q3d t j x⟩
 | lst t =>
  obtain ⟨e, _⟩ := Tr.q9 hr
  obtain ⟨rfl, rfl, rfl⟩ := inj3 e
  exact ⟨Nat.le_refl _, fun k h => by cases h⟩
 | ptr t =>
  obtain ⟨e, _⟩ := Tr.q9 hr
  obtain ⟨rfl, rfl, rfl⟩ := inj3 e
  obtain ⟨b1, b2⟩ := zy t j x (j + 1)
  exact ⟨by omega, fun k hk => by rcases b2 k hk with h | h <;> omega⟩
 | optr t =>
  cases x with
  | none =>
   have hr : (Tr.ret (V := V) ((CV.s .nilp, [], j) : CV × Upd × Nat)).run F h0 = some ((y, u, j'), rd) := hr
   obtain ⟨e, _⟩ := Tr.q9 hr
   obtain ⟨rfl, rfl, rfl⟩ := inj3 e
   exact ⟨Nat.le_refl _, fun k h => by cases h⟩
  | some x =>
   have hr : (Tr.ret (V := V) ((CV.s (.ptr j 0), (qP t j x (j + 1)).1, (qP t j x (j + 1)).2) : CV × Upd × Nat)).run F h0 = some ((y, u, j'), rd) := hr
   obtain ⟨e, _⟩ := Tr.q9 hr
   obtain ⟨rfl, rfl, rfl⟩ := inj3 e
   obtain ⟨b1, b2⟩ := zy t j x (j + 1)
   exact ⟨by omega, fun k hk => by rcases b2 k hk with h | h <;> omega⟩
 | err =>
  obtain ⟨e, _⟩ := Tr.q9 hr
  obtain ⟨rfl, rfl, rfl⟩ := inj3 e
  exact ⟨Nat.le_refl _, fun k h => by cases h⟩
theorem qbk (H : HR m) {agg : Bool} {r : RTy} {x : r.D} {v : Value} {φ : Nat -> Prop} {j : Nat} {y : CV} {u : Upd} {j' : Nat} {rd : List Nat} {h0 : Heap} (ho : q2k m.w m.fz agg r v x φ) (hφ : ∀ b, φ b -> m.χ b) (hr : (q9m (V := V) agg r x j).run F h0 = some ((y, u, j'), rd))
  (hf : ∀ k, j <= k -> k < j' -> m.h k = .free) : ∃ m', Step m m' u j j' /\ (∀ b, m'.χ b ↔ m.χ b /\ ¬ φ b) /\ m'.CR y v := by
 have same : ∀ {y : CV}, Nil φ -> m.CR y v -> ∃ m', Step m m' [] j j /\ (∀ b, m'.χ b ↔ m.χ b /\ ¬ φ b) /\ m'.CR y v := fun hn hc => ⟨m, Step.refl H j, fun b => ⟨fun h => ⟨h, hn b⟩, fun h => h.1⟩, hc⟩
 cases r with
 | own t =>
  obtain ⟨e, _⟩ := Tr.q9 hr
  obtain ⟨rfl, rfl, rfl⟩ := inj3 e
  obtain ⟨m1, s1, χ1, k1⟩ := q8T H ho.2 hφ rfl hf
  exact ⟨m1, s1, χ1, q4T ho.1 k1⟩
 | lst t =>
  obtain ⟨e, _⟩ := Tr.q9 hr
  obtain ⟨rfl, rfl, rfl⟩ := inj3 e
  exact same ho.2.2 (q4T ho.1 (q3L ho.2.1))
 | ptr t =>
  obtain ⟨e, _⟩ := Tr.q9 hr
  obtain ⟨rfl, rfl, rfl⟩ := inj3 e
  obtain ⟨b1, b2⟩ := zy t j x (j + 1)
  obtain ⟨m1, s1, χ1, k1⟩ := q5S H (hf j (Nat.le_refl _) (by omega)) (by omega) ho hφ fun k h1 h2 => hf k (by omega) h2
  exact ⟨m1, ⟨s1.hr, s1.ext, s1.h, s1.w, s1.fz, s1.χ, by omega⟩, χ1, k1⟩
 | optr t =>
  cases x with
  | none =>
   have hr : (Tr.ret (V := V) ((CV.s .nilp, [], j) : CV × Upd × Nat)).run F h0 = some ((y, u, j'), rd) := hr
   obtain ⟨e, _⟩ := Tr.q9 hr
   obtain ⟨rfl, rfl, rfl⟩ := inj3 e
   exact same ho.2 ho.1
  | some x =>
   have hr : (Tr.ret (V := V) ((CV.s (.ptr j 0), (qP t j x (j + 1)).1, (qP t j x (j + 1)).2) : CV × Upd × Nat)).run F h0 = some ((y, u, j'), rd) := hr
   obtain ⟨e, _⟩ := Tr.q9 hr
   obtain ⟨rfl, rfl, rfl⟩ := inj3 e
   obtain ⟨b1, b2⟩ := zy t j x (j + 1)
   obtain ⟨m1, s1, χ1, k1⟩ := q5S H (hf j (Nat.le_refl _) (by omega)) (by omega) ho hφ fun k h1 h2 => hf k (by omega) h2
   exact ⟨m1, ⟨s1.hr, s1.ext, s1.h, s1.w, s1.fz, s1.χ, by omega⟩, χ1, k1⟩
 | err =>
  obtain ⟨e, _⟩ := Tr.q9 hr
  obtain ⟨rfl, rfl, rfl⟩ := inj3 e
  exact same ho.2 ho.1
theorem qaD {h0 : Heap} : ∀ {rs : List RTy} {ts : List TypeId} {x : ResD rs} {j : Nat} {ys : List CV} {u : Upd} {j' : Nat} {rd : List Nat}, (resT (V := V) P rs ts x j).run F h0 = some ((ys, u, j'), rd) -> j <= j' /\ ∀ k ∈ keysOf u, j <= k /\ k < j'
 | [], [], x, j, ys, u, j', rd, hr => by
  obtain ⟨e, _⟩ := Tr.q9 hr
  obtain ⟨rfl, rfl, rfl⟩ := inj3 e
  exact ⟨Nat.le_refl _, fun k h => by cases h⟩
 | [], _ :: _, x, j, ys, u, j', rd, hr => (Tr.q8 hr).elim
 | [r], [], x, j, ys, u, j', rd, hr => (Tr.q8 hr).elim
 | [r], [t], x, j, ys, u, j', rd, hr => by
  obtain ⟨⟨y, u1, j1⟩, r1, r2, h1, h2, _⟩ := Tr.bind_some hr
  obtain ⟨e, _⟩ := Tr.q9 h2
  obtain ⟨rfl, rfl, rfl⟩ := inj3 e
  exact q8x h1
 | [r], _ :: _ :: _, x, j, ys, u, j', rd, hr => (Tr.q8 hr).elim
 | r :: s :: rs, [], x, j, ys, u, j', rd, hr => (Tr.q8 hr).elim
 | r :: s :: rs, t :: ts, x, j, ys, u, j', rd, hr => by
  obtain ⟨⟨y, u1, j1⟩, r1, r2, h1, h2, _⟩ := Tr.bind_some hr
  obtain ⟨⟨zs, u2, j2⟩, r3, r4, h3, h4, _⟩ := Tr.bind_some h2
  obtain ⟨e, _⟩ := Tr.q9 h4
  obtain ⟨rfl, rfl, rfl⟩ := inj3 e
  obtain ⟨b1, b2⟩ := q8x h1
  obtain ⟨c1, c2⟩ := qaD h3
  refine ⟨Nat.le_trans b1 c1, fun k hk => ?_⟩
  rw [qj] at hk
  rcases List.mem_append.1 hk with hk | hk
  ·exact ⟨(b2 k hk).1, Nat.lt_of_lt_of_le (b2 k hk).2 c1⟩
  ·exact ⟨Nat.le_trans b1 (c2 k hk).1, (c2 k hk).2⟩
theorem qdo {h0 : Heap} : ∀ {rs : List RTy} {ts : List TypeId} {x : ResD rs} {vs : List Value} {φ : Nat -> Prop} {j : Nat} {ys : List CV} {u : Upd} {j' : Nat} {rd : List Nat} {m : M}, HR m -> ResO P m.w m.fz rs ts vs x φ -> (∀ b, φ b -> m.χ b) -> (resT (V := V) P rs ts x j).run F h0 = some ((ys, u, j'), rd) ->
  (∀ k, j <= k -> k < j' -> m.h k = .free) -> ∃ m', Step m m' u j j' /\ (∀ b, m'.χ b ↔ m.χ b /\ ¬ φ b) /\ All2 m'.CR ys vs
 | [], [], x, vs, φ, j, ys, u, j', rd, m, H, ho, hφ, hr, hf => by
  obtain ⟨e, _⟩ := Tr.q9 hr
  obtain ⟨rfl, rfl, rfl⟩ := inj3 e
  obtain ⟨_, rfl, hn⟩ := ho
  exact ⟨m, Step.refl H _, fun b => ⟨fun h => ⟨h, hn b⟩, fun h => h.1⟩, trivial⟩
 | [], _ :: _, x, vs, φ, j, ys, u, j', rd, m, H, ho, hφ, hr, hf => (Tr.q8 hr).elim
 | [r], [], x, vs, φ, j, ys, u, j', rd, m, H, ho, hφ, hr, hf => (Tr.q8 hr).elim
 | [r], [t], x, vs, φ, j, ys, u, j', rd, m, H, ho, hφ, hr, hf => by
  obtain ⟨⟨y, u1, j1⟩, r1, r2, h1, h2, _⟩ := Tr.bind_some hr
  obtain ⟨e, _⟩ := Tr.q9 h2
  obtain ⟨rfl, rfl, rfl⟩ := inj3 e
  obtain ⟨t', v, e1, rfl, ho⟩ := ho
  injection e1 with e1
  subst e1
  obtain ⟨m1, s1, χ1, k1⟩ := qbk H ho hφ h1 hf
  exact ⟨m1, s1, χ1, k1, trivial⟩
 | [r], _ :: _ :: _, x, vs, φ, j, ys, u, j', rd, m, H, ho, hφ, hr, hf => (Tr.q8 hr).elim
 | r :: s :: rs, [], x, vs, φ, j, ys, u, j', rd, m, H, ho, hφ, hr, hf => (Tr.q8 hr).elim
 | r :: s :: rs, t :: ts, x, vs, φ, j, ys, u, j', rd, m, H, ho, hφ, hr, hf => by
  obtain ⟨⟨y, u1, j1⟩, r1, r2, h1, h2, _⟩ := Tr.bind_some hr
  obtain ⟨⟨zs, u2, j2⟩, r3, r4, h3, h4, _⟩ := Tr.bind_some h2
  obtain ⟨e, _⟩ := Tr.q9 h4
  obtain ⟨rfl, rfl, rfl⟩ := inj3 e
  obtain ⟨t', tr, v, vr, φ1, φ2, e1, rfl, k1, k2, k3⟩ := ho
  injection e1 with e1 e2
  subst e1; subst e2
  obtain ⟨b1, b2⟩ := q8x h1
  obtain ⟨c1, c2⟩ := qaD h3
  obtain ⟨m1, s1, χ1, q1⟩ := qbk H k1 (fun b h => hφ b ((k3.2 b).2 (.inl h))) h1 fun k h1 h2 => hf k h1 (Nat.lt_of_lt_of_le h2 c1)
  obtain ⟨m2, s2, χ2, q2⟩ := qdo s1.hr (by rw [s1.w, s1.fz]; exact k2) (fun b h => (χ1 b).2 ⟨hφ b ((k3.2 b).2 (.inr h)), fun h' => k3.1 b h' h⟩) h3 (fun k h1 h2' => by
   rw [s1.h, Heap.upd_ne _ _ _ fun hk => ?_]
   ·exact hf k (Nat.le_trans b1 h1) h2'
   ·have := (b2 k hk).2
    simp only at this h1
    omega)
  refine ⟨m2, s1.trans s2, fun b => ?_, s2.ext.cr q1, q2⟩
  rw [χ2, χ1, k3.2]
  exact ⟨fun h => ⟨h.1.1, fun h' => h'.elim h.1.2 h.2⟩, fun h => ⟨⟨h.1, fun h' => h.2 (.inl h')⟩, fun h' => h.2 (.inr h')⟩⟩
theorem q6V {α : Type} : ∀ {n key : Nat} {t : Tr V α} {b : α} {rd : List Nat} {h : Heap}, (q7p n key t).run F h = some (b, rd) -> (∀ k, key <= k -> k < key + n -> h k = .free) /\ ∃ r, t.run F h = some (b, r)
 | 0, key, t, b, rd, h, hr => ⟨fun k h1 h2 => by omega, rd, hr⟩
 | n + 1, key, t, b, rd, h, hr => by
  obtain ⟨h1, r, h2, _⟩ := Tr.q0t hr
  obtain ⟨h3, r', h4⟩ := q6V h2
  refine ⟨fun k hk hk' => ?_, r', h4⟩
  by_cases e : k = key
  ·rw [e]; exact h1
  ·exact h3 k (by omega) (by omega)
end

theorem qbA : ∀ (u : Upd) (h : Heap) {p : Nat × Slot}, (keysOf u).Nodup -> p ∈ u -> h.upd u p.1 = p.2
 | (k, s) :: u, h, p, hn, hp => by
  obtain ⟨h1, h2⟩ := List.nodup_cons.1 hn
  rcases List.mem_cons.1 hp with rfl | hp
  ·show (h.set k s).upd u k = s
   rw [Heap.upd_ne _ _ _ h1, Heap.wD]
  ·exact qbA u (h.set k s) h2 hp
section
variable {P : Program} {V : Nat -> Sig} {F : Tr.Fs V} {m : M}
def qeq (P : Program) (f : FuncId) (args : Array Value) (m : M) (v : PV) (u : Upd) : Prop := q3M P f args m.w fun val w' => ∃ m', m'.w = w' /\ Done m v u val m'
theorem q3M.mono {f : FuncId} {args : Array Value} {w : World} {R R' : Value -> World -> Prop} (h : q3M P f args w R) (hr : ∀ v w', R v w' -> R' v w') : q3M P f args w R' := by
 rcases h with ⟨v, w', h1, h2⟩ | ⟨h1, h2⟩
 ·exact .inl ⟨v, w', h1, hr _ _ h2⟩
 ·exact .inr ⟨h1, h2.mono fun e w' ⟨v, he, hv⟩ => ⟨v, he, hr _ _ hv⟩⟩
theorem qdy {ys : List CV} {vs : List Value} (h : All2 m.CR ys vs) : m.PR (pack ys) (packed vs) := by
 match ys, vs, h with
 | [], [], _ => exact ⟨#[], rfl, trivial⟩
 | [y], [v], h => exact h.1
 | y :: z :: ys, v :: w :: vs, h => exact ⟨(v :: w :: vs).toArray, rfl, h⟩
theorem goes_call (H : HR m) (hχ : ∀ b, ¬ m.χ b) {cands : Nat -> List Nat} (hF : FOk P V m.gl F) {key g : Nat} {as : List PV} {vs : List Value} {v : PV} {u : Upd} {rd : List Nat} (ha : All2 m.PR as vs) (hr : (qcB (V := V) P cands key g as).run F m.h = some ((v, u), rd)) :
  qeq P g vs.toArray m v u := by
 unfold qcB at hr
 split at hr
 ·rename_i k fn hk hfn
  have ⟨hg, hr'⟩ := qo hr
  clear hr
  have hg := Nat.eq_of_beq_eq_true hg
  subst hg
  obtain ⟨⟨x, is⟩, r1, r2, h1, h2, _⟩ := Tr.bind_some hr'
  obtain ⟨_, rl1, rl2, hlk, h2, _⟩ := Tr.bind_some h2
  have hlnk := q0G H (q8P h1) ha (fun _ e => by cases e) hlk (vv := none)
  obtain ⟨hc, h2⟩ := qo h2
  simp only [Bool.and_eq_true] at hc
  obtain ⟨hnd, hbx, hrd⟩ := hc
  have hnd := q3V hnd
  have hbx := q3V hbx
  have hrd : ∀ κ ∈ readAll is, κ ∉ keysOf (y8 is) ++ qz is := fun κ hκ hin => by
   have := List.all_eq_true.1 hrd κ hκ
   simp only [Bool.not_eq_true'] at this
   have h : (keysOf (y8 is) ++ qz is).any (Nat.beq κ) = true := List.any_eq_true.2 ⟨κ, hin, Nat.beq_refl κ⟩
   rw [h] at this; cases this
  obtain ⟨r, hFr, h3⟩ := Option.bind_eq_some_iff.1 (show (F k x).bind (fun r => ((outM (V k).pars r.2 is).bind fun mu => (resT P (V k).res fn.resultTypes.toList r.1 key).bind fun p => (outP (V k).pars r.2 is p.2.2).bind fun q =>
     q7p (q.2 - key) key (.ret (pack p.1, y8 is ++ (mu ++ (p.2.1 ++ q.1))))).run F m.h) = some ((v, u), rl2) from h2)
  obtain ⟨mu, r3, r4, h4, h5, _⟩ := Tr.bind_some h3
  obtain ⟨⟨ys, ru, j1⟩, r5, r6, h6, h7, _⟩ := Tr.bind_some h5
  obtain ⟨⟨qu, j2⟩, r7, r8, h8, h9, _⟩ := Tr.bind_some h7
  obtain ⟨hfree, r9, h10⟩ := q6V h9
  obtain ⟨rfl, rfl, _⟩ := yN h10
  let T := keysOf (y8 is) ++ qz is
  let l := qey (V k)
  let S : Nat -> Prop := fun b => m.fz b \/ (l = false /\ ∃ κ, κ ∉ T /\ m.φ κ b)
  have hl1 : l = true -> readAll is = [] := by
   have h0 := q8y H ha h1 hnd (S := m.seen (readAll is)) fun _ h => h
   obtain ⟨_, _, _, h0, _⟩ := h0
   exact h0
  have hS : ∀ b, m.seen (readAll is) b -> S b := fun b hb => by
   rcases hb with hb | ⟨κ, hκ, hb⟩
   ·exact .inl hb
   ·cases hl : l with
    | true => rw [hl1 hl] at hκ; cases hκ
    | false => exact .inr ⟨hl, κ, hrd κ hκ, hb⟩
  obtain ⟨φ, η, hinf, _, hargs, hups, hφ, hη, hφη⟩ := q8y H ha h1 hnd hS
  have hφS : ∀ b, φ b -> ¬ (S b \/ η b) := fun b hb hs => by
   obtain ⟨κ, hκ, h⟩ := hφ b hb
   rcases hs with (hs | ⟨_, κ', hκ', h'⟩) | hs
   ·exact H.fzφ κ b h hs
   ·exact H.disj κ κ' b (fun e => hκ' (e ▸ hκ)) h h'
   ·exact hφη b hb hs
  have hSlt : ∀ b, (S b \/ η b) -> b < m.w.heap.size := fun b hb => by
   rcases hb with (hb | ⟨_, κ, _, hb⟩) | hb
   ·exact H.ltf b hb
   ·exact H.ltφ hb
   ·obtain ⟨κ, _, h⟩ := hη b hb; exact H.ltφ h
  refine (hF k x r hFr fn m.w (fun b => S b \/ η b) φ vs hfn hargs hφS hSlt (fun b o h => ⟨(H.glob b o h).1, .inl (.inl (H.glob b o h).2)⟩) hlnk).mono fun val w' hpost => ?_
  obtain ⟨⟨rvs, fz', φr, φo, χ', rfl, hres, houts, h2χ, hχ', hfz1, hfz2, hχfz, hfzlt, hχlt⟩, hkeep, hsize, hos, htape, hout⟩ := hpost
  obtain ⟨hnd1, hnd2, hnd3⟩ := List.nodup_append.1 hnd
  have hofold : ∀ κ b, χ' b -> m.φ κ b -> φ b := fun κ b hb hb' => by
   rcases hχ' b hb with h | h
   ·exact h
   ·have := H.ltφ hb'; omega
  let fzN : Nat -> Prop := fun b => (m.fz b \/ η b) \/ (l = true /\ fz' b)
  have houts : wW w' fzN (V k).pars vs r.2 φo := wW.re (fun h b hb => .inr ⟨by show (q33 _ || zn _) = true; rw [h, Bool.or_true], hb⟩) houts
  have hFz : ∀ b, m.fz b -> fzN b /\ w'.heap[b]? = m.w.heap[b]? := fun b hb => ⟨.inl (.inl hb), hkeep b (H.ltf b hb) fun h => hφS b h (.inl (.inl hb))⟩
  obtain ⟨Φ, φm, φp, hTo, hP, hMk, hM, hM2, hM3⟩ := q1v H hFz (fun κ b hb hnb => hkeep b (H.ltφ hb) hnb) hinf houts (fun κ b hb hb' => hofold κ b ((h2χ.2 b).2 (.inr hb)) hb') h4 hnd2
  obtain ⟨m1, H1, E1, hw1, hh1, hρ1, hf1, hχ1, hφκ1, hgl1, hks, hdead1⟩ := q4Z H hups (q2O hnd1) hη
  have hg1 : ∀ κ ∈ jX (y8 is), m1.h κ = .gone := fun κ hκ => by
   rw [hh1]; exact q87 (p := (κ, .gone)) (q2O hnd1) (q37 hκ)
  have hφ1 : ∀ κ b, m1.φ κ b -> κ ∉ keysOf (y8 is) /\ m.φ κ b := fun κ b hb => by
   have hn : κ ∉ keysOf (y8 is) := fun h => hdead1 κ h b hb
   exact ⟨hn, by rw [<- (hφκ1 κ hn).1]; exact hb⟩
  have hφ1' : ∀ κ b, κ ∉ keysOf (y8 is) -> m.φ κ b -> m1.φ κ b := fun κ b hn hb => by
   rw [(hφκ1 κ hn).1]; exact hb
  have hout1 : ∀ κ b, m1.φ κ b -> κ ∉ qz is -> b < m.w.heap.size /\ ¬ φ b := fun κ b hb hn => by
   obtain ⟨hg, hb⟩ := hφ1 κ b hb
   refine ⟨H.ltφ hb, fun h => ?_⟩
   obtain ⟨κ', hκ', h'⟩ := hφ b h
   have : κ = κ' := Classical.byContradiction fun e => H.disj κ κ' b e hb h'
   subst this
   rcases List.mem_append.1 hκ' with h1 | h1
   ·exact hg h1
   ·exact hn h1
  have hin1 : ∀ b, φ b -> m1.χ b \/ ∃ κ, m1.φ κ b := fun b hb => by
   obtain ⟨κ, hκ, h⟩ := hφ b hb
   by_cases hg : κ ∈ keysOf (y8 is)
   ·exact .inl ((hχ1 b).2 ⟨.inr ⟨κ, hg, h⟩, hφη b hb⟩)
   ·exact .inr ⟨κ, hφ1' κ b hg h⟩
  have hmf : ∀ b, m.fz b -> fz' b := fun b hb => hfz1 b (.inl (.inl hb))
  have hηold : ∀ κ b, m1.φ κ b -> ¬ η b := fun κ b hb h => H1.fzφ κ b hb (by rw [hf1]; exact .inr h)
  have hηf : ∀ b, η b -> fz' b := fun b hb => hfz1 b (.inr hb)
  have hFη : ∀ b, m1.fz b -> fzN b /\ w'.heap[b]? = m.w.heap[b]? := fun b hb => by
   rw [hf1] at hb
   rcases hb with hb | hb
   ·exact hFz b hb
   ·exact ⟨.inl (.inr hb), hkeep b (by obtain ⟨κ, _, h⟩ := hη b hb; exact H.ltφ h) fun h => hφη b h hb⟩
  let χN : Nat -> Prop := fun b => φr b \/ φp b
  have hχN : ∀ b, χN b -> χ' b := fun b hb => (h2χ.2 b).2 (hb.imp id fun h => (hTo.2 b).2 (.inr h))
  have hmN : ∀ b, φm b -> χ' b := fun b hb => (h2χ.2 b).2 (.inr ((hTo.2 b).2 (.inl hb)))
  have hfN : ∀ b, fzN b -> fz' b := fun b hb => hb.elim (fun h => h.elim (hmf b) (hηf b)) fun h => h.2
  have hold : ∀ κ b, m1.φ κ b -> κ ∉ qz is -> ¬ χ' b /\ ¬ fzN b := fun κ b hb hn => by
   obtain ⟨h1, h2⟩ := hout1 κ b hb hn
   refine ⟨fun h => ?_, fun h => ?_⟩
   ·rcases hχ' b h with h | h
    ·exact h2 h
    ·omega
   ·rcases h with (h | h) | ⟨hl, h⟩
    ·exact H.fzφ κ b (hφ1 κ b hb).2 h
    ·exact hηold κ b hb h
    ·rcases hfz2 b h with h | h | h
     ·rcases h with (h | ⟨hl', _⟩) | h
      ·exact H.fzφ κ b (hφ1 κ b hb).2 h
      ·have hl' : l = false := hl'
       rw [hl] at hl'; cases hl'
      ·exact hηold κ b hb h
     ·exact h2 h
     ·omega
  have hmg : ∀ κ ∈ qz is, κ ∉ keysOf (y8 is) := fun κ h h' => hnd3 κ h' κ h rfl
  have hMnew : ∀ κ ∈ qz is, ∀ b, Φ κ b -> (χ' b /\ φm b) \/ (m1.φ κ b /\ b < m.w.heap.size /\ ¬ φ b) := fun κ hκ b hb => by
   rcases hM2 κ hκ b hb with h | h
   ·exact .inl ⟨hmN b h, h⟩
   ·exact .inr ⟨hφ1' κ b (hmg κ hκ) h.1, H.ltφ h.1, h.2⟩
  have hrest : ∀ κ b, m1.φ κ b -> b < m.w.heap.size -> ¬ φ b -> ¬ χ' b /\ ¬ fzN b := fun κ b hb h1 h2 => by
   refine ⟨fun h => ?_, fun h => ?_⟩
   ·rcases hχ' b h with h | h
    ·exact h2 h
    ·omega
   ·rcases h with (h | h) | ⟨hl, h⟩
    ·exact H.fzφ κ b (hφ1 κ b hb).2 h
    ·exact hηold κ b hb h
    ·rcases hfz2 b h with h | h | h
     ·rcases h with (h | ⟨hl', _⟩) | h
      ·exact H.fzφ κ b (hφ1 κ b hb).2 h
      ·have hl' : l = false := hl'
       rw [hl] at hl'; cases hl'
      ·exact hηold κ b hb h
     ·exact h2 h
     ·omega
  let φ' : Nat -> Nat -> Prop := fun κ => if κ ∈ qz is then Φ κ else m1.φ κ
  have eφ1 : ∀ κ, κ ∈ qz is -> φ' κ = Φ κ := fun κ h => by simp only [φ', h, if_true]
  have eφ2 : ∀ κ, κ ∉ qz is -> φ' κ = m1.φ κ := fun κ h => by simp only [φ', h, if_false]
  have hφ'χ : ∀ κ b, φ' κ b -> ¬ χN b /\ ¬ fzN b := fun κ b hb => by
   by_cases hm : κ ∈ qz is
   ·rw [eφ1 κ hm] at hb
    rcases hMnew κ hm b hb with ⟨h1, h2⟩ | ⟨h1, h2, h3⟩
    ·refine ⟨fun h => ?_, fun h => hχfz b h1 (hfN b h)⟩
     rcases h with h | h
     ·exact h2χ.1 b h ((hTo.2 b).2 (.inl h2))
     ·exact hTo.1 b h2 h
    ·exact ⟨fun h => (hrest κ b h1 h2 h3).1 (hχN b h), (hrest κ b h1 h2 h3).2⟩
   ·rw [eφ2 κ hm] at hb
    exact ⟨fun h => (hold κ b hb hm).1 (hχN b h), (hold κ b hb hm).2⟩
  have hmune : ∀ κ, κ ∉ qz is -> (m1.h.upd mu) κ = m1.h κ := fun κ h => Heap.upd_ne _ _ _ (by rw [hMk]; exact h)
  have hmuat : ∀ κ, κ ∈ qz is -> ∃ t0 xs0 v0, ∃ t : Ty, ∃ xs : List t.D, ∃ v, m1.h κ = .live (.row t0 xs0 v0) /\ (m1.h.upd mu) κ = .live (.row t xs v) /\ v0 < v /\ Ow w' fzN (.sl t) [slV (m1.ρ κ)] xs (Φ κ) /\ (m1.ρ κ).n = List.length xs /\ (m1.ρ κ).sz = t.nc := fun κ hκ => by
   rw [<- hMk] at hκ
   simp only [keysOf, List.mem_map] at hκ
   obtain ⟨p, hp, rfl⟩ := hκ
   obtain ⟨t, xs, ys', ver, e1, e2, e3⟩ := hM p hp
   have hin : p.1 ∈ qz is := by rw [<- hMk]; exact List.mem_map_of_mem hp
   have hκ1 : m1.h p.1 = .live (.row t xs ver) := by
    rw [<- e2]; exact (hφκ1 p.1 (hmg p.1 hin)).2
   have hup : (m1.h.upd mu) p.1 = p.2 := qbA mu m1.h (by rw [hMk]; exact hnd2) hp
   refine ⟨t, xs, ver, t, ys', ver + 1, hκ1, hup.trans e1, by omega, by rw [hρ1]; exact e3, ?_, by rw [hρ1]; exact (H.res p.1 _ e2).2.2⟩
   rw [hρ1]
   obtain ⟨A, c, e, _⟩ := e3
   simp only [slV, List.cons.injEq, and_true, Value.slice.injEq] at e
   exact e.2.1
  have hcame : ∃ φ' : Nat -> Nat -> Prop, Came m1 (m1.h.upd mu) φ' χN fzN w' /\ ∀ κ ∈ keysOf mu, κ ∉ keysOf (y8 is) /\ (∃ r, m.h κ = .live r) := by
   refine ⟨φ', {
    slot := fun κ => by
     by_cases hm : κ ∈ qz is
     ·rw [eφ1 κ hm]; exact .inr (hmuat κ hm)
     ·refine .inl ⟨hmune κ hm, eφ2 κ hm, fun b hb => ?_⟩
      obtain ⟨h1, h2⟩ := hout1 κ b hb hm
      rw [hw1]; exact hkeep b h1 h2
    disj := fun κ κ' b hne hb hb' => by
     by_cases hm : κ ∈ qz is <;> by_cases hm' : κ' ∈ qz is
     ·rw [eφ1 κ hm] at hb; rw [eφ1 κ' hm'] at hb'
      exact hM3 κ κ' b hm hm' hne hb hb'
     ·rw [eφ1 κ hm] at hb; rw [eφ2 κ' hm'] at hb'
      rcases hMnew κ hm b hb with ⟨h1, _⟩ | ⟨h1, _⟩
      ·exact (hold κ' b hb' hm').1 h1
      ·exact H1.disj κ κ' b hne h1 hb'
     ·rw [eφ2 κ hm] at hb; rw [eφ1 κ' hm'] at hb'
      rcases hMnew κ' hm' b hb' with ⟨h1, _⟩ | ⟨h1, _⟩
      ·exact (hold κ b hb hm).1 h1
      ·exact H1.disj κ κ' b hne hb h1
     ·rw [eφ2 κ hm] at hb; rw [eφ2 κ' hm'] at hb'
      exact H1.disj κ κ' b hne hb hb'
    loose := fun κ b hb => (hφ'χ κ b hb).1
    fzφ := fun κ b hb => (hφ'χ κ b hb).2
    fzχ := fun b hb h => hχfz b (hχN b hb) (hfN b h)
    fz := fun b hb => by
     rw [hw1]; exact hFη b hb
    ltf := fun b hb => hfzlt b (hfN b hb)
    ltχ := fun b hb => hχlt b (hχN b hb)
    orig := fun b hb => by
     rw [hw1]
     have hx : χ' b -> (m1.χ b \/ ∃ κ, m1.φ κ b) \/ m.w.heap.size <= b := fun h => (hχ' b h).imp (hin1 b) id
     rcases hb with hb | ⟨κ, hb⟩
     ·exact hx (hχN b hb)
     ·by_cases hm : κ ∈ qz is
      ·rw [eφ1 κ hm] at hb
       rcases hMnew κ hm b hb with ⟨h1, _⟩ | ⟨h1, _⟩
       ·exact hx h1
       ·exact .inl (.inr ⟨κ, h1⟩)
      ·rw [eφ2 κ hm] at hb
       exact .inl (.inr ⟨κ, hb⟩)
    keep := fun b hb hn => by
     rw [hw1] at hb ⊢
     exact hkeep b hb fun h => hn (hin1 b h)
    size := by rw [hw1]; exact hsize
    os := by rw [hw1]; exact hos
    tape := by rw [hw1]; exact htape
    output := by rw [hw1]; exact hout
    fzo := fun b hb => by
     rw [hf1, hw1]
     rcases hb with hb | ⟨hl, hb⟩
     ·exact .inl hb
     ·rcases hfz2 b hb with h | h | h
      ·rcases h with (h | ⟨hl', _⟩) | h
       ·exact .inl (.inl h)
       ·have hl' : l = false := hl'
        rw [hl] at hl'; cases hl'
       ·exact .inl (.inr h)
      ·exact .inr (.inl (hin1 b h))
      ·exact .inr (.inr h) }, fun κ h => ?_⟩
   rw [hMk] at h
   obtain ⟨t0, xs0, v0, t, xs, v, h1, _⟩ := hmuat κ h
   exact ⟨hmg κ h, _, ((hφκ1 κ (hmg κ h)).2).symm.trans h1⟩
  obtain ⟨φ', hC, hmuk⟩ := hcame
  have H2 := qf2 H1 hC
  have E2 := q9x H1 hC
  obtain ⟨rb1, rb2⟩ := qaD h6
  obtain ⟨pb1, pb2⟩ := jA hinf h8
  simp only at rb1 rb2 pb1 pb2 hfree h8
  have hfree2 : ∀ k', key <= k' -> k' < j2 -> (m1.h.upd mu) k' = .free := fun k' h1 h2 => by
   have hk := hfree k' h1 (by omega)
   rw [Heap.upd_ne _ _ _ fun h => by obtain ⟨_, r, hr⟩ := hmuk k' h; rw [hk] at hr; cases hr]
   rw [hh1, Heap.upd_ne _ _ _ fun h => by obtain ⟨r, hr⟩ := hks k' h; rw [hk] at hr; cases hr]
   exact hk
  have hresN : ResO P w' fzN (V k).res fn.resultTypes.toList rvs r.1 φr := ResO.re (fun hl b hb => .inr ⟨by show (q33 _ || zn _) = true; rw [hl, Bool.true_or], hb⟩) hres
  obtain ⟨m3, s3, χ3, hcr⟩ := qdo (m := m1.came (m1.h.upd mu) φ' χN fzN w') H2 hresN (fun b h => .inl h) h6 fun k' h1 h2 => hfree2 k' h1 (by omega)
  have hgone3 : ∀ κ ∈ qF is, Gone m3 m κ := fun κ hκ => by
   have hg := hinf.boxes κ hκ
   have e2 : (m1.h.upd mu) κ = .gone := by
    rw [Heap.upd_ne _ _ _ fun h => (hmuk κ h).1 (q7P hg)]; exact hg1 κ hg
   have e3 : m3.h κ = .gone := by
    rw [s3.h]
    show (m1.h.upd mu).upd ru κ = _
    rw [Heap.upd_ne _ _ _ fun h => by
     have hk := rb2 κ h
     have := hfree2 κ hk.1 (by omega)
     rw [e2] at this; cases this]
    exact e2
   obtain ⟨r0, hr0⟩ := hks κ (q7P hg)
   have u0 : (m.h κ).used := by rw [hr0]; trivial
   have u1 := E1.used κ u0
   have u2 := E2.used κ u1.1
   have u3 := s3.ext.used κ u2.1
   exact ⟨e3, by rw [u3.2, u2.2, u1.2]⟩
  obtain ⟨m4, s4, χ4⟩ := q1w (m0 := m) s3.hr hinf (by rw [s3.w, s3.fz]; exact hP) (fun b h => (χ3 b).2 ⟨.inr h, fun h' => h2χ.1 b h' ((hTo.2 b).2 (.inr h))⟩) h8 hbx hgone3 (fun k' h1 h2 => by
   rw [s3.h]
   show (m1.h.upd mu).upd ru k' = _
   rw [Heap.upd_ne _ _ _ fun h => by have := rb2 k' h; omega]
   exact hfree2 k' (by omega) h2) fun b hb => by
   rw [s3.w]
   show w'.heap[b]? = _
   have hlt := hSlt b (.inl (hS b hb))
   exact hkeep b hlt fun h => hφS b h (.inl (hS b hb))
  refine ⟨m4.drop (fun _ => False) m4.fz, by show m4.w = w'; rw [s4.w, s3.w]; rfl, qdy (All2.mono (fun _ _ h => (q2L (m := m4) (χ' := fun _ => False) (fun _ h => h.elim) fun _ h => h).cr (s4.ext.cr h)) hcr), q4K s4.hr (fun _ h => h.elim) (fun _ h => h) (fun _ h => .inl h),
   ((E1.trans E2).trans (s3.ext.trans s4.ext)).trans (q2L (fun _ h => h.elim) fun _ h => h), ?_, fun _ h => h⟩
  show m4.h = _
  rw [s4.h, s3.h]
  show ((m1.h.upd mu).upd ru).upd qu = _
  rw [hh1, <- Heap.zN, <- Heap.zN, <- Heap.zN]
 ·exact (Tr.q8 hr).elim
end
end Go.Den
namespace Go.Den
open Go

section
variable {P : Program} {V : Nat -> Sig} {F : Tr.Fs V} {m : M}
theorem PR.sv {x : SV} {v : Value} (h : m.PR (.sv x) v) : m.SR x v := h
theorem q7y : ∀ {ps : List PV} {vs : List Value} {ks : List Nat}, All2 m.PR ps vs -> q4R ps = some ks -> vs = ks.map (ptrV m) /\ ∀ κ ∈ ks, (m.h κ).used
 | [], [], ks, _, h => by
  simp only [q4R, Option.some.injEq] at h
  subst h
  exact ⟨rfl, fun κ h => by cases h⟩
 | p :: ps, v :: vs, ks, ⟨hp, hps⟩, h => by
  unfold q4R at h
  split at h
  ·rename_i heq; cases heq
  ·rename_i κ r heq
   injection heq with h1 h2
   subst h1; subst h2
   obtain ⟨ks', h3, h4⟩ := Option.map_eq_some_iff.1 h
   subst h4
   obtain ⟨k1, k2⟩ := q7y hps h3
   refine ⟨by rw [List.map_cons, <- k1]; congr 1; exact hp.2, fun κ' hκ => ?_⟩
   rcases List.mem_cons.1 hκ with rfl | hκ
   ·exact hp.1
   ·exact k2 κ' hκ
  ·cases h
theorem qcF {f : FuncId} {args : Array Value} {v : PV} {u : Upd} (h : qeq P f args m v u) : Goes P (callFunc f args) m v u := by
 rcases h with ⟨val, w', h1, m', rfl, h2⟩ | ⟨h1, h2⟩
 ·exact .inl ⟨val, m', h1, h2⟩
 ·refine .inr (.inr ⟨f, args, h1, h2.mono fun e w' h => ?_⟩)
  obtain ⟨val, he, m', hw, hd⟩ := h
  exact ⟨val, m', he, hw, hd⟩
theorem Goes.congr {x y : Sem Next} {v : PV} {u : Upd} (h : Goes P x m v u) (e : y.run P m.w = x.run P m.w) : Goes P y m v u := by
 unfold Goes at *
 rw [e]
 exact h
theorem All2.mapρ {ρs : Operand -> PV} {ρ : Operand -> Value} (hρ : ∀ x, m.PR (ρs x) (ρ x)) : ∀ l : List Operand, All2 m.PR (l.map ρs) (l.map ρ)
 | [] => trivial
 | x :: l => ⟨hρ x, All2.mapρ hρ l⟩
theorem qbK : ∀ {ks : List Nat}, (∀ κ ∈ ks, (m.h κ).used) -> All2 m.PR (ks.map fun κ => PV.sv (.ptr κ 0)) (ks.map (ptrV m))
 | [], _ => trivial
 | κ :: ks, h => ⟨⟨h κ (by simp), rfl⟩, qbK fun k hk => h k (by simp [hk])⟩
theorem q9h {ρ : Operand -> Value} {f : Operand} {args : Array Operand} {ts : Array TypeId} {ty : TypeId} {g : FuncId} {caps : Array Value} (hf : ρ f = .func (.func g) #[] caps) :
  (do let d <- resolve ρ { callee := .value f, args := args, argTypes := ts } ty; invoke d.target d.args : Sem Next) = callFunc g (args.map ρ ++ caps) := by
 simp only [resolve, hf, Deferred.ofValue, pure_bind, invoke, Array.empty_append]
theorem qaL (H : HR m) (hχ : ∀ b, ¬ m.χ b) {cands : Nat -> List Nat} (hF : FOk P V m.gl F) {key : Nat} {ρs : Operand -> PV} {ρ : Operand -> Value} (hρ : ∀ x, m.PR (ρs x) (ρ x)) {c : Call} {ty : TypeId} {v : PV} {u : Upd} {rd : List Nat}
  (hr : (opT (V := V) P cands key ρs (.call c)).run F m.h = some ((v, u), rd)) : Goes P (do let d <- resolve ρ c ty; invoke d.target d.args) m v u := by
 obtain ⟨callee, args, argTypes⟩ := c
 simp only [opT] at hr
 split at hr
 ·
  split at hr
  ·rename_i x t ts hx ht
   obtain ⟨l⟩ := args
   obtain ⟨l'⟩ := argTypes
   simp only at hx ht
   subst hx; subst ht
   have h := qej (P := P) H hχ (ty := ty) (ts := ts) (hρ x) hr
   refine (Goes.ofV h).congr ?_
   simp [resolve, invoke, builtin]
  ·exact (Tr.q8 hr).elim
 ·
  split at hr
  ·rename_i s x st xt ts hx ht
   obtain ⟨l⟩ := args
   obtain ⟨l'⟩ := argTypes
   simp only at hx ht
   subst hx; subst ht
   split at hr
   ·rename_i a b ha hb
    have h1 := hρ s
    rw [ha] at h1
    have h2 := hρ x
    rw [hb] at h2
    have h := qaM (P := P) H hχ (ty := ty) (ts := ts) h1 h2 hr
    refine (Goes.ofV h).congr ?_
    simp [resolve, invoke, builtin]
   ·exact (Tr.q8 hr).elim
  ·exact (Tr.q8 hr).elim
 ·
  split at hr
  ·rename_i x st ts hx ht
   obtain ⟨l⟩ := args
   obtain ⟨l'⟩ := argTypes
   simp only at hx ht
   subst hx; subst ht
   split at hr
   ·rename_i a ha
    have h1 := hρ x
    rw [ha] at h1
    have h := qcq (P := P) H hχ (ty := ty) (ts := ts) h1 hr
    refine (Goes.ofV h).congr ?_
    simp [resolve, invoke, builtin]
   ·exact (Tr.q8 hr).elim
  ·exact (Tr.q8 hr).elim
 ·
  split at hr
  ·rename_i x y hx
   obtain ⟨l⟩ := args
   simp only at hx
   subst hx
   split at hr
   ·rename_i k a l b ha hb
    have h1 := hρ x
    rw [ha] at h1
    have h2 := hρ y
    rw [hb] at h2
    have h1 : ρ x = .int k a := h1
    have h2 : ρ y = .int l b := h2
    obtain ⟨_, hr⟩ := qo hr
    obtain ⟨rfl, rfl, _⟩ := qw hr
    refine (Goes.ofV (qE.same (P := P) (v := .sv (.int k (bif decide (b < a) then b else a))) (x := pure (.int k (bif decide (b < a) then b else a))) H hχ rfl rfl)).congr ?_
    simp only [resolve, invoke, builtin, Builtin.min_, Builtin.min2, pure_bind, List.map_toArray, List.map_cons, List.map_nil, h1, h2, List.foldlM_cons, List.foldlM_nil, bind_pure, Bool.cond_decide]
   ·exact (Tr.q8 hr).elim
  ·exact (Tr.q8 hr).elim
 ·
  split at hr
  ·rename_i x y hx
   obtain ⟨l⟩ := args
   simp only at hx
   subst hx
   split at hr
   ·rename_i k a l b ha hb
    have h1 := hρ x
    rw [ha] at h1
    have h2 := hρ y
    rw [hb] at h2
    have h1 : ρ x = .int k a := h1
    have h2 : ρ y = .int l b := h2
    obtain ⟨_, hr⟩ := qo hr
    obtain ⟨rfl, rfl, _⟩ := qw hr
    refine (Goes.ofV (qE.same (P := P) (v := .sv (.int k (bif decide (b > a) then b else a))) (x := pure (.int k (bif decide (b > a) then b else a))) H hχ rfl rfl)).congr ?_
    simp only [resolve, invoke, builtin, Builtin.max_, Builtin.max2, pure_bind, List.map_toArray, List.map_cons, List.map_nil, h1, h2, List.foldlM_cons, List.foldlM_nil, bind_pure, Bool.cond_decide]
   ·exact (Tr.q8 hr).elim
  ·exact (Tr.q8 hr).elim
 ·
  rename_i f
  split at hr
  ·rename_i g caps hf
   have h1 := hρ f
   rw [hf] at h1
   have h1 : (∀ κ ∈ caps, (m.h κ).used) /\ ρ f = .func (.func g) #[] (caps.map (ptrV m)).toArray := h1
   have hall : All2 m.PR (args.toList.map ρs ++ caps.map fun κ => PV.sv (.ptr κ 0)) (args.toList.map ρ ++ caps.map (ptrV m)) := All2.append (All2.mapρ hρ args.toList) (qbK h1.1)
   refine (qcF (goes_call H hχ hF hall hr)).congr ?_
   rw [q9h h1.2]
   congr 2
   apply Array.ext'
   simp
  ·exact (Tr.q8 hr).elim
 ·exact (Tr.q8 hr).elim
theorem qfj (H : HR m) (hχ : ∀ b, ¬ m.χ b) {cands : Nat -> List Nat} (hF : FOk P V m.gl F) {key : Nat} {ρs : Operand -> PV} {ρ : Operand -> Value} (hρ : ∀ x, m.PR (ρs x) (ρ x)) {o : Oper} {v : PV} {u : Upd} {rd : List Nat}
  (hr : (opT (V := V) P cands key ρs o.op).run F m.h = some ((v, u), rd)) : Goes P (execOp ρ o) m v u := by
 obtain ⟨dst, op, type, pos, after, guard⟩ := o
 by_cases hc : ∃ c, op = .call c
 ·obtain ⟨c, rfl⟩ := hc
  exact qaL H hχ hF hρ hr
 cases op <;> (try simp only [opT] at hr)
 case move x =>
  obtain ⟨rfl, rfl, _⟩ := yN hr
  exact .inl ⟨ρ x, m, rfl, hρ x, H, Ext.refl m, rfl, hχ⟩
 case assign x =>
  obtain ⟨rfl, rfl, _⟩ := yN hr
  exact .inl ⟨ρ x, m, rfl, hρ x, H, Ext.refl m, rfl, hχ⟩
 case pick c a b =>
  split at hr
  ·rename_i t ht
   have hc := hρ c
   rw [ht] at hc
   have hc : ρ c = .bool t := hc
   cases t with
   | true =>
    have hr : (Tr.ret (V := V) (ρs a, ([] : Upd))).run F m.h = some ((v, u), rd) := hr
    obtain ⟨rfl, rfl, _⟩ := yN hr
    exact .inl ⟨ρ a, m, by simp [execOp, hc, asBool], hρ a, H, Ext.refl m, rfl, hχ⟩
   | false =>
    have hr : (Tr.ret (V := V) (ρs b, ([] : Upd))).run F m.h = some ((v, u), rd) := hr
    obtain ⟨rfl, rfl, _⟩ := yN hr
    exact .inl ⟨ρ b, m, by simp [execOp, hc, asBool], hρ b, H, Ext.refl m, rfl, hχ⟩
  ·exact (Tr.q8 hr).elim
 case alloc e =>
  split at hr
  ·rename_i z hz
   exact Goes.ofV (qc8 H hχ hz hr)
  ·exact (Tr.q8 hr).elim
 case box e x =>
  split at hr
  ·rename_i c hc
   obtain ⟨hok, hr⟩ := qo hr
   obtain ⟨hk, r, hr, _⟩ := Tr.q0t hr
   obtain ⟨rfl, rfl, _⟩ := yN hr
   have hx := hρ x
   rw [hc] at hx
   exact Goes.ofV (q9A H hχ hk hok hx e)
  ·exact (Tr.q8 hr).elim
 case build t ps =>
  split at hr
  ·rename_i l hl
   refine Goes.ofV ((qcC H hχ (q5b hρ hl) hr).congr ?_)
   congr 2
   apply Array.ext'
   simp
  ·exact (Tr.q8 hr).elim
 case buildSlice t n ps =>
  split at hr
  ·rename_i l hl
   refine Goes.ofV ((q7q H hχ (q5b hρ hl) hr).congr ?_)
   congr 2
   apply Array.ext'
   simp
  ·exact (Tr.q8 hr).elim
 case load t a =>
  split at hr
  ·rename_i x hx
   have ha := hρ a
   rw [hx] at ha
   exact Goes.ofV (qdw H hχ ha hr)
  ·exact (Tr.q8 hr).elim
 case store t a x =>
  split at hr
  ·rename_i p c hp hc
   have ha := hρ a
   rw [hp] at ha
   have hx := hρ x
   rw [hc] at hx
   obtain ⟨rfl, hg⟩ := qcJ H hχ ha hx hr
   exact Goes.ofU hg
  ·exact (Tr.q8 hr).elim
 case nilCheck x =>
  have hx := hρ x
  split at hr
  ·rename_i κ o hc
   obtain ⟨rfl, rfl, _⟩ := qw hr
   rw [hc] at hx
   refine .inl ⟨ρ x, m, ?_, hx, H, Ext.refl m, rfl, hχ⟩
   simp only [execOp]
   rw [hx.2]
   rfl
  ·rename_i κ i o hc
   obtain ⟨rfl, rfl, _⟩ := qw hr
   rw [hc] at hx
   refine .inl ⟨ρ x, m, ?_, hx, H, Ext.refl m, rfl, hχ⟩
   obtain ⟨_, _, b, o', _, e⟩ := hx
   simp only [execOp]
   rw [e]
   rfl
  ·rename_i t xs i o hc
   obtain ⟨rfl, rfl, _⟩ := qw hr
   rw [hc] at hx
   refine .inl ⟨ρ x, m, ?_, hx, H, Ext.refl m, rfl, hχ⟩
   obtain ⟨_, b, o', vs, _, e, _⟩ := hx
   simp only [execOp]
   rw [e]
   rfl
  ·rename_i κ ver i l j o hc
   obtain ⟨rfl, rfl, _⟩ := qw hr
   rw [hc] at hx
   refine .inl ⟨ρ x, m, ?_, hx, H, Ext.refl m, rfl, hχ⟩
   obtain ⟨_, ⟨b, o', e⟩, _⟩ := hx
   simp only [execOp]
   rw [e]
   rfl
  ·rename_i f c hc
   obtain ⟨rfl, rfl, _⟩ := qw hr
   rw [hc] at hx
   refine .inl ⟨ρ x, m, ?_, hx, H, Ext.refl m, rfl, hχ⟩
   simp only [execOp]
   rw [hx.2]
   rfl
  ·exact (Tr.q8 hr).elim
 case binOp op t x y yt =>
  refine Goes.ofV (qdU H hχ (hρ x) (hρ y) (fun h => ?_) hr)
  cases y with
  | const c => exact ⟨c, rfl⟩
  | tmp t => cases h
  | global t => cases h
  | func t => cases h
 case unOp op t x => exact Goes.ofV (qfl H hχ (hρ x) hr)
 case convert s d x => exact Goes.ofV (qcO H hχ (hρ x) hr)
 case makeFunc fn first cap =>
  split at hr
  ·rename_i f
   obtain ⟨hf, hr⟩ := qo hr
   split at hr
   ·rename_i ks hks
    obtain ⟨rfl, rfl, _⟩ := qw hr
    have h0 : first = #[] := Array.size_eq_zero_iff.1 (Nat.eq_of_beq_eq_true hf)
    obtain ⟨k1, k2⟩ := q7y (All2.mapρ hρ cap.toList) hks
    refine Goes.ofV (qE.same H hχ rfl ⟨k2, ?_⟩)
    rw [h0]
    have : cap.map ρ = (ks.map (ptrV m)).toArray := by
     rw [<- k1]
     apply Array.ext'
     simp
    rw [this, show (#[] : Array Operand).map ρ = #[] by simp]
    rfl
   ·exact (Tr.q8 hr).elim
  ·exact (Tr.q8 hr).elim
 case makeSlice t l c =>
  split at hr
  ·rename_i n k hn hk
   have h1 := hρ l
   rw [hn] at h1
   have h2 := hρ c
   rw [hk] at h2
   have h1 : ρ l = .int .i64 n := h1
   have h2 : ρ c = .int .i64 k := h2
   refine Goes.ofV ?_
   rw [h1, h2]
   exact q8s H hχ hr
  ·exact (Tr.q8 hr).elim
 case slice t x lo hi mx =>
  split at hr
  ·refine Goes.ofV (qbY H hχ (hρ x) ?_ ?_ ?_ ?_ hr)
   ·intro p hp
    obtain ⟨y, rfl, rfl⟩ := Option.map_eq_some_iff.1 hp
    exact ⟨ρ y, rfl, hρ y⟩
   ·intro h; cases lo <;> first | rfl | cases h
   ·intro p hp
    obtain ⟨y, rfl, rfl⟩ := Option.map_eq_some_iff.1 hp
    exact ⟨ρ y, rfl, hρ y⟩
   ·intro h; cases hi <;> first | rfl | cases h
  ·exact (Tr.q8 hr).elim
 case fieldAddr t x f => exact Goes.ofV (q8e H hχ (hρ x) hr)
 case field t x f => exact Goes.ofV (qbW H hχ (hρ x) hr)
 case indexAddr t x i =>
  split at hr
  ·rename_i k n hi
   have h1 := hρ i
   rw [hi] at h1
   have h1 : ρ i = .int k n := h1
   refine Goes.ofV ?_
   rw [h1]
   exact q83 H hχ (hρ x) hr
  ·exact (Tr.q8 hr).elim
 case index t x i =>
  split at hr
  ·rename_i s k n hx hi
   have h1 := hρ i
   rw [hi] at h1
   have h1 : ρ i = .int k n := h1
   have h2 := hρ x
   rw [hx] at h2
   have h2 : ρ x = .string s := h2
   refine Goes.ofV ?_
   rw [h1, h2]
   exact qch H hχ hr
  ·exact (Tr.q8 hr).elim
 case extract x i =>
  split at hr
  ·rename_i xs hx
   split at hr
   ·rename_i c hc
    obtain ⟨rfl, rfl, _⟩ := yN hr
    have h1 := hρ x
    rw [hx] at h1
    obtain ⟨vs, e, hall⟩ := h1
    have hlt := (List.getElem?_eq_some_iff.1 hc).1
    have hl := hall.len
    have hlt' : i < vs.toList.length := by omega
    have := All2.get hall i hlt hlt'
    rw [(List.getElem?_eq_some_iff.1 hc).2] at this
    refine Goes.ofV (qE.same H hχ (val := vs.toList[i]) ?_ this)
    have hv : vs[i]? = some vs.toList[i] := by rw [<- Array.getElem?_toList]; exact List.getElem?_eq_getElem hlt'
    rw [e]
    simp only [Instr.extract, hv]
    rfl
   ·exact (Tr.q8 hr).elim
  ·exact (Tr.q8 hr).elim
 case call c => exact absurd ⟨c, rfl⟩ hc
 all_goals exact (Tr.q8 hr).elim
end
end Go.Den
namespace Go.Den
open Go

section
variable {P : Program} {V : Nat -> Sig} {cands : Nat -> List Nat} {F : Tr.Fs V} {R : Type}
def q2b (all : List Oper) (o : Oper) (σ : St) : Option Bool := match o.guard with
 | none => some true
 | some (j, want) => match q1j all j with
  | none => none
  | some g => match σ.tmps.getD g .un with
   | .c (.s (.bool b)) => some (b == want)
   | .tup [] => some false
   | _ => none
variable (P cands F) in
noncomputable def q1I (rid : Nat) (all : List Oper) (i : Nat) (o : Oper) (σ : St) : Option (St × Foot) := match q2b all o σ with
 | none => none
 | some true => ((opT (V := V) P cands (16 * (64 * rid + i)) (q03 σ.tmps) o.op).run F σ.heap).map fun p => ({ (σ.put o.dst p.1.1) with heap := σ.heap.upd p.1.2 }, ⟨keysOf p.1.2, p.2.reverse⟩)
 | some false => some (σ.put o.dst (.tup []), ⟨[], []⟩)
variable (P cands F) in
noncomputable def q1Y (rid : Nat) (all : List Oper) : List Oper -> Nat -> St -> List Foot -> Option (St × List Foot)
 | [], _, σ, fs => some (σ, fs)
 | o :: r, i, σ, fs => (q1I P cands F rid all i o σ).bind fun p => q1Y rid all r (i + 1) p.1 (fs ++ [p.2])
theorem qei {l : List PV} {g : Nat} {x : PV} (h : l.getD g .un = x) (hx : x ≠ .un) : l.set g x = l := by
 rw [List.getD_eq_getElem?_getD] at h
 by_cases hg : g < l.length
 ·rw [List.getElem?_eq_getElem hg, Option.getD_some] at h
  rw [<- h]; exact List.set_getElem_self hg
 ·rw [List.getElem?_eq_none (by omega)] at h
  exact absurd h.symm hx
theorem q61 (rid : Nat) (all : List Oper) : ∀ (l : List Oper) (i : Nat) (σ : St) (fs : List Foot) (K : St -> List Foot -> Option R), wU P cands F rid all l i σ fs K = (q1Y P cands F rid all l i σ fs).bind fun p => K p.1 p.2
 | [], i, σ, fs, K => rfl
 | o :: r, i, σ, fs, K => by
  have hgo : ∀ σ : St, (opT (V := V) P cands (16 * (64 * rid + i)) (q03 σ.tmps) o.op).cps F σ.heap
    (fun e rd => wU P cands F rid all r (i + 1) { (σ.put o.dst e.1) with heap := σ.heap.upd e.2 } (fs ++ [⟨keysOf e.2, rd⟩]) K) [] =
    ((((opT (V := V) P cands (16 * (64 * rid + i)) (q03 σ.tmps) o.op).run F σ.heap).map fun p => (({ (σ.put o.dst p.1.1) with heap := σ.heap.upd p.1.2 } : St), (⟨keysOf p.1.2, p.2.reverse⟩ : Foot))).bind fun p =>
     (q1Y P cands F rid all r (i + 1) p.1 (fs ++ [p.2])).bind fun p => K p.1 p.2) := fun σ => by
   rw [Tr.qd7]
   cases hrun : (opT (V := V) P cands (16 * (64 * rid + i)) (q03 σ.tmps) o.op).run F σ.heap with
   | none => rfl
   | some p =>
    simp only [oB, Option.map_some, List.append_nil]
    exact q61 rid all r (i + 1) _ _ K
  have hskip : ∀ σ : St, wU P cands F rid all r (i + 1) (σ.put o.dst (.tup [])) (fs ++ [⟨[], []⟩]) K = (q1Y P cands F rid all r (i + 1) (σ.put o.dst (.tup [])) (fs ++ [⟨[], []⟩])).bind fun p => K p.1 p.2 := fun σ => q61 rid all r (i + 1) _ _ K
  simp only [q1Y, q1I, q2b, wU]
  cases hg : o.guard with
  | none =>
   simp only []
   rw [hgo, Option.bind_assoc]
  | some jw =>
   obtain ⟨j, want⟩ := jw
   simp only []
   cases hs : q1j all j with
   | none => rfl
   | some g =>
    simp only []
    have hput : ∀ b, σ.tmps.getD g .un = .c (.s (.bool b)) -> σ.put (some g) (.sv (.bool b)) = σ := fun b hb => by
     show ({ σ with tmps := σ.tmps.set g (.c (.s (.bool b))) } : St) = σ
     rw [qei hb (by intro h; cases h)]
    generalize hx : σ.tmps.getD g .un = x at hput ⊢
    cases x with
    | c cv =>
     cases cv with
     | a cs => rfl
     | s sv =>
      cases sv
      case bool b =>
       have hput := hput b rfl
       cases b <;> cases want
       ·show _ = Option.bind _ _
        simp only [cT, cF]
        rw [hput, hgo]
        exact (Option.bind_assoc _ _ _).symm
       ·simp only [cT, cF]
        rw [hput, hskip]; rfl
       ·simp only [cT, cF]
        rw [hput, hskip]; rfl
       ·show _ = Option.bind _ _
        simp only [cT, cF]
        rw [hput, hgo]
        exact (Option.bind_assoc _ _ _).symm
      all_goals rfl
    | tup xs =>
     cases xs with
     | nil => simp only []; rw [hskip]; rfl
     | cons _ _ => rfl
structure Sim (σ : St) (a : Act) (m : M) : Prop where
 h : m.h = σ.heap
 tmps : All2 m.PR σ.tmps a.tmps.toList
 hr : HR m
 χ : ∀ b, ¬ m.χ b
 defers : a.defers = []
theorem q2I {m : M} : ∀ {l : List PV} {vs : List Value}, All2 m.PR l vs -> ∀ t, m.PR (l.getD t .un) (vs.getD t undef)
 | [], [], _, t => trivial
 | _ :: _, _ :: _, h, 0 => h.1
 | _ :: _, _ :: _, h, t + 1 => q2I h.2 t
theorem qa2 {σ : St} {a : Act} {m : M} (S : Sim σ a m) (x : Operand) : m.PR (q03 σ.tmps x) (a.eval x) := by
 cases x with
 | tmp t =>
  have := q2I S.tmps t
  show m.PR (σ.tmps.getD t .un) (a.tmps.getD t undef)
  have e : a.tmps.toList.getD t undef = a.tmps.getD t undef := by rw [List.getD_eq_getElem?_getD, Array.getElem?_toList, Array.getD_eq_getD_getElem?]
  rw [e] at this
  exact this
 | const v => exact q8u _ _ _ _ v
 | global g => trivial
 | func f => exact ⟨fun κ h => (by cases h), rfl⟩
theorem All2.set {α β : Type} {R : α -> β -> Prop} : ∀ {as : List α} {bs : List β} (i : Nat) {a : α} {b : β}, All2 R as bs -> R a b -> All2 R (as.set i a) (bs.set i b)
 | [], [], _, _, _, _, _ => trivial
 | _ :: _, _ :: _, 0, _, _, h, h' => ⟨h', h.2⟩
 | _ :: _, _ :: _, i + 1, _, _, h, h' => ⟨h.1, All2.set i h.2 h'⟩
theorem qdC {σ : St} {a : Act} {m : M} (h : All2 m.PR σ.tmps a.tmps.toList) (d : Option Nat) {v : PV} {x : Value} (hv : m.PR v x) : All2 m.PR (σ.put d v).tmps (a.put d x).tmps.toList := by
 cases d with
 | none => exact h
 | some d =>
  show All2 m.PR (σ.tmps.set d v) (a.tmps.setIfInBounds d x).toList
  rw [Array.toList_setIfInBounds]
  exact All2.set d h hv
theorem qdZ (σ : St) (d : Option Nat) (v : PV) : (σ.put d v).heap = σ.heap := by cases d <;> rfl
theorem q6X (a : Act) (d : Option Nat) (v : Value) : (a.put d v).defers = a.defers := by cases d <;> rfl
theorem Sim.skip {σ : St} {a : Act} {m : M} (S : Sim σ a m) (d : Option Nat) : Sim (σ.put d (.tup [])) (a.put d undef) m :=
 ⟨by rw [qdZ]; exact S.h, qdC S.tmps d ⟨#[], rfl, trivial⟩, S.hr, S.χ, by rw [q6X]; exact S.defers⟩
theorem Sim.done {σ : St} {a : Act} {m m' : M} (S : Sim σ a m) {d : Option Nat} {v : PV} {u : Upd} {x : Value} (D : Done m v u x m') : Sim { (σ.put d v) with heap := σ.heap.upd u } (a.put d x) m' :=
 ⟨by rw [D.h, S.h], qdC (All2.mono (fun _ _ h => D.ext.pr h) S.tmps) d D.pr, D.hr, D.χ, by rw [q6X]; exact S.defers⟩
theorem q8L {ops : Array Oper} {o : Oper} {σ : St} {a : Act} {m : M} (S : Sim σ a m) {b : Bool} (h : q2b ops.toList o σ = some b) : Region.wanted o (yielded ops a.tmps) = b := by
 unfold q2b at h
 unfold Region.wanted
 cases hg : o.guard with
 | none => rw [hg] at h; exact Option.some.inj h
 | some jw =>
  obtain ⟨j, want⟩ := jw
  rw [hg] at h
  simp only [] at h ⊢
  cases hs : q1j ops.toList j with
  | none => rw [hs] at h; cases h
  | some g =>
   rw [hs] at h
   have hd : (ops[j]?).bind (·.dst) = some g := by
    unfold q1j at hs
    rw [Array.getElem?_toList] at hs
    cases ho : ops[j]? with
    | none => rw [ho] at hs; cases hs
    | some o' => rw [ho] at hs; exact hs
   have hp := q2I S.tmps g
   simp only [yielded, hd, oB]
   simp only [] at h
   split at h
   ·rename_i c hc
    rw [hc] at hp
    have hp : a.tmps.toList.getD g undef = .bool c := hp
    rw [List.getD_eq_getElem?_getD, Array.getElem?_toList] at hp
    cases hx : a.tmps[g]? with
    | none => rw [hx] at hp; cases hp
    | some y =>
     rw [hx, Option.getD_some] at hp
     rw [hp, <- Option.some.inj h]
     rfl
   ·rename_i hc
    rw [hc] at hp
    obtain ⟨vs, hp, hvs⟩ := hp
    rw [List.getD_eq_getElem?_getD, Array.getElem?_toList] at hp
    rw [<- Option.some.inj h]
    cases hx : a.tmps[g]? with
    | none => rfl
    | some y =>
     rw [hx, Option.getD_some] at hp
     rw [hp]; rfl
   ·cases h
theorem qac {ops : Array Oper} {rid i : Nat} {o : Oper} {σ σ' : St} {f : Foot} {a : Act} {m : M} (hF : FOk P V m.gl F) (S : Sim σ a m) (hs : q1I P cands F rid ops.toList i o σ = some (σ', f)) {next : Act -> World -> Prop} {Q : Exit -> Act -> World -> Prop}
  (hn : ∀ a' m', Sim σ' a' m' -> Ext m m' -> next a' m'.w) : if Region.wanted o (yielded ops a.tmps) = true then o.wp P a m.w next Q else next (a.put o.dst undef) m.w := by
 unfold q1I at hs
 split at hs
 ·cases hs
 ·rename_i hg
  rw [if_pos (q8L S hg)]
  obtain ⟨⟨⟨v, u⟩, rd⟩, hrun, he⟩ := Option.map_eq_some_iff.1 hs
  obtain ⟨rfl, _⟩ := Prod.mk.inj he
  rw [<- S.h] at hrun
  have hgo := qfj (P := P) S.hr S.χ hF (fun x => qa2 S x) hrun
  unfold Oper.wp
  rcases hgo with ⟨val, m', h1, D⟩ | ⟨rfl, m', h1, D⟩ | ⟨g, args, h1, h2⟩
  ·rw [h1]; exact hn _ m' (S.done D) D.ext
  ·rw [h1]; exact hn _ m' (S.done D) D.ext
  ·rw [h1]
   show Calls P g args m.w _
   refine h2.mono fun e w' h => ?_
   obtain ⟨val, m', rfl, rfl, D⟩ := h
   exact hn _ m' (S.done D) D.ext
 ·rename_i hg
  rw [if_neg (by rw [q8L S hg]; decide)]
  obtain ⟨rfl, _⟩ := Prod.mk.inj (Option.some.inj hs)
  exact hn _ m (S.skip o.dst) (Ext.refl m)
theorem qbw {ops : Array Oper} {rid : Nat} {Q : Exit -> Act -> World -> Prop} : ∀ (l : List Oper) (i : Nat) {σ σ' : St} {fs fs' : List Foot} {a : Act} {m : M}, (∀ j, l[j]? = ops[i + j]?) -> i + l.length = ops.size -> FOk P V m.gl F -> Sim σ a m -> q1Y P cands F rid ops.toList l i σ fs = some (σ', fs') ->
  (∀ a' m', Sim σ' a' m' -> Ext m m' -> Q .normal a' m'.w) -> wpOps P ops Q ((List.range ops.size).drop i) a m.w
 | [], i, σ, σ', fs, fs', a, m, hl, hlen, hF, S, hr, hq => by
  rw [List.drop_of_length_le (by simp at hlen ⊢; omega)]
  obtain ⟨rfl, _⟩ := Prod.mk.inj (Option.some.inj hr)
  exact hq a m S (Ext.refl m)
 | o :: l, i, σ, σ', fs, fs', a, m, hl, hlen, hF, S, hr, hq => by
  obtain ⟨⟨σ1, f⟩, h1, h2⟩ := Option.bind_eq_some_iff.1 hr
  have hi : i < ops.size := by simp at hlen; omega
  have h0 : ops[i]? = some o := by simpa using (hl 0).symm
  have hd : (List.range ops.size).drop i = i :: (List.range ops.size).drop (i + 1) := by
   rw [List.drop_eq_getElem_cons (by simpa using hi)]; simp
  rw [hd]
  simp only [wpOps, h0]
  have := qac (ops := ops) (Q := Q) (next := wpOps P ops Q ((List.range ops.size).drop (i + 1))) hF S h1 fun a' m' S' E => qbw l (i + 1) (fun j => by have := hl (j + 1); simpa [Nat.add_assoc, Nat.add_comm 1 j] using this) (by simp at hlen ⊢; omega) (by rw [E.gl]; exact hF) S' h2 fun a'' m'' S'' E' => hq a'' m'' S'' (E.trans E')
  by_cases hw : Region.wanted o (yielded ops a.tmps) = true
  ·rw [if_pos hw] at this ⊢; exact .inl this
  ·rw [if_neg hw] at this ⊢; exact this
end
end Go.Den
namespace Go.Den
open Go

section
variable {P : Program} {V : Nat -> Sig} {cands : Nat -> List Nat} {F : Tr.Fs V} {R : Type}
theorem q3h {ρ ρ' : Operand -> PV} : ∀ {ps : List (Nat × Operand)}, (∀ p ∈ ps, ρ p.2 = ρ' p.2) -> partsOf ρ ps = partsOf ρ' ps
 | [], _ => rfl
 | (i, x) :: r, h => by
  simp only [partsOf, h (i, x) (by simp), q3h (ps := r) fun p hp => h p (by simp [hp])]
theorem qdq {ρ ρ' : Operand -> PV} {key : Nat} {op : Op} (h : ∀ x ∈ op.operands, ρ x = ρ' x) : opT (V := V) P cands key ρ op = opT P cands key ρ' op := by
 cases op <;> simp only [Op.operands] at h <;> simp only [opT]
 case build t ps => rw [q3h fun p hp => h p.2 (List.mem_toArray.2 (List.mem_map.2 ⟨p, hp, rfl⟩))]
 case buildSlice t n ps => rw [q3h fun p hp => h p.2 (List.mem_toArray.2 (List.mem_map.2 ⟨p, hp, rfl⟩))]
 case makeFunc fn first cap =>
  have : cap.toList.map ρ = cap.toList.map ρ' := List.map_congr_left fun x hx => h x (by simp at hx ⊢; exact .inr hx)
  rw [this]
 case call c =>
  obtain ⟨callee, args, argTypes⟩ := c
  have ha : ∀ x ∈ args.toList, ρ x = ρ' x := fun x hx => h x (by simp only [Call.operands]; simp at hx ⊢; exact .inr hx)
  have hm : args.toList.map ρ = args.toList.map ρ' := List.map_congr_left ha
  cases callee with
  | value f =>
   have hf : ρ f = ρ' f := h f (by simp [Call.operands])
   simp only [hf, hm]
  | invoke r n => rfl
  | builtin b =>
   cases b <;> simp only []
   case len => split <;> first | rfl | (rename_i x t ts hx ht; rw [ha x (by rw [hx]; simp)])
   case append => split <;> first | rfl | (rename_i s x st xt ts hx ht; rw [ha s (by rw [hx]; simp), ha x (by rw [hx]; simp)])
   case clear => split <;> first | rfl | (rename_i s st ts hx ht; rw [ha s (by rw [hx]; simp)])
   case min => split <;> first | rfl | (rename_i x y hx; rw [ha x (by rw [hx]; simp), ha y (by rw [hx]; simp)])
   case max => split <;> first | rfl | (rename_i x y hx; rw [ha x (by rw [hx]; simp), ha y (by rw [hx]; simp)])
 case slice t x lo hi mx => cases lo <;> cases hi <;> cases mx <;> simp_all
 all_goals (first | rfl | (simp_all; done))

variable (P cands F) in
noncomputable def q3B (rid : Nat) (all : List Oper) (i : Nat) (o : Oper) (σ : St) : Option (PV × Upd × Foot) := match q2b all o σ with
 | none => none
 | some true => ((opT (V := V) P cands (16 * (64 * rid + i)) (q03 σ.tmps) o.op).run F σ.heap).map fun p => (p.1.1, p.1.2, ⟨keysOf p.1.2, p.2.reverse⟩)
 | some false => some (.tup [], [], ⟨[], []⟩)
def app (d : Option Nat) (v : PV) (u : Upd) (σ : St) : St := { (σ.put d v) with heap := σ.heap.upd u }
theorem q46 {rid : Nat} {all : List Oper} {i : Nat} {o : Oper} {σ σ' : St} {f : Foot} : q1I P cands F rid all i o σ = some (σ', f) ↔ ∃ v u, q3B P cands F rid all i o σ = some (v, u, f) /\ σ' = app o.dst v u σ := by
 unfold q1I q3B
 cases hg : q2b all o σ with
 | none => exact ⟨(fun h => by cases h), (fun ⟨v, u, h, _⟩ => by cases h)⟩
 | some b =>
  cases b with
  | true =>
   simp only [Option.map_eq_some_iff]
   constructor
   ·rintro ⟨p, h1, h2⟩
    obtain ⟨rfl, rfl⟩ := Prod.mk.inj h2
    exact ⟨p.1.1, p.1.2, ⟨p, h1, rfl⟩, rfl⟩
   ·rintro ⟨v, u, ⟨p, h1, h2⟩, rfl⟩
    obtain ⟨rfl, rfl, rfl⟩ := inj3 h2
    exact ⟨p, h1, rfl⟩
  | false =>
   simp only [Option.some.injEq, Prod.mk.injEq]
   constructor
   ·rintro ⟨rfl, rfl⟩
    refine ⟨.tup [], [], ⟨rfl, rfl, rfl⟩, ?_⟩
    cases o.dst <;> rfl
   ·rintro ⟨v, u, ⟨rfl, rfl, rfl⟩, rfl⟩
    refine ⟨?_, rfl⟩
    cases o.dst <;> rfl
theorem qaj {rid : Nat} {all : List Oper} {i : Nat} {o : Oper} {σ : St} {v : PV} {u : Upd} {f : Foot} (h : q3B P cands F rid all i o σ = some (v, u, f)) : f.wr = keysOf u := by
 unfold q3B at h
 split at h
 ·cases h
 ·obtain ⟨p, h1, h2⟩ := Option.map_eq_some_iff.1 h
  obtain ⟨rfl, rfl, rfl⟩ := inj3 h2
  rfl
 ·obtain ⟨rfl, rfl, rfl⟩ := inj3 (Option.some.inj h)
  rfl
theorem q5E {ops : Array Oper} {rid i : Nat} {o : Oper} {σ σ' : St} {v : PV} {u : Upd} {f : Foot} (h : q3B P cands F rid ops.toList i o σ = some (v, u, f)) (ht : ∀ t ∈ o.looksAt ops, σ'.tmps.getD t .un = σ.tmps.getD t .un) (hh : ∀ κ ∈ f.rd, σ'.heap κ = σ.heap κ) :
  q3B P cands F rid ops.toList i o σ' = some (v, u, f) := by
 have hg : q2b ops.toList o σ' = q2b ops.toList o σ := by
  unfold q2b
  cases hgd : o.guard with
  | none => rfl
  | some jw =>
   obtain ⟨j, want⟩ := jw
   simp only []
   cases hs : q1j ops.toList j with
   | none => rfl
   | some g =>
    simp only []
    rw [ht g]
    have hd : (ops[j]?).bind (·.dst) = some g := by
     unfold q1j at hs
     rw [Array.getElem?_toList] at hs
     cases ho : ops[j]? with
     | none => rw [ho] at hs; cases hs
     | some o' => rw [ho] at hs; exact hs
    simp [Oper.looksAt, hgd, hd]
 have hρ : opT (V := V) P cands (16 * (64 * rid + i)) (q03 σ'.tmps) o.op = opT P cands (16 * (64 * rid + i)) (q03 σ.tmps) o.op := qdq fun x hx => by
  cases x with
  | tmp t => exact ht t (List.mem_append_left _ (List.mem_filterMap.2 ⟨.tmp t, by simpa using hx, rfl⟩))
  | _ => rfl
 unfold q3B at h ⊢
 rw [hg, hρ]
 split at h
 ·cases h
 ·obtain ⟨p, h1, h2⟩ := Option.map_eq_some_iff.1 h
  obtain ⟨rfl, rfl, rfl⟩ := inj3 h2
  rw [Tr.qcG (h' := σ'.heap) h1 fun κ hκ => hh κ (by simpa using hκ)]
  rfl
 ·exact h
theorem qa7 : ∀ (u : Upd) (h h' : Heap) (κ : Nat), κ ∈ keysOf u -> h.upd u κ = h'.upd u κ
 | (j, s) :: u, h, h', κ, hk => by
  by_cases hu : κ ∈ keysOf u
  ·exact qa7 u _ _ κ hu
  ·have : κ = j := by
    simp only [keysOf, List.map_cons, List.mem_cons] at hk
    rcases hk with h | h
    ·exact h
    ·exact absurd h hu
   subst this
   show (h.set κ s).upd u κ = (h'.set κ s).upd u κ
   rw [Heap.upd_ne _ _ _ hu, Heap.upd_ne _ _ _ hu, Heap.wD, Heap.wD]
theorem qdQ {u v : Upd} (hd : ∀ κ ∈ keysOf u, κ ∉ keysOf v) (h : Heap) : (h.upd u).upd v = (h.upd v).upd u := by
 funext κ
 by_cases hu : κ ∈ keysOf u
 ·rw [Heap.upd_ne v _ _ (hd κ hu)]
  exact qa7 u _ _ κ hu
 ·rw [Heap.upd_ne u (h.upd v) _ hu]
  by_cases hv : κ ∈ keysOf v
  ·exact qa7 v _ _ κ hv
  ·rw [Heap.upd_ne v _ _ hv, Heap.upd_ne v _ _ hv, Heap.upd_ne u _ _ hu]
theorem qe4 {d e : Option Nat} {v w : PV} {u x : Upd} {σ : St} (hd : ∀ t, d = some t -> e ≠ some t) (hu : ∀ κ ∈ keysOf u, κ ∉ keysOf x) : app e w x (app d v u σ) = app d v u (app e w x σ) := by
 unfold app
 have h1 : (({ (σ.put d v) with heap := σ.heap.upd u } : St).put e w).tmps = (({ (σ.put e w) with heap := σ.heap.upd x } : St).put d v).tmps := by
  cases d with
  | none => cases e <;> rfl
  | some d =>
   cases e with
   | none => rfl
   | some e =>
    show (σ.tmps.set d v).set e w = (σ.tmps.set e w).set d v
    exact List.set_comm _ _ fun h => hd d rfl (by rw [h])
 show St.mk _ _ = St.mk _ _
 rw [h1]
 congr 1
 exact qdQ hu _
theorem q9K {d : Option Nat} {v : PV} {u : Upd} {σ : St} {t : Nat} (h : d ≠ some t) : (app d v u σ).tmps.getD t .un = σ.tmps.getD t .un := by
 cases d with
 | none => rfl
 | some d =>
  show (σ.tmps.set d v).getD t .un = _
  have : d ≠ t := fun e => h (by rw [e])
  simp [List.getD_eq_getElem?_getD, List.getElem?_set_ne this]
theorem q8U {a b : List Nat} (h : disj a b = true) : ∀ κ ∈ a, κ ∉ b := fun κ ha hb => by
 have := List.all_eq_true.1 h κ ha
 simp only [Bool.not_eq_true'] at this
 have h' : b.any (Nat.beq κ) = true := List.any_eq_true.2 ⟨κ, hb, Nat.beq_refl κ⟩
 rw [h'] at this; cases this
theorem qd1 {ops : Array Oper} {rid i j : Nat} {oi oj : Oper} {σ σi σij : St} {fi fj : Foot} (hap : oi.apart ops oj = true) (hf : q4V fi fj = true) (h1 : q1I P cands F rid ops.toList i oi σ = some (σi, fi)) (h2 : q1I P cands F rid ops.toList j oj σi = some (σij, fj)) :
  ∃ σj, q1I P cands F rid ops.toList j oj σ = some (σj, fj) /\ q1I P cands F rid ops.toList i oi σj = some (σij, fi) := by
 obtain ⟨vi, ui, e1, rfl⟩ := q46.1 h1
 obtain ⟨vj, uj, e2, rfl⟩ := q46.1 h2
 obtain ⟨a1, a2, a3⟩ := Oper.apart_spec hap
 simp only [q4V, Bool.and_eq_true] at hf
 have w1 := qaj e1
 have w2 := qaj e2
 have d1 := q8U hf.1
 have d2 := q8U hf.2
 rw [w1] at d1
 rw [w2] at d1 d2
 have e2' : q3B P cands F rid ops.toList j oj σ = some (vj, uj, fj) := q5E e2 (fun t ht => (q9K fun h => a1 t h ht).symm) fun κ hκ => by
  show σ.heap κ = σ.heap.upd ui κ
  rw [Heap.upd_ne _ _ _ fun h => d1 κ h (List.mem_append_right _ hκ)]
 have e1' : q3B P cands F rid ops.toList i oi (app oj.dst vj uj σ) = some (vi, ui, fi) := q5E e1 (fun t ht => q9K fun h => a3 t h ht) fun κ hκ => by
  show σ.heap.upd uj κ = σ.heap κ
  rw [Heap.upd_ne _ _ _ fun h => d2 κ h hκ]
 refine ⟨app oj.dst vj uj σ, q46.2 ⟨vj, uj, e2', rfl⟩, q46.2 ⟨vi, ui, e1', ?_⟩⟩
 exact qe4 a2 fun κ h h' => d1 κ h (List.mem_append_left _ h')
end
end Go.Den
namespace Go.Den
open Go

section
variable {ops : Array Oper}
theorem q8M (A : Array Nat) (i : Nat) : ∀ (es : List Edge) (s : Nat), ((es.foldl (fun s e => if Region.binds .any e then s ||| 2 ^ e.on ||| A.getD e.on 0 else s) s)).testBit i = true ->
  s.testBit i = true \/ ∃ e ∈ es, Region.binds .any e = true /\ (e.on = i \/ (e.on < A.size /\ (A.getD e.on 0).testBit i = true))
 | [], s, h => .inl h
 | e :: es, s, h => by
  rw [List.foldl_cons] at h
  rcases q8M A i es _ h with h | ⟨e', he, hb⟩
  ·by_cases hb : Region.binds .any e = true
   ·rw [if_pos hb] at h
    simp only [Nat.testBit_or, Bool.or_eq_true, Nat.testBit_two_pow, decide_eq_true_eq] at h
    rcases h with (h | h) | h
    ·exact .inl h
    ·exact .inr ⟨e, by simp, hb, .inl h⟩
    ·refine .inr ⟨e, by simp, hb, .inr ⟨?_, h⟩⟩
     rcases Nat.lt_or_ge e.on A.size with h' | h'
     ·exact h'
     ·rw [Array.getD_eq_getD_getElem?, Array.getElem?_eq_none h'] at h
      simp at h
   ·rw [if_neg hb] at h; exact .inl h
  ·exact .inr ⟨e', by simp [he], hb⟩
theorem q6L : ∀ (l : List Oper) (A : Array Nat), ∃ R : Array Nat, l.foldl (fun acc o => acc.push (o.after.foldl (fun s e => if Region.binds .any e then s ||| 2 ^ e.on ||| acc.getD e.on 0 else s) 0)) A = R /\
  (∀ j, j < A.size -> R.getD j 0 = A.getD j 0) /\ R.size = A.size + l.length /\
  ∀ j o, l[j]? = some o -> ∀ i, (R.getD (A.size + j) 0).testBit i = true -> ∃ e ∈ o.after.toList, Region.binds .any e = true /\ (e.on = i \/ (e.on < A.size + j /\ (R.getD e.on 0).testBit i = true))
 | [], A => ⟨A, rfl, fun _ _ => rfl, rfl, fun j o h => by simp at h⟩
 | o :: l, A => by
  obtain ⟨R, h1, h2, h3, h4⟩ := q6L l (A.push (o.after.foldl (fun s e => if Region.binds .any e then s ||| 2 ^ e.on ||| A.getD e.on 0 else s) 0))
  have hA : ∀ j, j < A.size -> R.getD j 0 = A.getD j 0 := fun j hj => by
   rw [h2 j (by simp; omega)]
   simp only [Array.getD_eq_getD_getElem?, Array.getElem?_push_lt hj, Array.getElem?_eq_getElem hj]
  refine ⟨R, h1, hA, by rw [h3]; simp; omega, fun j o' hj i hb => ?_⟩
  cases j with
  | zero =>
   have : o = o' := by simpa using hj
   subst this
   rw [Nat.add_zero, h2 A.size (by simp)] at hb
   simp only [Array.getD_eq_getD_getElem?, Array.getElem?_push_size, Option.getD_some] at hb
   rw [<- Array.foldl_toList] at hb
   rcases q8M A i o.after.toList 0 (by simpa [Array.getD_eq_getD_getElem?] using hb) with h | ⟨e, he, hbe, h⟩
   ·simp at h
   ·refine ⟨e, he, hbe, h.imp id fun h => ⟨by omega, by rw [hA _ h.1]; exact h.2⟩⟩
  | succ j =>
   have := h4 j o' (by simpa using hj) i (by rw [Array.size_push]; rw [show A.size + 1 + j = A.size + (j + 1) by omega]; exact hb)
   obtain ⟨e, he, hbe, h⟩ := this
   exact ⟨e, he, hbe, h.imp id fun h => ⟨by have := h.1; rw [Array.size_push] at this; omega, h.2⟩⟩
theorem q6S {j : Nat} {o : Oper} (hj : ops[j]? = some o) {i : Nat} (hb : ((Region.before ops).getD j 0).testBit i = true) : ∃ e ∈ o.after, Region.binds .any e = true /\ (e.on = i \/ (e.on < j /\ ((Region.before ops).getD e.on 0).testBit i = true)) := by
 obtain ⟨R, h1, _, _, h4⟩ := q6L ops.toList #[]
 have : Region.before ops = R := by
  unfold Region.before
  rw [<- Array.foldl_toList]
  exact h1
 rw [this] at hb ⊢
 obtain ⟨e, he, hbe, h⟩ := h4 j o (by rw [Array.getElem?_toList]; exact hj) i (by simpa using hb)
 exact ⟨e, by simpa using he, hbe, by simpa using h⟩
def Closed (ops : Array Oper) (listed : Array Bool) : Prop := ∀ k o, ops[k]? = some o -> listed.getD k false = true -> ∀ e ∈ o.after, Region.binds .any e = true -> listed.getD e.on false = true
theorem qcl {listed : Array Bool} (hc : Closed ops listed) (i : Nat) : ∀ k, listed.getD k false = true -> ((Region.before ops).getD k 0).testBit i = true -> k < ops.size -> listed.getD i false = true := by
 intro k
 induction k using Nat.strongRecOn with
 | _ k ih =>
  intro hl hb hk
  obtain ⟨e, he, hbe, h⟩ := q6S (Array.getElem?_eq_getElem hk) hb
  have := hc k _ (Array.getElem?_eq_getElem hk) hl e he hbe
  rcases h with rfl | ⟨h1, h2⟩
  ·exact this
  ·exact ih e.on h1 this h2 (by omega)
theorem qdc {listed : Array Bool} (hc : Closed ops listed) {i j : Nat} (hj : j ∈ Region.ready .any ops listed) (hi : listed.getD i false = false) : ((Region.before ops).getD j 0).testBit i = false := by
 cases hb : ((Region.before ops).getD j 0).testBit i with
 | false => rfl
 | true =>
  obtain ⟨_, o, ho, hall⟩ := mem_ready.1 hj
  obtain ⟨e, he, hbe, h⟩ := q6S ho hb
  have hl := hall e he hbe
  have hlt := (Array.getElem?_eq_some_iff.1 ho).1
  rcases h with rfl | ⟨h1, h2⟩
  ·rw [hl] at hi; cases hi
  ·rw [qcl hc i e.on hl h2 (by omega)] at hi; cases hi
theorem Closed.set {listed : Array Bool} (hc : Closed ops listed) {j : Nat} (hj : j ∈ Region.ready .any ops listed) : Closed ops (listed.setIfInBounds j true) := by
 intro k o ho hk e he hbe
 by_cases hkj : k = j
 ·subst hkj
  obtain ⟨_, o', ho', hall⟩ := mem_ready.1 hj
  rw [ho] at ho'
  injection ho' with ho'
  subst ho'
  exact getD_set_true (hall e he hbe)
 ·rw [getD_set_ne false (Ne.symm hkj)] at hk
  exact getD_set_true (hc k o ho hk e he hbe)
end

section
variable {P : Program} {V : Nat -> Sig} {cands : Nat -> List Nat} {F : Tr.Fs V} {ops : Array Oper} {rid : Nat} {fs : List Foot} {Kst : St -> Prop}
variable (P cands F ops rid fs Kst) in
def q7Y : Nat -> Array Bool -> St -> Prop
 | 0, listed, σ => Region.ready .any ops listed = [] /\ Kst σ
 | fuel + 1, listed, σ => (Region.ready .any ops listed = [] -> Kst σ) /\
  ∀ i ∈ Region.ready .any ops listed, ∀ o, ops[i]? = some o -> ∃ σ' f, q1I P cands F rid ops.toList i o σ = some (σ', f) /\ fs[i]? = some f /\ q7Y fuel (listed.setIfInBounds i true) σ'
theorem qdx {Q : Exit -> Act -> World -> Prop} : ∀ (fuel : Nat) (listed : Array Bool) {σ : St} {a : Act} {m : M}, FOk P V m.gl F -> q7Y P cands F ops rid fs Kst fuel listed σ -> Sim σ a m -> (∀ σ' a' m', Kst σ' -> Sim σ' a' m' -> Ext m m' -> Q .normal a' m'.w) ->
  wpAny P .any ops Q fuel listed a m.w
 | 0, listed, σ, a, m, hF, h, S, hq => ⟨h.1, hq σ a m h.2 S (Ext.refl m)⟩
 | fuel + 1, listed, σ, a, m, hF, h, S, hq => by
  refine ⟨fun h0 => hq σ a m (h.1 h0) S (Ext.refl m), fun i hi => ?_⟩
  obtain ⟨_, o, ho, _⟩ := mem_ready.1 hi
  obtain ⟨σ', f, hs, _, hab⟩ := h.2 i hi o ho
  have := qac (ops := ops) (Q := Q) (next := wpAny P .any ops Q fuel (listed.setIfInBounds i true)) hF S hs fun a' m' S' E => qdx fuel _ (by rw [E.gl]; exact hF) hab S' fun σ'' a'' m'' hk S'' E' => hq σ'' a'' m'' hk S'' (E.trans E')
  unfold wpOp
  simp only [ho]
  by_cases hw : Region.wanted o (yielded ops a.tmps) = true
  ·rw [if_pos hw] at this ⊢; exact .inl this
  ·rw [if_neg hw] at this ⊢; exact this
theorem qdP {i : Nat} {oi : Oper} {fi : Foot} (hi : ops[i]? = some oi) (hfi : fs[i]? = some fi) (hfo : ∀ j fj, i < j -> fs[j]? = some fj -> ((Region.before ops).getD j 0).testBit i = false -> q4V fi fj = true) :
  ∀ (fuel : Nat) (listed : Array Bool) {σ σi : St},
   (∀ j oj, ops[j]? = some oj -> j ≠ i -> listed.getD j true = false -> (∀ e ∈ oj.after, Region.binds .any e = true -> e.on ≠ i) -> oi.apart ops oj = true) ->
   (∀ j, listed.getD j true = false -> i <= j) -> Closed ops listed -> i ∈ Region.ready .any ops listed -> q1I P cands F rid ops.toList i oi σ = some (σi, fi) ->
   q7Y P cands F ops rid fs Kst fuel (listed.setIfInBounds i true) σi -> q7Y P cands F ops rid fs Kst (fuel + 1) listed σ := by
 intro fuel
 induction fuel with
 | zero =>
  intro listed σ σi hfree hord hcl hr hy H
  refine ⟨fun h => (by rw [h] at hr; cases hr), fun j hj o ho => ?_⟩
  by_cases hji : j = i
  ·subst hji
   rw [hi] at ho
   injection ho with ho
   subst ho
   exact ⟨σi, fi, hy, hfi, H⟩
  ·have := ready_mono hj hji
   rw [H.1] at this
   cases this
 | succ fuel ih =>
  intro listed σ σi hfree hord hcl hr hy H
  refine ⟨fun h => (by rw [h] at hr; cases hr), fun j hj o ho => ?_⟩
  by_cases hji : j = i
  ·subst hji
   rw [hi] at ho
   injection ho with ho
   subst ho
   exact ⟨σi, fi, hy, hfi, H⟩
  ·obtain ⟨σij, fj, h1, h2, h3⟩ := H.2 j (ready_mono hj hji) o ho
   obtain ⟨hjun, oj, hoj, hall⟩ := mem_ready.1 hj
   have : oj = o := by rw [ho] at hoj; exact (Option.some.inj hoj).symm
   subst this
   have hiun := (mem_ready.1 hr).1
   have hiun' : listed.getD i false = false := by
    rcases Nat.lt_or_ge i listed.size with h' | h'
    ·simp [h'] at hiun ⊢; exact hiun
    ·simp [Array.getElem?_eq_none h']
   have hnot : ∀ e ∈ oj.after, Region.binds .any e = true -> e.on ≠ i := fun e he hb heq => by
    have := hall e he hb
    rw [heq, hiun'] at this; cases this
   have hlt : i < j := by have := hord j hjun; omega
   obtain ⟨σj, k1, k2⟩ := qd1 (hfree j oj ho hji hjun hnot) (hfo j fj hlt h2 (qdc hcl hj hiun')) hy h1
   refine ⟨σj, fj, k1, h2, ih (listed.setIfInBounds j true) (fun k ok hk hki hun hno => ?_) (fun k hun => ?_) (hcl.set hj) (ready_mono hr (Ne.symm hji)) k2 ?_⟩
   ·refine hfree k ok hk hki ?_ hno
    by_cases hjk : j = k
    ·subst hjk; exact hjun
    ·rw [getD_set_ne true hjk] at hun; exact hun
   ·by_cases hjk : j = k
    ·subst hjk; omega
    ·rw [getD_set_ne true hjk] at hun; exact hord k hun
   ·rw [Array.setIfInBounds_comm _ _ hji]; exact h3
theorem q8R : ∀ (l : List Oper) (i : Nat) {σ σ' : St} {fs0 fs' : List Foot}, q1Y P cands F rid ops.toList l i σ fs0 = some (σ', fs') -> ∃ tl, fs' = fs0 ++ tl
 | [], i, σ, σ', fs0, fs', h => by
  obtain ⟨_, rfl⟩ := Prod.mk.inj (Option.some.inj h)
  exact ⟨[], by simp⟩
 | o :: l, i, σ, σ', fs0, fs', h => by
  obtain ⟨⟨σ1, f⟩, h1, h2⟩ := Option.bind_eq_some_iff.1 h
  obtain ⟨tl, rfl⟩ := q8R l (i + 1) h2
  exact ⟨f :: tl, by simp⟩
theorem qcR (hfo : ∀ i j fi fj, i < j -> fs[i]? = some fi -> fs[j]? = some fj -> ((Region.before ops).getD j 0).testBit i = false -> q4V fi fj = true) : ∀ (l : List Oper) (k : Nat) (listed : Array Bool) {σ σ' : St} {fs0 : List Foot}, (∀ j, l[j]? = ops[k + j]?) ->
  Region.lexFrom .any ops l.length k listed = true -> q1Y P cands F rid ops.toList l k σ fs0 = some (σ', fs) -> fs0.length = k -> (∀ j, listed.getD j true = false -> k <= j) -> Closed ops listed -> Kst σ' -> q7Y P cands F ops rid fs Kst l.length listed σ
 | [], k, listed, σ, σ', fs0, hl, hB, hr, hlen, hord, hcl, hk => by
  obtain ⟨rfl, _⟩ := Prod.mk.inj (Option.some.inj hr)
  exact ⟨by simpa [Region.lexFrom] using hB, hk⟩
 | o :: l, k, listed, σ, σ', fs0, hl, hB, hr, hlen, hord, hcl, hk => by
  have h0 : ops[k]? = some o := by simpa using (hl 0).symm
  simp only [List.length_cons, Region.lexFrom, Bool.and_eq_true] at hB
  obtain ⟨⟨hrd, hf⟩, hB'⟩ := hB
  have hrd : k ∈ Region.ready .any ops listed := by simpa using hrd
  obtain ⟨⟨σ1, f⟩, h1, h2⟩ := Option.bind_eq_some_iff.1 hr
  obtain ⟨tl, hfs⟩ := q8R l (k + 1) h2
  have hfk : fs[k]? = some f := by rw [hfs, <- hlen]; simp
  refine qdP h0 hfk (fun j fj hlt h => hfo k j f fj hlt hfk h) l.length listed (Region.free_spec h0 hf) hord hcl hrd h1 ?_
  refine qcR hfo l (k + 1) _ (fun j => by have := hl (j + 1); simpa [Nat.add_assoc, Nat.add_comm 1 j] using this) hB' h2 (by simp [hlen]) (fun j hun => ?_) (hcl.set hrd) hk
  by_cases hkj : k = j
  ·subst hkj
   exfalso
   have hlt : k < listed.size := by
    rcases Nat.lt_or_ge k listed.size with h | h
    ·exact h
    ·have := (mem_ready.1 hrd).1
     simp [Array.getElem?_eq_none h] at this
   simp [hlt] at hun
  ·rw [getD_set_ne true hkj] at hun
   have := hord j hun
   omega
theorem q9t (h : q1T ops fs = true) : ∀ i j fi fj, i < j -> fs[i]? = some fi -> fs[j]? = some fj -> ((Region.before ops).getD j 0).testBit i = false -> q4V fi fj = true := by
 intro i j fi fj hlt hi hj hb
 unfold q1T at h
 have h1 := List.all_eq_true.1 h (fj, j) (List.mem_zipIdx_iff_getElem?.2 hj)
 have h2 := List.all_eq_true.1 h1 (fi, i) (List.mem_zipIdx_iff_getElem?.2 hi)
 simp only [Bool.or_eq_true, hb, Bool.false_eq_true, or_false] at h2
 rcases h2 with h2 | h2
 ·have := Nat.le_of_ble_eq_true h2; omega
 ·exact h2
theorem qcn {draw : Bool} {Q : Exit -> Act -> World -> Prop} {σ σ' : St} {a : Act} {m : M} (hm : P.follows .mixedOrders = true) (hF : FOk P V m.gl F) (S : Sim σ a m) (hr : q1Y P cands F rid ops.toList ops.toList 0 σ [] = some (σ', fs))
  (hd : (!draw || (Region.lexB .any ops && q1T ops fs)) = true) (hq : ∀ a' m', Sim σ' a' m' -> Ext m m' -> Q .normal a' m'.w) : (Code.region rid ops draw).wp P Q a m.w := by
 cases draw with
 | false =>
  refine wp_region ?_
  have := qbw (Q := Q) ops.toList 0 (fun j => by simp) (by simp) hF S hr hq
  simpa using this
 | true =>
  simp only [Bool.not_true, Bool.false_or, Bool.and_eq_true] at hd
  refine wp_region_any hm ?_
  have S1 : Sim σ a m.draw := ⟨S.h, All2.mono (fun _ _ h => (q40 m).pr h) S.tmps, q6k S.hr, S.χ, S.defers⟩
  have hB := hd.1
  simp only [Region.lexB, Bool.and_eq_true] at hB
  have hab := qcR (P := P) (cands := cands) (F := F) (rid := rid) (Kst := fun s => s = σ') (q9t hd.2) ops.toList 0 (Array.replicate ops.size false) (fun j => by simp) (by simpa using hB.2) hr rfl (fun j _ => Nat.zero_le j) (fun k o ho hk => by
   exfalso
   have hlt := (Array.getElem?_eq_some_iff.1 ho).1
   simp [hlt] at hk) rfl
  have := qdx (Q := Q) ops.toList.length (Array.replicate ops.size false) (m := m.draw) hF hab S1 fun s a' m' hs S' E => by
   subst hs
   exact hq a' m' S' ((q40 m).trans E)
  rw [Array.length_toList] at this
  exact this
end
end Go.Den
namespace Go.Den
open Go

structure Fr (O : List Nat) (m m' : M) : Prop where
 out : ∀ κ ∈ O, (m.h κ).used -> (m'.h κ).used /\ m'.ρ κ = m.ρ κ
 fz : ∀ b, m.fz b -> m'.fz b /\ m'.w.heap[b]? = m.w.heap[b]?
 fzo : ∀ b, m'.fz b -> m.fz b \/ (m.χ b \/ ∃ κ, m.φ κ b) \/ m.w.heap.size <= b
 orig : ∀ b, (m'.χ b \/ ∃ κ, m'.φ κ b) -> (m.χ b \/ ∃ κ, m.φ κ b) \/ m.w.heap.size <= b
 gl : m'.gl = m.gl
 keep : ∀ b, b < m.w.heap.size -> ¬ (m.χ b \/ ∃ κ, m.φ κ b) -> m'.w.heap[b]? = m.w.heap[b]?
 size : m.w.heap.size <= m'.w.heap.size
 os : m'.w.os = m.w.os
 tape : m'.w.tape = m.w.tape
 output : m'.w.output = m.w.output
theorem Ext.fr {O : List Nat} {m m' : M} (E : Ext m m') : Fr O m m' := ⟨fun κ _ => E.used κ, E.fz, E.fzo, E.orig, E.gl, E.keep, E.size, E.os, E.tape, E.output⟩
theorem Fr.refl {O : List Nat} (m : M) : Fr O m m := (Ext.refl m).fr
theorem Fr.trans {O : List Nat} {a b c : M} (h : Fr O a b) (k : Fr O b c) : Fr O a c where
 out := fun κ hκ hu => ⟨(k.out κ hκ (h.out κ hκ hu).1).1, (k.out κ hκ (h.out κ hκ hu).1).2.trans (h.out κ hκ hu).2⟩
 fz := fun x hx => ⟨(k.fz x (h.fz x hx).1).1, (k.fz x (h.fz x hx).1).2.trans (h.fz x hx).2⟩
 fzo := fun x hx => by
  rcases k.fzo x hx with h1 | h1 | h1
  ·exact h.fzo x h1
  ·exact .inr (h.orig x h1)
  ·exact .inr (.inr (Nat.le_trans h.size h1))
 orig := fun x hx => by
  rcases k.orig x hx with h1 | h1
  ·exact h.orig x h1
  ·exact .inr (Nat.le_trans h.size h1)
 gl := k.gl.trans h.gl
 keep := fun x hx hn => (k.keep x (Nat.lt_of_lt_of_le hx h.size) fun h' => by
  rcases h.orig x h' with h1 | h1
  ·exact hn h1
  ·omega).trans (h.keep x hx hn)
 size := Nat.le_trans h.size k.size
 os := k.os.trans h.os
 tape := k.tape.trans h.tape
 output := k.output.trans h.output
def exOf : Ex -> Exit
 | .normal => .normal
 | .exit id => .exit id
 | .ret => .ret
section
variable {P : Program}
theorem qdg {c : Code} {Q : Exit -> Act -> World -> Prop} (I : Nat -> Act -> World -> Prop) (round : ∀ n a w, I n a w -> c.wp P (Exit.then (fun a' w' => ∃ n', n' < n /\ I n' a' w') Q) a w) {n : Nat} {a : Act} {w : World} (h0 : I n a w) : (Code.loop c).wp P Q a w := by
 intro b k cs
 have key : ∀ n a w, I n a w -> ∃ e a' w', Q e a' w' /\ Arrives P (lone (b.at a (.code c :: .inLoop c :: k)) cs w) b k cs e a' w' := by
  intro n
  induction n using Nat.strongRecOn with
  | _ n ih =>
   intro a w hI
   obtain ⟨e, a₁, w₁, hq, harr⟩ := round n a w hI b (.inLoop c :: k) cs
   cases e with
   | normal =>
    obtain ⟨n', hlt, hI₁⟩ := hq
    obtain ⟨e₂, a₂, w₂, hq₂, harr₂⟩ := ih n' hlt a₁ w₁ hI₁
    exact ⟨e₂, a₂, w₂, hq₂, .of_steps (Steps.trans harr (.one step_inLoop)) harr₂⟩
   | exit id => exact ⟨_, a₁, w₁, hq, .pass (x := .inLoop c) rfl (fun _ _ => .inl (by simp)) harr⟩
   | goto l => exact ⟨_, a₁, w₁, hq, .pass (x := .inLoop c) rfl (fun _ _ => .inl (by simp)) harr⟩
   | ret => exact ⟨_, a₁, w₁, hq, .pass (x := .inLoop c) rfl (fun _ _ => .inl (by simp)) harr⟩
   | panic ch => exact ⟨_, a₁, w₁, hq, .pass (x := .inLoop c) rfl (fun _ _ => .inl (by simp)) harr⟩
   | outgrown => exact ⟨_, a₁, w₁, hq, .pass (x := .inLoop c) rfl (fun _ _ => .inl (by simp)) harr⟩
 obtain ⟨e, a', w', hq, harr⟩ := key n a w h0
 exact ⟨e, a', w', hq, .of_steps (.one step_loop) harr⟩
variable {V : Nat -> Sig} {cands : Nat -> List Nat} {F : Tr.Fs V} {R : Type}
def qdE (O : List Nat) (norm : Nat -> St -> Option St) : Prop := ∀ bid σ σ1 a m, norm bid σ = some σ1 -> Sim σ a m -> ∃ m1, Sim σ1 a m1 /\ Fr O m m1 /\ m1.w = m.w
theorem qbH {σ : St} {c : Operand} {t : Bool} (h : q03 σ.tmps c = .c (.s (.bool t))) : σ.know c t = σ := by
 cases c with
 | tmp i =>
  have h : σ.tmps.getD i .un = .c (.s (.bool t)) := h
  obtain ⟨tmps, hp⟩ := σ
  simp only [St.know]
  congr 1
  apply List.ext_getElem?
  intro j
  rw [List.getElem?_set]
  by_cases e : i = j
  ·subst e
   rw [List.getD_eq_getElem?_getD] at h
   cases hj : tmps[i]? with
   | none => rw [hj] at h; cases h
   | some v =>
    rw [hj] at h
    have hl : i < tmps.length := (List.getElem?_eq_some_iff.1 hj).1
    simp only [Option.getD_some] at h
    simp [hl, h]
  ·simp [e]
 | _ => rfl
theorem q2Z {O : List Nat} (hm : P.follows .mixedOrders = true) {k : Nat} {norm : Nat -> St -> Option St} (hN : qdE O norm) : ∀ (c : Code) {bid : Nat} {K : Ex -> St -> Option R} {σ : St} {a : Act} {m : M} {r : R} {Q : Exit -> Act -> World -> Prop},
  FOk P V m.gl F -> Sim σ a m -> den P cands F (wY R) k norm c bid K σ = some r -> (∀ e σ' a' m', K e σ' = some r -> Sim σ' a' m' -> Fr O m m' -> Q (exOf e) a' m'.w) -> c.wp P Q a m.w
 | .skip, bid, K, σ, a, m, r, Q, hF, S, hr, hq => wp_skip (hq .normal σ a m hr S (Fr.refl m))
 | .region rid ops draw, bid, K, σ, a, m, r, Q, hF, S, hr, hq => by
  have hr : wU P cands F rid ops.toList ops.toList 0 σ [] (fun σ' fs => bif !draw || (Region.lexB .any ops && q1T ops fs) then K .normal σ' else none) = some r := hr
  rw [q61] at hr
  obtain ⟨⟨σ', fs⟩, h1, h2⟩ := Option.bind_eq_some_iff.1 hr
  cases hd : (!draw || (Region.lexB .any ops && q1T ops fs)) with
  | false => simp only [hd, cF] at h2; cases h2
  | true =>
   simp only [hd, cT] at h2
   exact qcn hm hF S h1 hd fun a' m' S' E => hq .normal σ' a' m' h2 S' E.fr
 | .seq x y, bid, K, σ, a, m, r, Q, hF, S, hr, hq => by
  refine wp_seq (q2Z hm hN x hF S (r := r) hr fun e σ' a' m' he S' E => ?_)
  cases e with
  | normal =>
   have he : seqN (wY R) k norm (q1u norm x) (fun σ'' => den P cands F (wY R) k norm y bid K σ'') K σ' = some r := he
   cases hj : q1u norm x with
   | none =>
    rw [hj] at he
    exact q2Z hm hN y (by rw [E.gl]; exact hF) S' he fun e σ'' a'' m'' he' S'' E' => hq e σ'' a'' m'' he' S'' (E.trans E')
   | some J =>
    rw [hj] at he
    have he : wJ (fun _ σ'' => den P cands F (wY R) k norm y bid K σ'') (norm J) K k (norm J σ') = some r := he
    cases hk : k with
    | zero => rw [hk] at he; cases he
    | succ n =>
     cases hσ : norm J σ' with
     | none => rw [hσ, hk] at he; cases he
     | some σ1 =>
      rw [hσ] at he
      have he : den P cands F (wY R) k norm y bid K σ1 = some r := by
       have h2 : ∀ n', wJ (fun _ σ'' => den P cands F (wY R) k norm y bid K σ'') (norm J) K (n' + 1) (some σ1) = den P cands F (wY R) k norm y bid K σ1 := fun _ => rfl
       rw [<- h2 n, <- hk]; exact he
      obtain ⟨m1, S1, E1, hw1⟩ := hN J σ' σ1 a' m' hσ S'
      show y.wp P Q a' m'.w
      rw [<- hw1]
      exact q2Z hm hN y (by rw [E1.gl, E.gl]; exact hF) S1 he fun e σ'' a'' m'' he' S'' E' => hq e σ'' a'' m'' he' S'' ((E.trans E1).trans E')
  | exit id => exact hq (.exit id) σ' a' m' he S' E
  | ret => exact hq .ret σ' a' m' he S' E
 | .cond c x y, bid, K, σ, a, m, r, Q, hF, S, hr, hq => by
  have hr : (match q03 σ.tmps c with
   | .c (.s (.bool t)) => bif t then den P cands F (wY R) k norm x bid K (σ.know c true) else den P cands F (wY R) k norm y bid K (σ.know c false)
   | _ => none) = some r := hr
  have he := qa2 S c
  split at hr
  ·rename_i t hc
   rw [hc] at he
   have he : a.eval c = .bool t := he
   cases t with
   | true =>
    rw [qbH hc] at hr
    exact wp_cond_true he (q2Z hm hN x hF S hr hq)
   | false =>
    rw [qbH hc] at hr
    exact wp_cond_false he (q2Z hm hN y hF S hr hq)
  ·cases hr
 | .block id body, bid, K, σ, a, m, r, Q, hF, S, hr, hq => by
  refine wp_block (q2Z hm hN body hF S (r := r) hr fun e σ' a' m' he S' E => ?_)
  cases e with
  | normal => exact hq .normal σ' a' m' he S' E
  | ret => exact hq .ret σ' a' m' he S' E
  | exit j =>
   have he : (bif Nat.beq j id then K .normal σ' else K (.exit j) σ') = some r := he
   show Exit.inBlock id Q (.exit j) a' m'.w
   cases hb : Nat.beq j id with
   | true =>
    rw [hb] at he
    have := Nat.eq_of_beq_eq_true hb
    simp only [Exit.inBlock, this, if_true]
    exact hq .normal σ' a' m' he S' E
   | false =>
    rw [hb] at he
    have : ¬ j = id := fun e => by rw [e, Nat.beq_refl] at hb; cases hb
    simp only [Exit.inBlock, this, if_false]
    exact hq (.exit j) σ' a' m' he S' E
 | .loop body, bid, K, σ, a, m, r, Q, hF, S, hr, hq => by
  have hr : wJ (fun K' σ' => den P cands F (wY R) k norm body bid K' σ') (norm bid) K k (norm bid σ) = some r := hr
  refine qdg (P := P) (I := fun n a' w' => ∃ σ' m', Sim σ' a' m' /\ Fr O m m' /\ m'.w = w' /\ wJ (fun K' σ' => den P cands F (wY R) k norm body bid K' σ') (norm bid) K n (norm bid σ') = some r) ?_ (n := k) ⟨σ, m, S, Fr.refl m, rfl, hr⟩
  rintro n a' w' ⟨σ', m', S', E', rfl, hl⟩
  cases n with
  | zero => cases hl
  | succ n =>
   cases hσ : norm bid σ' with
   | none => rw [hσ] at hl; cases hl
   | some σ1 =>
    rw [hσ] at hl
    obtain ⟨m1, S1, E1, hw1⟩ := hN bid σ' σ1 a' m' hσ S'
    rw [<- hw1]
    refine q2Z hm hN body (by rw [E1.gl, E'.gl]; exact hF) S1 (r := r) hl fun e σ2 a2 m2 he S2 E2 => ?_
    have E3 := (E'.trans E1).trans E2
    cases e with
    | normal => exact ⟨n, Nat.lt_succ_self n, σ2, m2, S2, E3, rfl, he⟩
    | exit id => exact hq (.exit id) σ2 a2 m2 he S2 E3
    | ret => exact hq .ret σ2 a2 m2 he S2 E3
 | .exit id, bid, K, σ, a, m, r, Q, hF, S, hr, hq => wp_exit (hq (.exit id) σ a m hr S (Fr.refl m))
 | .ret, bid, K, σ, a, m, r, Q, hF, S, hr, hq => wp_ret (hq .ret σ a m hr S (Fr.refl m))
 | .label _, _, _, _, _, _, _, _, _, _, hr, _ => by cases hr
 | .goto _, _, _, _, _, _, _, _, _, _, hr, _ => by cases hr
 | .scope _, _, _, _, _, _, _, _, _, _, hr, _ => by cases hr
 | .rangeFunc _ _ _ _, _, _, _, _, _, _, _, _, _, hr, _ => by cases hr
end
end Go.Den
