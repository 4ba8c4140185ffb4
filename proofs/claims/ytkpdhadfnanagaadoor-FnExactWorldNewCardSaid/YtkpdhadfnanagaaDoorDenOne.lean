/- Den, part one: a symbolic executor of our own for this language: values, operations, calls, code, functions; and what they say of memory. Conditions: none here. -/
import Derived.Orders
import Derived.Still
import Derived.Laws.Sem
import Derived.Laws.Entries
import Derived.Laws.StructEq
import Derived.MapKept
set_option linter.all false
namespace Go.Den
open Go

/-! ## 1. Pure data -/
inductive Ty where
  | int (k : IntKind)
  | bool
  | str
  | sl (t : Ty)
  /-- a slice that is lent: it is read alone, and may be handed on as often as one likes -/
  | ls (t : Ty)
  | one
  | pr (a b : Ty)

def Ty.D : Ty → Type
  | .int _ => Int
  | .bool => Bool
  | .str => ByteArray
  | .sl t => List t.D
  | .ls t => List t.D
  | .one => Unit
  | .pr a b => a.D × b.D

/-- How many cells. -/
def Ty.nc : Ty → Nat
  | .int _ | .bool | .str | .sl _ | .ls _ => 1
  | .one => 0
  | .pr a b => a.nc + b.nc

def Ty.beq : Ty → Ty → Bool
  | .int k, .int l => decide (k = l)
  | .bool, .bool | .str, .str | .one, .one => true
  | .sl a, .sl b => a.beq b
  | .ls a, .ls b => a.beq b
  | .pr a b, .pr c d => a.beq c && b.beq d
  | _, _ => false

theorem Ty.eq_of_beq : ∀ {a b : Ty}, a.beq b = true → a = b
  | .int k, .int l, h => by simp [Ty.beq] at h; rw [h]
  | .bool, .bool, _ | .str, .str, _ | .one, .one, _ => rfl
  | .sl a, .sl b, h => by rw [Ty.eq_of_beq (a := a) (b := b) h]
  | .ls a, .ls b, h => by rw [Ty.eq_of_beq (a := a) (b := b) h]
  | .pr a b, .pr c d, h => by
    simp only [Ty.beq, Bool.and_eq_true] at h
    rw [Ty.eq_of_beq h.1, Ty.eq_of_beq h.2]

def Ty.dflt : (t : Ty) → t.D
  | .int _ => (0 : Int)
  | .bool => false
  | .str => ByteArray.empty
  | .sl _ => []
  | .ls _ => []
  | .one => ()
  | .pr a b => (a.dflt, b.dflt)
/-- The same data, lent or not. -/
def Ty.eqv : Ty → Ty → Bool
  | .int k, .int l => decide (k = l)
  | .bool, .bool | .str, .str | .one, .one => true
  | .sl a, .sl b | .sl a, .ls b | .ls a, .sl b | .ls a, .ls b => a.eqv b
  | .pr a b, .pr c d => a.eqv c && b.eqv d
  | _, _ => false
/-- What is owned may be lent. -/
def Ty.weak : Ty → Ty → Bool
  | .int k, .int l => decide (k = l)
  | .bool, .bool | .str, .str | .one, .one => true
  | .sl a, .sl b => a.weak b
  | .sl a, .ls b | .ls a, .ls b => a.eqv b
  | .pr a b, .pr c d => a.weak c && b.weak d
  | _, _ => false
theorem Ty.D_eqv : ∀ {a b : Ty}, a.eqv b = true → a.D = b.D
  | .int _, .int _, _ => rfl
  | .bool, .bool, _ | .str, .str, _ | .one, .one, _ => rfl
  | .sl a, .sl b, h => congrArg List (Ty.D_eqv (a := a) (b := b) h)
  | .sl a, .ls b, h => congrArg List (Ty.D_eqv (a := a) (b := b) h)
  | .ls a, .sl b, h => congrArg List (Ty.D_eqv (a := a) (b := b) h)
  | .ls a, .ls b, h => congrArg List (Ty.D_eqv (a := a) (b := b) h)
  | .pr a b, .pr c d, h => by
    simp only [Ty.eqv, Bool.and_eq_true] at h
    show (a.D × b.D) = (c.D × d.D)
    rw [Ty.D_eqv h.1, Ty.D_eqv h.2]
theorem Ty.weak_eqv : ∀ {a b : Ty}, a.weak b = true → a.eqv b = true
  | .int _, .int _, h => h
  | .bool, .bool, _ | .str, .str, _ | .one, .one, _ => rfl
  | .sl a, .sl b, h => Ty.weak_eqv (a := a) (b := b) h
  | .sl _, .ls _, h => h
  | .ls _, .ls _, h => h
  | .pr a b, .pr c d, h => by
    simp only [Ty.weak, Bool.and_eq_true] at h
    simp only [Ty.eqv, Bool.and_eq_true]
    exact ⟨Ty.weak_eqv h.1, Ty.weak_eqv h.2⟩

/-- Element i of a list. -/
def nth (t : Ty) (xs : List t.D) (i : Nat) : t.D := xs.getD i t.dflt

/-! ## 2. Symbolic values -/
inductive SV where
  | int (k : IntKind) (n : Int)
  | bool (b : Bool)
  | str (s : ByteArray)
  /-- a slice that reads as this list; its memory stays as it is -/
  | lst (t : Ty) (xs : List t.D)
  /-- the whole row of this key -/
  | own (κ : Nat)
  /-- places lo .. hi - 1 of the row of this key -/
  | sub (κ lo hi : Nat)
  /-- the slice in cell 'leaf' of element i of the row κ, as the row stood at version ver -/
  | view (κ ver i leaf : Nat)
  | ptr (κ off : Nat)
  | rptr (κ i off : Nat)
  | lptr (t : Ty) (xs : List t.D) (i off : Nat)
  /-- an element's address, of the slice that 'view κ ver i leaf' is; its type has no slices -/
  | vptr (κ ver i leaf j off : Nat)
  | clo (f : Nat) (caps : List Nat)
  /-- the map of this key -/
  | mref (κ : Nat)
  /-- what tells the keys of the map of this key -/
  | mkeys (g κ : Nat)
  | nils
  | nilp
  | nilf
  | err (is : Bool)
  | undef

inductive CV where
  | s (x : SV)
  | a (cs : List SV)

inductive PV where
  | c (x : CV)
  | tup (xs : List CV)

abbrev PV.sv (x : SV) : PV := .c (.s x)
abbrev PV.un : PV := .c (.s .undef)

inductive Res where
  | box (cells : List SV)
  | cbox (cells : List SV)
  | row (t : Ty) (xs : List t.D) (ver : Nat)
  /-- a row that stays as it is -/
  | lent (t : Ty) (xs : List t.D)
  /-- a map: texts, and what stands under them -/
  | mp (agg : Bool) (t : Ty) (es : List (ByteArray × t.D))

inductive Slot where
  | free
  | gone
  | live (r : Res)

abbrev Heap := Nat → Slot
abbrev Upd := List (Nat × Slot)
def Heap.set (h : Heap) (κ : Nat) (s : Slot) : Heap := fun j => bif Nat.beq j κ then s else h j
def Heap.upd : Heap → Upd → Heap
  | h, [] => h
  | h, (κ, s) :: r => (h.set κ s).upd r

def Ty.flat : Ty → Bool
  | .sl _ | .ls _ => false
  | .pr a b => a.flat && b.flat
  | _ => true

/-- It has no slices of its own. -/
def Ty.still : Ty → Bool
  | .sl _ => false
  | .pr a b => a.still && b.still
  | _ => true
/-- Nothing of it is lent. -/
def Ty.pure : Ty → Bool
  | .ls _ => false
  | .sl a => a.pure
  | .pr a b => a.pure && b.pure
  | _ => true
/-- All its slices lent. -/
def Ty.lent : Ty → Ty
  | .sl a => .ls a
  | .pr a b => .pr a.lent b.lent
  | t => t
theorem Ty.eqv_refl : ∀ (a : Ty), a.eqv a = true
  | .int k => by simp [Ty.eqv]
  | .bool | .str | .one => rfl
  | .sl a => Ty.eqv_refl a
  | .ls a => Ty.eqv_refl a
  | .pr a b => by simp [Ty.eqv, Ty.eqv_refl a, Ty.eqv_refl b]
theorem Ty.lent_eqv : ∀ (a : Ty), a.lent.eqv a = true
  | .int k => by simp [Ty.lent, Ty.eqv]
  | .bool | .str | .one => rfl
  | .sl a => Ty.eqv_refl a
  | .ls a => Ty.eqv_refl a
  | .pr a b => by simp [Ty.lent, Ty.eqv, Ty.lent_eqv a, Ty.lent_eqv b]

/-! ## 3. Signatures -/
/-- Something put in front, or behind. -/
def rput {α : Type} (c : Nat) (a : α) (l : List α) : List α := bif Nat.beq (c % 2) 1 then l ++ [a] else a :: l
def rlast {α : Type} : α → List α → α × List α
  | a, [] => (a, [])
  | a, b :: r => ((rlast b r).1, a :: (rlast b r).2)
def rget {α : Type} (c : Nat) : List α → Option (α × List α)
  | [] => none
  | a :: r => bif Nat.beq (c % 2) 1 then some (rlast a r) else some (a, r)
theorem rlast_eq {α : Type} : ∀ (a : α) (l : List α), a :: l = (rlast a l).2 ++ [(rlast a l).1]
  | _, [] => rfl
  | a, b :: r => by
    show a :: b :: r = a :: (rlast b r).2 ++ [(rlast b r).1]
    rw [List.cons_append, ← rlast_eq b r]
theorem rget_some {α : Type} {c : Nat} {l : List α} {p : α × List α} (h : rget c l = some p) : l = rput c p.1 p.2 := by
  cases l with
  | nil => cases h
  | cons a r =>
    unfold rget at h
    unfold rput
    cases hb : Nat.beq (c % 2) 1 with
    | true =>
      rw [hb] at h
      cases h
      exact rlast_eq a r
    | false =>
      rw [hb] at h
      cases h
      rfl
theorem rput_inj {α : Type} {c : Nat} {a b : α} {l m : List α} (h : rput c a l = rput c b m) : a = b ∧ l = m := by
  unfold rput at h
  cases hb : Nat.beq (c % 2) 1 with
  | true =>
    rw [hb] at h
    simp only [cond_true] at h
    obtain ⟨h1, h2⟩ := List.append_inj' h rfl
    exact ⟨by simpa using h2, h1⟩
  | false =>
    rw [hb] at h
    simp only [cond_false, List.cons.injEq] at h
    exact h
theorem rput_map {α β : Type} (c : Nat) (f : α → β) (a : α) (l : List α) : (rput c a l).map f = rput c (f a) (l.map f) := by
  unfold rput
  cases Nat.beq (c % 2) 1 <;> simp
theorem mem_rput {α : Type} {c : Nat} {a x : α} {l : List α} : x ∈ rput c a l ↔ x = a ∨ x ∈ l := by
  unfold rput
  cases Nat.beq (c % 2) 1
  · simp
  · simp [or_comm]
inductive Par where
  | val (t : Ty)
  | own (t : Ty)
  /-- a value whose slices' elements are written -/
  | mut (t : Ty)
  | ptr (t : Ty)
  | cptr (t : Ty)
  | clo (f : Nat) (caps : List (Ty × Bool))
  /-- the address of a variable that holds a pointer to a variable -/
  | pptr (t : Ty)
  /-- a function value (the number is twice its own, and one more where the pointer's variable stands last): among what it has captured is a variable that holds the pointer which the parameter ahead is -/
  | rclo (f : Nat) (caps : List (Ty × Bool))
def CapsD : List (Ty × Bool) → Type
  | [] => Unit
  | (t, _) :: r => t.D × CapsD r
def Par.D : Par → Type
  | .val t | .own t | .ptr t | .cptr t | .mut t | .pptr t => t.D
  | .clo _ caps | .rclo _ caps => CapsD caps
def ArgsD : List Par → Type
  | [] => Unit
  | p :: r => p.D × ArgsD r
inductive RTy where
  | own (t : Ty)
  | lst (t : Ty)
  | ptr (t : Ty)
  | optr (t : Ty)
  | err
def RTy.D : RTy → Type
  | .own t | .lst t | .ptr t => t.D
  | .optr t => Option t.D
  | .err => Bool
def ResD : List RTy → Type
  | [] => Unit
  | [r] => r.D
  | r :: s :: rs => r.D × ResD (s :: rs)
def CapOutD : List (Ty × Bool) → Type
  | [] => Unit
  | (t, true) :: r => t.D × CapOutD r
  | (_, false) :: r => CapOutD r
def OutsD : List Par → Type
  | [] => Unit
  | .mut t :: r => t.D × OutsD r
  | .ptr t :: r => t.D × OutsD r
  | .clo _ caps :: r => CapOutD caps × OutsD r
  | .pptr t :: r => t.D × OutsD r
  | .rclo _ caps :: r => CapOutD caps × OutsD r
  | _ :: r => OutsD r
structure Sig where
  fn : Nat
  pars : List Par
  res : List RTy
def Sig.RetD (s : Sig) : Type := ResD s.res × OutsD s.pars

/-! ## 4. Trees: what an operation does -/
inductive Tr (V : Nat → Sig) (α : Type) : Type where
  | ret (a : α)
  | no
  | grd (b : Bool) (t : Tr V α)
  | ite (b : Bool) (t e : Tr V α)
  | look (κ : Nat) (f : Slot → Tr V α)
  | call (v : Nat) (x : ArgsD (V v).pars) (f : (V v).RetD → Tr V α)
  | opt (t : Ty) (x : Option t.D) (n : Tr V α) (s : t.D → Tr V α)

namespace Tr
variable {V : Nat → Sig} {α β R : Type}
def bind : Tr V α → (α → Tr V β) → Tr V β
  | .ret a, f => f a
  | .no, _ => .no
  | .grd b t, f => .grd b (t.bind f)
  | .ite b t e, f => .ite b (t.bind f) (e.bind f)
  | .look κ g, f => .look κ fun s => (g s).bind f
  | .call v x g, f => .call v x fun r => (g r).bind f
  | .opt t x n s, f => .opt t x (n.bind f) fun y => (s y).bind f
instance : Monad (Tr V) where
  pure := .ret
  bind := bind
abbrev Fs (V : Nat → Sig) := (v : Nat) → ArgsD (V v).pars → Option (V v).RetD
/-- Run outright: the value, and what was looked at. -/
def run (F : Fs V) (h : Heap) : Tr V α → Option (α × List Nat)
  | .ret a => some (a, [])
  | .no => none
  | .grd b t => if b then t.run F h else none
  | .ite b t e => if b then t.run F h else e.run F h
  | .look κ f => ((f (h κ)).run F h).map fun p => (p.1, κ :: p.2)
  | .call v x f => (F v x).bind fun r => (f r).run F h
  | .opt _ x n s => match x with
    | none => n.run F h
    | some y => (s y).run F h
/-- Run with what follows: the tests come to the front. -/
def cps (F : Fs V) (h : Heap) (K : α → List Nat → Option R) : Tr V α → List Nat → Option R
  | .ret a, rd => K a rd
  | .no, _ => none
  | .grd b t, rd => bif b then t.cps F h K rd else none
  | .ite b t e, rd => bif b then t.cps F h K rd else e.cps F h K rd
  | .look κ f, rd => (f (h κ)).cps F h K (κ :: rd)
  | .call v x f, rd => (F v x).bind fun r => (f r).cps F h K rd
  | .opt _ x n s, rd => match x with
    | none => n.cps F h K rd
    | some y => (s y).cps F h K rd
def ofOpt : Option α → Tr V α
  | some a => .ret a
  | none => .no
end Tr

/-! ## 5. Cells of pure data, and back -/
/-- A value's cells; 'mk o t xs' tells how the slice in cell o stands. -/
def enc (mk : Nat → (t : Ty) → List t.D → SV) : (t : Ty) → (o : Nat) → t.D → List SV
  | .int k, _, n => [.int k n]
  | .bool, _, b => [.bool b]
  | .str, _, s => [.str s]
  | .sl t, o, xs => [mk o t xs]
  | .ls t, _, xs => [.lst t xs]
  | .one, _, _ => []
  | .pr a b, o, x => enc mk a o x.1 ++ enc mk b (o + a.nc) x.2
abbrev encL (t : Ty) (x : t.D) : List SV := enc (fun _ t xs => .lst t xs) t 0 x
abbrev encV (κ ver i : Nat) (t : Ty) (x : t.D) : List SV := enc (fun o _ _ => .view κ ver i o) t 0 x

/-- The slice in cell o of a value. -/
def leaf : (t : Ty) → (o : Nat) → Option ((u : Ty) × (t.D → List u.D) × (t.D → List u.D → t.D))
  | .sl t, 0 => some ⟨t, fun x => x, fun _ y => y⟩
  | .pr a b, o => bif Nat.blt o a.nc then (leaf a o).map fun l => ⟨l.1, fun x => l.2.1 x.1, fun x y => (l.2.2 x.1 y, x.2)⟩
      else (leaf b (o - a.nc)).map fun l => ⟨l.1, fun x => l.2.1 x.2, fun x y => (x.1, l.2.2 x.2 y)⟩
  | _, _ => none

def castL (t u : Ty) (xs : List t.D) : Option (List u.D) :=
  if h : t.beq u = true then some (Ty.eq_of_beq h ▸ xs) else none
def cvt {t u : Ty} (h : t.eqv u = true) (x : t.D) : u.D := cast (Ty.D_eqv h) x
def cvtL {t u : Ty} (h : t.eqv u = true) (xs : List t.D) : List u.D := cast (congrArg List (Ty.D_eqv h)) xs
/-- Data are data, lent or not. -/
def castE (t u : Ty) (xs : List t.D) : Option (List u.D) :=
  if h : t.eqv u = true then some (cvtL h xs) else none
/-- What is owned, told as (partly) lent. -/
def castW (t u : Ty) (xs : List t.D) : Option (List u.D) :=
  if h : t.weak u = true then some (cvtL (Ty.weak_eqv h) xs) else none

def svKey : SV → List Nat
  | .own κ | .sub κ _ _ | .view κ _ _ _ => [κ]
  | _ => []
def keysIn (cs : List SV) : List Nat := cs.flatMap svKey
section
variable {V : Nat → Sig}
/-- What a slice reads as, its elements of type u. -/
def readS (u : Ty) : SV → Tr V (List u.D)
  | .nils => .ret []
  | .lst t xs => .ofOpt (castE t u xs)
  | .own κ => .look κ fun
    | .live (.row t xs _) => .ofOpt (castE t u xs)
    | .live (.lent t xs) => .ofOpt (castE t u xs)
    | _ => .no
  | .sub κ lo hi => .look κ fun
    | .live (.row t xs _) => (Tr.ofOpt (castE t u xs)).bind fun ys => .ret ((ys.drop lo).take (hi - lo))
    | .live (.lent t xs) => (Tr.ofOpt (castE t u xs)).bind fun ys => .ret ((ys.drop lo).take (hi - lo))
    | _ => .no
  | .view κ ver i o => .look κ fun
    | .live (.row t xs v) => bif Nat.beq v ver then (match leaf t o with
      | some l => .ofOpt (castE l.1 u (l.2.1 (nth t xs i)))
      | none => .no) else .no
    | _ => .no
  | _ => .no
/-- Cells as pure data, read alone; and the cells behind them. -/
def decR : (t : Ty) → List SV → Tr V (t.D × List SV)
  | .int k, .int l n :: r => bif decide (k = l) then .ret (n, r) else .no
  | .bool, .bool b :: r => .ret (b, r)
  | .str, .str s :: r => .ret (s, r)
  | .sl t, x :: r => (readS t x).bind fun xs => .ret (xs, r)
  | .ls t, x :: r => (readS t x).bind fun xs => .ret (xs, r)
  | .one, r => .ret ((), r)
  | .pr a b, r => (decR a r).bind fun p => (decR b p.2).bind fun q => .ret ((p.1, q.1), q.2)
  | _, _ => .no
/-- Cells as pure data that is taken over: rows of one's own alone. -/
def decO : (t : Ty) → List SV → Tr V (t.D × List SV × Upd)
  | .int k, .int l n :: r => bif decide (k = l) then .ret (n, r, []) else .no
  | .bool, .bool b :: r => .ret (b, r, [])
  | .str, .str s :: r => .ret (s, r, [])
  | .sl _, .nils :: r => .ret ([], r, [])
  | .sl u, .own κ :: r => .look κ fun
    | .live (.row t xs _) => (Tr.ofOpt (castW t u xs)).bind fun ys => .ret (ys, r, [(κ, .gone)])
    | _ => .no
  | .sl u, .sub κ lo hi :: r => .look κ fun
    | .live (.row t xs _) => (Tr.ofOpt (castW t u xs)).bind fun ys => .ret ((ys.drop lo).take (hi - lo), r, [(κ, .gone)])
    | _ => .no
  | .ls _, .nils :: r => .ret ([], r, [])
  | .ls u, .lst t xs :: r => (Tr.ofOpt (castE t u xs)).bind fun ys => .ret (ys, r, [])
  | .ls u, .own κ :: r => .look κ fun
    | .live (.row t xs _) => (Tr.ofOpt (castE t u xs)).bind fun ys => .ret (ys, r, [(κ, .live (.lent t xs))])
    | .live (.lent t xs) => (Tr.ofOpt (castE t u xs)).bind fun ys => .ret (ys, r, [])
    | _ => .no
  | .ls u, .sub κ lo hi :: r => .look κ fun
    | .live (.row t xs _) => (Tr.ofOpt (castE t u xs)).bind fun ys => .ret ((ys.drop lo).take (hi - lo), r, [(κ, .live (.lent t xs))])
    | .live (.lent t xs) => (Tr.ofOpt (castE t u xs)).bind fun ys => .ret ((ys.drop lo).take (hi - lo), r, [])
    | _ => .no
  | .one, r => .ret ((), r, [])
  | .pr a b, r => (decO a r).bind fun p => (decO b p.2.1).bind fun q => .ret ((p.1, q.1), q.2.1, p.2.2 ++ q.2.2)
  | _, _ => .no
end
end Go.Den
namespace Go.Den
open Go

/-! ## 6. Types as the program has them -/
def prs : List (Option Ty) → Option Ty
  | [] => some .one
  | [a] => a
  | a :: b :: r => match a, prs (b :: r) with
    | some x, some y => some (.pr x y)
    | _, _ => none
def tyF (P : Program) : Nat → TypeId → Option Ty
  | 0, _ => none
  | f + 1, t => match P.underlying t with
    | some .bool => some .bool
    | some (.int k) => some (.int k)
    | some .string => some .str
    | some (.slice e) => (tyF P f e).map .sl
    | some (.struct fs) => prs (fs.toList.map fun x => tyF P f x.type)
    | _ => none
def aggB (P : Program) (t : TypeId) : Bool := match P.underlying t with
  | some (.struct _) | some (.array _ _) => true
  | _ => false
def szB (P : Program) (t : TypeId) : Nat := match P.info? t with | some i => i.size | none => 0
def byB (P : Program) (t : TypeId) : Nat := match P.info? t with | some i => i.bytes | none => 0
/-- The program knows the type. -/
def okT (P : Program) (t : TypeId) : Bool := match P.underlying t with
  | some _ => true
  | none => false
def elB (P : Program) (t : TypeId) : Option TypeId := match P.underlying t with
  | some (.slice e) => some e
  | _ => none
def isK (p : TypeDesc → Bool) (P : Program) (t : TypeId) : Bool := match P.underlying t with
  | some d => p d
  | none => false
abbrev isStr (P : Program) (t : TypeId) : Bool := isK (fun | .string => true | _ => false) P t
abbrev isBo (P : Program) (t : TypeId) : Bool := isK (fun | .bool => true | _ => false) P t
abbrev isPt (P : Program) (t : TypeId) : Bool := isK (fun | .pointer _ => true | _ => false) P t
abbrev isIf (P : Program) (t : TypeId) : Bool := isK (fun | .interface _ => true | _ => false) P t
abbrev notInt (P : Program) (t : TypeId) : Bool := isK (fun | .slice _ => true | .string => true | _ => false) P t
/-- A constant, as a cell. -/
def svOf : Value → SV
  | .int k n => .int k n
  | .bool b => .bool b
  | .string s => .str s
  | .slice none 0 0 => .nils
  | .pointer none => .nilp
  | .nilFunc => .nilf
  | .nilIface => .err false
  | .func (.func f) first cap => bif Nat.beq first.size 0 && Nat.beq cap.size 0 then .clo f [] else .undef
  | _ => .undef
def pvOf : Value → PV
  | .agg cs => .c (.a (cs.toList.map svOf))
  | v => .c (.s (svOf v))
def zeroB (P : Program) (t : TypeId) : Option PV := match P.info? t with
  | some i => match i.zero with
    | some v => some (pvOf v)
    | none => none
  | none => none
/-- These cells are the zero value's. -/
def isZero : Ty → List SV → Option (List SV)
  | .int k, .int l n :: r => bif decide (k = l) && decide (n = 0) then some r else none
  | .bool, .bool b :: r => bif b then none else some r
  | .str, .str s :: r => bif Nat.beq s.size 0 then some r else none
  | .sl _, .nils :: r => some r
  | .ls _, .nils :: r => some r
  | .one, r => some r
  | .pr a b, r => (isZero a r).bind (isZero b)
  | _, _ => none
def zeroIs (P : Program) (e : TypeId) (t : Ty) : Bool := match zeroB P e with
  | some (.c (.a cs)) => match isZero t cs with
    | some [] => true
    | _ => false
  | some (.c (.s c)) => match isZero t [c] with
    | some [] => true
    | _ => false
  | _ => false

/-- No place that nothing is known of. -/
def okSV : SV → Bool
  | .undef => false
  | _ => true
def okCV : CV → Bool
  | .s x => okSV x
  | .a cs => cs.all okSV
def cvCells : CV → List SV
  | .s x => [x]
  | .a cs => cs
/-- Cells as a value of this type. -/
def mkCV (agg : Bool) (cs : List SV) : CV := bif agg then .a cs else match cs with
  | [c] => .s c
  | _ => .s .undef
def keysOf (u : Upd) : List Nat := u.map (·.1)
def nodupB : List Nat → Bool
  | [] => true
  | x :: r => !(r.any (Nat.beq x)) && nodupB r

/-! ## 7. Operations -/
section
variable {V : Nat → Sig}
abbrev Eff := PV × Upd
abbrev T (V : Nat → Sig) := Tr V Eff
/-- Only at a key that nobody has had. -/
def fresh {α : Type} (key : Nat) (t : Tr V α) : Tr V α := .look key fun
  | .free => t
  | _ => .no
def freshN {α : Type} : (n key : Nat) → Tr V α → Tr V α
  | 0, _, t => t
  | n + 1, key, t => fresh key (freshN n (key + 1) t)

def val (x : SV) : T V := .ret (.sv x, [])
theorem lim_is : ∃ f : Nat → Nat → Bool, f = fun n b => decide (n * b ≤ 140737488355328) := ⟨_, rfl⟩
/-- n places of b bytes fit. (Told by choice, so that the kernel does not reckon it.) -/
noncomputable def lim (n b : Nat) : Bool := lim_is.choose n b
theorem lim_eq (n b : Nat) : lim n b = decide (n * b ≤ 140737488355328) := congrFun (congrFun lim_is.choose_spec n) b
theorem limS_is : ∃ f : Nat → Bool, f = fun n => decide (n ≤ 9223372036854775807) := ⟨_, rfl⟩
noncomputable def limS (n : Nat) : Bool := limS_is.choose n
theorem limS_eq (n : Nat) : limS n = decide (n ≤ 9223372036854775807) := congrFun limS_is.choose_spec n

/-! Operations on bits, told by choice: the kernel does not reckon them. -/
theorem andI_is : ∃ f : IntKind → Int → Int → Int, f = fun k x y => ((BitVec.ofInt k.bits x &&& BitVec.ofInt k.bits y).toNat : Int) := ⟨_, rfl⟩
noncomputable def andI : IntKind → Int → Int → Int := andI_is.choose
theorem andI_eq (k : IntKind) (x y : Int) : andI k x y = ((BitVec.ofInt k.bits x &&& BitVec.ofInt k.bits y).toNat : Int) := congrFun (congrFun (congrFun andI_is.choose_spec k) x) y
theorem orI_is : ∃ f : IntKind → Int → Int → Int, f = fun k x y => ((BitVec.ofInt k.bits x ||| BitVec.ofInt k.bits y).toNat : Int) := ⟨_, rfl⟩
noncomputable def orI : IntKind → Int → Int → Int := orI_is.choose
theorem orI_eq (k : IntKind) (x y : Int) : orI k x y = ((BitVec.ofInt k.bits x ||| BitVec.ofInt k.bits y).toNat : Int) := congrFun (congrFun (congrFun orI_is.choose_spec k) x) y
theorem xorI_is : ∃ f : IntKind → Int → Int → Int, f = fun k x y => ((BitVec.ofInt k.bits x ^^^ BitVec.ofInt k.bits y).toNat : Int) := ⟨_, rfl⟩
noncomputable def xorI : IntKind → Int → Int → Int := xorI_is.choose
theorem xorI_eq (k : IntKind) (x y : Int) : xorI k x y = ((BitVec.ofInt k.bits x ^^^ BitVec.ofInt k.bits y).toNat : Int) := congrFun (congrFun (congrFun xorI_is.choose_spec k) x) y
theorem shlI_is : ∃ f : IntKind → Int → Int → Int, f = fun k x y => x * 2 ^ (min y.toNat k.bits) := ⟨_, rfl⟩
noncomputable def shlI : IntKind → Int → Int → Int := shlI_is.choose
theorem shlI_eq (k : IntKind) (x y : Int) : shlI k x y = x * 2 ^ (min y.toNat k.bits) := congrFun (congrFun (congrFun shlI_is.choose_spec k) x) y
theorem shrI_is : ∃ f : IntKind → Int → Int → Int, f = fun k x y => x.fdiv (2 ^ (min y.toNat k.bits)) := ⟨_, rfl⟩
noncomputable def shrI : IntKind → Int → Int → Int := shrI_is.choose
theorem shrI_eq (k : IntKind) (x y : Int) : shrI k x y = x.fdiv (2 ^ (min y.toNat k.bits)) := congrFun (congrFun (congrFun shrI_is.choose_spec k) x) y
noncomputable def intOp (op : BinOp) (k : IntKind) (x y : Int) : T V := match op with
  | .add => val (.int k (k.wrap (x + y)))
  | .sub => val (.int k (k.wrap (x - y)))
  | .mul => val (.int k (k.wrap (x * y)))
  | .quo => .grd (y != 0) (val (.int k (k.wrap (x.tdiv y))))
  | .rem => .grd (y != 0) (val (.int k (x.tmod y)))
  | .and => val (.int k (k.wrap (andI k x y)))
  | .or => val (.int k (k.wrap (orI k x y)))
  | .xor => val (.int k (k.wrap (xorI k x y)))
  | .andNot => .no
  | .eql => val (.bool (x == y))
  | .neq => val (.bool (x != y))
  | .lss => val (.bool (decide (x < y)))
  | .leq => val (.bool (decide (x ≤ y)))
  | .gtr => val (.bool (decide (x > y)))
  | .geq => val (.bool (decide (x ≥ y)))
  | _ => .no
noncomputable def strOp (op : BinOp) (x y : ByteArray) : T V := match op with
  | .add => .grd (limS (x.size + y.size)) (val (.str (x ++ y)))
  | .eql => val (.bool (x.toList == y.toList))
  | .neq => val (.bool !(x.toList == y.toList))
  | .lss => val (.bool (Op.bytesLess x.toList y.toList))
  | .leq => val (.bool (Op.bytesLess x.toList y.toList || x.toList == y.toList))
  | .gtr => val (.bool !(Op.bytesLess x.toList y.toList || x.toList == y.toList))
  | .geq => val (.bool !(Op.bytesLess x.toList y.toList))
  | _ => .no
/-- Is it nil? -/
def nilOf : SV → Option Bool
  | .nilp => some true
  | .ptr _ _ | .rptr _ _ _ | .lptr _ _ _ _ | .vptr _ _ _ _ _ _ => some false
  | _ => none
abbrev isIn (P : Program) (t : TypeId) : Bool := isK (fun | .int _ => true | _ => false) P t
/-- Are the fields of two structs the same? -/
def eqC (P : Program) (t : TypeId) : SV → SV → Option Bool
  | .int k x, .int l y => bif decide (k = l) && isIn P t then some (x == y) else none
  | .bool x, .bool y => bif isBo P t then some (x == y) else none
  | .str x, .str y => bif isStr P t then some (x.toList == y.toList) else none
  | _, _ => none
def eqFs (P : Program) (xs ys : List SV) : List Field → Option Bool
  | [] => some true
  | f :: fs => bif aggB P f.type || !(Nat.ble (f.offset + 1) xs.length && Nat.ble (f.offset + 1) ys.length) || decide (f.name = "_") then none else match eqC P f.type (xs.getD f.offset .undef) (ys.getD f.offset .undef), eqFs P xs ys fs with
    | some a, some b => some (a && b)
    | _, _ => none
/-- 'yc': the second operand is a constant. -/
noncomputable def binT (P : Program) (op : BinOp) (t : TypeId) (yc : Bool) : PV → PV → T V
  | .c (.s (.int k x)), .c (.s (.int l y)) => match op with
    | .shl => .grd (decide (0 ≤ y)) (val (.int k (k.wrap (shlI k x y))))
    | .shr => .grd (decide (0 ≤ y)) (val (.int k (shrI k x y)))
    | _ => bif decide (k = l) then intOp op k x y else .no
  | .c (.s (.str x)), .c (.s (.str y)) => strOp op x y
  | .c (.s (.bool x)), .c (.s (.bool y)) => bif isBo P t then match op with
    | .eql => val (.bool (x == y))
    | .neq => val (.bool (!(x == y)))
    | _ => .no
    else .no
  | .c (.s (.err x)), .c (.s (.err false)) => bif yc && isIf P t then match op with
    | .eql => val (.bool (!x))
    | .neq => val (.bool x)
    | _ => .no
    else .no
  | .c (.s x), .c (.s .nilp) => bif isPt P t then match nilOf x with
    | some b => match op with
      | .eql => val (.bool b)
      | .neq => val (.bool (!b))
      | _ => .no
    | none => .no
    else .no
  | .c (.a xs), .c (.a ys) => match P.underlying t with
    | some (.struct fs) => bif !(P.stoodInHeld t) && !(P.eqGuardType P.depth t) then match eqFs P xs ys fs.toList with
      | some b => match op with
        | .eql => val (.bool b)
        | .neq => val (.bool (!b))
        | _ => .no
      | none => .no
      else .no
    | _ => .no
  | _, _ => .no
def unT (op : UnOp) : PV → T V
  | .c (.s (.bool b)) => match op with
    | .not => val (.bool !b)
    | _ => .no
  | .c (.s (.int k n)) => match op with
    | .neg => val (.int k (k.wrap (0 - n)))
    | _ => .no
  | _ => .no

/-- The cells behind an address. -/
def cellsAt : SV → Tr V (List SV)
  | .ptr κ off => .look κ fun
    | .live (.box cs) | .live (.cbox cs) => .ret (cs.drop off)
    | _ => .no
  | .rptr κ i off => .look κ fun
    | .live (.row t xs ver) => .ret ((encV κ ver i t (nth t xs i)).drop off)
    | _ => .no
  | .lptr t xs i off => .ret ((encL t (nth t xs i)).drop off)
  | .vptr κ ver i o j off => .look κ fun
    | .live (.row t xs v) => bif Nat.beq v ver then (match leaf t o with
      | some l => bif l.1.flat then .ret ((encL l.1 (nth l.1 (l.2.1 (nth t xs i)) j)).drop off) else .no
      | none => .no) else .no
    | _ => .no
  | _ => .no
def loadT (P : Program) (t : TypeId) (a : SV) : T V :=
  bif okT P t then (cellsAt a).bind fun cs => bif aggB P t then (bif Nat.ble (szB P t) cs.length then .ret (.c (.a (cs.take (szB P t))), []) else .no)
    else match cs with
      | c :: _ => val c
      | [] => .no
  else .no
/-- Cells put into a value of one's own, from cell o on. -/
def putAt : (t : Ty) → (o : Nat) → List SV → t.D → Tr V (t.D × Upd)
  | .pr a b, o, cs, x =>
    bif Nat.ble a.nc o && !(Nat.beq b.nc 0) then (putAt b (o - a.nc) cs x.2).bind fun p => .ret ((x.1, p.1), p.2)
    else bif Nat.ble (o + cs.length) a.nc then (putAt a o cs x.1).bind fun p => .ret ((p.1, x.2), p.2)
    else bif Nat.beq o 0 then (decO (.pr a b) cs).bind fun p => match p.2.1 with
      | [] => .ret (p.1, p.2.2)
      | _ => .no
    else .no
  | t, 0, cs, _ => (decO t cs).bind fun p => match p.2.1 with
      | [] => .ret (p.1, p.2.2)
      | _ => .no
  | _, _, _, _ => .no
def splice (cs : List SV) (off : Nat) (new : List SV) : List SV := cs.take off ++ new ++ cs.drop (off + new.length)
def storeT (P : Program) (t : TypeId) (a : SV) (v : CV) : T V :=
  bif okT P t && (okCV v && Nat.beq (cvCells v).length (szB P t)) then match a with
    | .ptr κ off => .look κ fun
      | .live (.box cs) => bif Nat.ble (off + (cvCells v).length) cs.length then .ret (.un, [(κ, .live (.box (splice cs off (cvCells v))))]) else .no
      | _ => .no
    | .rptr κ i off => .look κ fun
      | .live (.row t xs ver) => (putAt t off (cvCells v) (nth t xs i)).bind fun p =>
        bif nodupB (κ :: keysOf p.2) then .ret (.un, (κ, .live (.row t (xs.set i p.1) (ver + 1))) :: p.2) else .no
      | _ => .no
    | _ => .no
  else .no

/-- A slice that is appended to: what it has, and the row that is used up. -/
def appT (t : Ty) (x : SV) : Tr V (List t.D × Upd) := (decO (.sl t) [x]).bind fun p => .ret (p.1, p.2.2)
def bytesL (s : ByteArray) : List Int := s.data.toList.map fun b => (b.toNat : Int)
/-- What is appended. -/
def moreT (t : Ty) : SV → Tr V (List t.D × Upd)
  | .str s => match t with
    | .int .u8 => .ret (bytesL s, [])
    | _ => .no
  | x => bif t.flat then (readS t x).bind fun ys => .ret (ys, [])
    else match x with
      | .lst u xs => bif t.still then (Tr.ofOpt (castE u t xs)).bind fun ys => .ret (ys, []) else .no
      | .own κ => .look κ fun
        | .live (.row u xs _) => bif t.still && u.beq t then (Tr.ofOpt (castL u t xs)).bind fun ys => .ret (ys, []) else appT t (.own κ)
        | .live (.lent u xs) => bif t.still then (Tr.ofOpt (castE u t xs)).bind fun ys => .ret (ys, []) else .no
        | _ => .no
      | x => appT t x
/-- The type of a row. -/
def rowTy (κ : Nat) : Tr V (Option Ty) := .look κ fun
  | .live (.row u _ _) => .ret (some u)
  | .live (.lent u _) => .ret (some u.lent)
  | _ => .no
/-- The type of what is appended. -/
def moreTy (t : Ty) : SV → Tr V (Option Ty)
  | .lst _ _ => .ret (some t.lent)
  | .own κ | .sub κ _ _ => rowTy κ
  | _ => .ret none
/-- The type of the elements of what comes of it: 't' as the program has them. -/
def appTy (t : Ty) (s x : SV) : Tr V Ty := bif t.flat then .ret t else match s with
  | .own κ | .sub κ _ _ => (rowTy κ).bind fun
    | some u => (moreTy t x).bind fun
      | some v => .ret (bif v.weak u then u else t.lent)
      | none => .ret u
    | none => .no
  | _ => (moreTy t x).bind fun
    | some v => .ret v
    | none => .ret t
noncomputable def appendT (P : Program) (key : Nat) (st xt : TypeId) (s x : SV) : T V := match elB P st with
  | none => .no
  | some e => match tyF P 9 e with
    | none => .no
    | some t0 => (appTy t0 s x).bind fun t => bif Nat.beq (szB P e) t.nc && (zeroIs P e t && (Nat.ble 1 (byB P e) && notInt P xt)) then
        (appT t s).bind fun p => (moreT t x).bind fun q =>
          bif nodupB (keysOf p.2 ++ keysOf q.2) then
            fresh key (.grd (lim (p.1.length + q.1.length) (byB P e))
              (.ret (.sv (.own key), p.2 ++ q.2 ++ [(key, .live (.row t (p.1 ++ q.1) 0))])))
          else .no
      else .no
/-- A part's cells as an element. -/
def partT (t : Ty) (v : CV) : Tr V (t.D × Upd) := (decO t (cvCells v)).bind fun p => match p.2.1 with
  | [] => .ret (p.1, p.2.2)
  | _ => .no
def partsT (t : Ty) : List (Nat × CV) → (i : Nat) → Tr V (List t.D × Upd)
  | [], _ => .ret ([], [])
  | (j, v) :: ps, i => bif Nat.beq j i then (partT t v).bind fun x => (partsT t ps (i + 1)).bind fun r => .ret (x.1 :: r.1, x.2 ++ r.2) else .no
/-- A slice that is lent stands among the parts. -/
def isLst : SV → Bool
  | .lst _ _ => true
  | _ => false
def lentB (ps : List (Nat × CV)) : Bool := ps.any fun p => (cvCells p.2).any isLst
def buildSliceU (P : Program) (key : Nat) (e : TypeId) (n : Nat) (ps : List (Nat × CV)) (t : Ty) : T V :=
  bif Nat.beq (szB P e) t.nc && (zeroIs P e t && (Nat.ble (n * t.nc) 16777216 && Nat.beq ps.length n)) then
    (partsT t ps 0).bind fun r => bif nodupB (keysOf r.2) then fresh key (.ret (.sv (.own key), r.2 ++ [(key, .live (.row t r.1 0))])) else .no
  else .no
def buildSliceT (P : Program) (key : Nat) (st : TypeId) (n : Nat) (ps : List (Nat × CV)) : T V := match elB P st with
  | none => .no
  | some e => match tyF P 9 e with
    | none => .no
    | some t0 => buildSliceU P key e n ps (bif lentB ps then t0.lent else t0)
noncomputable def makeSliceT (P : Program) (key : Nat) (st : TypeId) (n c : Int) : T V := match elB P st with
  | none => .no
  | some e => match tyF P 9 e with
    | none => .no
    | some t => bif Nat.beq (szB P e) t.nc && (zeroIs P e t && Nat.ble 1 (byB P e)) then
        fresh key (.grd (decide (0 ≤ n) && (decide (n ≤ c) && lim c.toNat (byB P e))) (.ret (.sv (.own key), [(key, .live (.row t (List.replicate n.toNat t.dflt) 0))])))
      else .no
def fillF (P : Program) (fs : Array Field) : List (Nat × CV) → List SV → Option (List SV)
  | [], cs => some cs
  | (i, v) :: r, cs => match fs[i]? with
    | none => none
    | some f => bif okT P f.type && Nat.beq (cvCells v).length (szB P f.type) && Nat.ble (f.offset + (cvCells v).length) cs.length then fillF P fs r (splice cs f.offset (cvCells v)) else none
def buildT (P : Program) (t : TypeId) (ps : List (Nat × CV)) : T V := match P.underlying t with
  | some (.struct fs) => bif fs.toList.all (fun f => okT P f.type) then match zeroB P t with
    | some (.c (.a cs)) => match fillF P fs ps cs with
      | some r => .ret (.c (.a r), [])
      | none => .no
    | _ => .no
    else .no
  | _ => .no
def bt (s : ByteArray) (i : Nat) : Int := ((s.data.toList.getD i 0).toNat : Int)
def boundT (lo : Option PV) (d : Int) : Tr V Int := match lo with
  | none => .ret d
  | some (.c (.s (.int _ n))) => .ret n
  | _ => .no
def cutT (lo hi : Option PV) (n : Nat) (f : Nat → Nat → SV) : T V := (boundT hi n).bind fun h => (boundT lo 0).bind fun l =>
  .grd (decide (0 ≤ l) && (decide (l ≤ h) && decide (h ≤ (n : Int)))) (val (f l.toNat h.toNat))
def sliceT (P : Program) (st : TypeId) (x : PV) (lo hi : Option PV) : T V := match x with
  | .c (.s (.str s)) => bif isStr P st then cutT lo hi s.size fun l h => .str (s.extract l h) else .no
  | .c (.s y) => match elB P st with
    | none => .no
    | some e => bif okT P e then match y with
      | .lst t xs => bif Nat.beq (szB P e) t.nc then cutT lo hi (List.length xs) fun l h => .lst t ((xs.drop l).take (h - l)) else .no
      | .own κ => .look κ fun
        | .live (.row t xs _) => bif Nat.beq (szB P e) t.nc then cutT lo hi (List.length xs) fun l h => .sub κ l h else .no
        | .live (.lent t xs) => bif Nat.beq (szB P e) t.nc then cutT lo hi (List.length xs) fun l h => .sub κ l h else .no
        | _ => .no
      | .sub κ a b => .look κ fun
        | .live (.row t _ _) => bif Nat.beq (szB P e) t.nc then cutT lo hi (b - a) fun l h => .sub κ (a + l) (a + h) else .no
        | .live (.lent t _) => bif Nat.beq (szB P e) t.nc then cutT lo hi (b - a) fun l h => .sub κ (a + l) (a + h) else .no
        | _ => .no
      | .nils => cutT lo hi 0 fun _ _ => .nils
      | _ => .no
      else .no
  | _ => .no
/-- The address of an element. -/
def indexAddrT (P : Program) (st : TypeId) (x : PV) (i : Int) : T V := match elB P st with
  | none => .no
  | some e => match x with
    | .c (.s (.lst t xs)) => bif okT P e && Nat.beq (szB P e) t.nc then .grd (decide (0 ≤ i) && decide (i < (xs.length : Int))) (val (.lptr t xs i.toNat 0)) else .no
    | .c (.s (.own κ)) => .look κ fun
      | .live (.row t xs _) => bif okT P e && Nat.beq (szB P e) t.nc then .grd (decide (0 ≤ i) && decide (i < (xs.length : Int))) (val (.rptr κ i.toNat 0)) else .no
      | .live (.lent t xs) => bif okT P e && Nat.beq (szB P e) t.nc then .grd (decide (0 ≤ i) && decide (i < (xs.length : Int))) (val (.lptr t xs i.toNat 0)) else .no
      | _ => .no
    | .c (.s (.sub κ lo hi)) => .look κ fun
      | .live (.row t _ _) => bif okT P e && Nat.beq (szB P e) t.nc then .grd (decide (0 ≤ i) && decide (i < ((hi - lo : Nat) : Int))) (val (.rptr κ (lo + i.toNat) 0)) else .no
      | .live (.lent t xs) => bif okT P e && Nat.beq (szB P e) t.nc then .grd (decide (0 ≤ i) && decide (i < ((hi - lo : Nat) : Int))) (val (.lptr t xs (lo + i.toNat) 0)) else .no
      | _ => .no
    | .c (.s (.view κ ver j o)) => .look κ fun
      | .live (.row t xs v) => bif Nat.beq v ver then (match leaf t o with
        | some l => bif okT P e && Nat.beq (szB P e) l.1.nc then .grd (decide (0 ≤ i) && decide (i < ((l.2.1 (nth t xs j)).length : Int))) (val (.vptr κ ver j o i.toNat 0)) else .no
        | none => .no) else .no
      | _ => .no
    | _ => .no
def fieldAddrT (P : Program) (st : TypeId) (x : PV) (f : Nat) : T V := match P.underlying st with
  | some (.struct fs) => match fs[f]? with
    | some fd => bif okT P fd.type && !(Nat.beq (szB P fd.type) 0) then match x with
      | .c (.s (.ptr κ o)) => val (.ptr κ (o + fd.offset))
      | .c (.s (.rptr κ i o)) => val (.rptr κ i (o + fd.offset))
      | .c (.s (.lptr t xs i o)) => val (.lptr t xs i (o + fd.offset))
      | .c (.s (.vptr κ ver i l j o)) => val (.vptr κ ver i l j (o + fd.offset))
      | _ => .no
      else .no
    | none => .no
  | _ => .no
def fieldT (P : Program) (st : TypeId) (x : PV) (f : Nat) : T V := match P.underlying st with
  | some (.struct fs) => match fs[f]? with
    | some fd => match x with
      | .c (.a cs) => bif okT P fd.type then (bif aggB P fd.type then .ret (.c (.a ((cs.drop fd.offset).take (szB P fd.type))), []) else match cs.drop fd.offset with
        | c :: _ => val c
        | [] => .no) else .no
      | _ => .no
    | none => .no
  | _ => .no
def lenS : SV → T V
  | .nils => val (.int .i64 0)
  | .lst _ xs => val (.int .i64 (List.length xs))
  | .own κ => .look κ fun
    | .live (.row _ xs _) => val (.int .i64 (List.length xs))
    | .live (.lent _ xs) => val (.int .i64 (List.length xs))
    | _ => .no
  | .sub _ lo hi => val (.int .i64 ((hi - lo : Nat) : Int))
  | .view κ ver j o => .look κ fun
    | .live (.row t xs v) => bif Nat.beq v ver then (match leaf t o with
      | some l => val (.int .i64 (List.length (l.2.1 (nth t xs j))))
      | none => .no) else .no
    | _ => .no
  | _ => .no
def lenT (P : Program) (t : TypeId) : PV → T V
  | .c (.s (.str s)) => bif isStr P t then val (.int .i64 s.size) else .no
  | .c (.s x) => match elB P t with
    | some _ => lenS x
    | none => .no
  | _ => .no
/-- A part of a row is set to zero values. -/
def clearT (P : Program) (st : TypeId) : SV → T V
  | .sub κ lo hi => match elB P st with
    | none => .no
    | some e => .look κ fun
      | .live (.row t xs ver) => bif zeroIs P e t && Nat.beq (szB P e) t.nc then .ret (.tup [], [(κ, .live (.row t (xs.take lo ++ List.replicate (hi - lo) t.dflt ++ xs.drop hi) (ver + 1)))]) else .no
      | _ => .no
  | _ => .no
def convT (P : Program) (key : Nat) (src dst : TypeId) (x : PV) : T V := bif okT P src then match P.underlying dst, x with
  | some (.int k), .c (.s (.int _ n)) => val (.int k (k.wrap n))
  | some .string, .c (.s (.str s)) => val (.str s)
  | some .string, .c (.s y) => match elB P src with
    | some e => match P.underlying e with
      | some (.int .u8) => (readS (.int .u8) y).bind fun (xs : List Int) => val (.str ⟨(xs.map fun n => UInt8.ofNat n.toNat).toArray⟩)
      | _ => .no
    | none => .no
  | some (.slice e), .c (.s (.str s)) => match P.underlying e with
    | some (.int .u8) => bif isStr P src then fresh key (.ret (.sv (.own key), [(key, .live (.row (.int .u8) (bytesL s) 0))])) else .no
    | _ => .no
  | _, _ => .no
  else .no
end
end Go.Den
namespace Go.Den
open Go

/-! ## 8. Calls -/
section
variable {V : Nat → Sig}

/-- Pure data as cells, the slices in it rows of one's own, of keys from j on. -/
def encO : (t : Ty) → (j : Nat) → t.D → List SV × Upd × Nat
  | .int k, j, n => ([.int k n], [], j)
  | .bool, j, b => ([.bool b], [], j)
  | .str, j, s => ([.str s], [], j)
  | .sl t, j, xs => ([.own j], [(j, .live (.row t xs 0))], j + 1)
  | .ls t, j, xs => ([.lst t xs], [], j)
  | .one, j, _ => ([], [], j)
  | .pr a b, j, x => match encO a j x.1 with
    | (c, u, j1) => match encO b j1 x.2 with
      | (d, v, j2) => (c ++ d, u ++ v, j2)

/-- What an argument uses up; the rows that are written; the variables that are written; what is read. -/
abbrev Pla := Option (Nat × Option (Nat × Nat))
structure ArgI where
  gone : Upd
  /-- where the slices lie that are written: a row, or a place in a row's item -/
  muts : List Pla
  boxes : List Nat
  reads : List Nat
/-- The data of a variable that is handed over. -/
def boxT (t : Ty) (κ : Nat) : Tr V (t.D × Upd) := .look κ fun
  | .live (.box cells) => (decO t cells).bind fun p => match p.2.1 with
    | [] => .ret (p.1, (κ, .gone) :: p.2.2)
    | _ => .no
  | _ => .no
/-- The data of a variable that is read. -/
def cboxT (l : Bool) (t : Ty) (κ : Nat) : Tr V (t.D × Upd × List Nat) := .look κ fun
  | .live (.box cells) => bif l then (bif (keysIn cells).isEmpty then (decR t cells).bind fun p => match p.2 with
      | [] => .ret (p.1, [(κ, .live (.cbox cells))], [])
      | _ => .no
      else .no)
    else (decR t cells).bind fun p => match p.2 with
      | [] => .ret (p.1, [], κ :: keysIn cells)
      | _ => .no
  | .live (.cbox cells) => bif l && !(keysIn cells).isEmpty then .no else (decR t cells).bind fun p => match p.2 with
    | [] => .ret (p.1, [], keysIn cells)
    | _ => .no
  | _ => .no
/-- The variable whose address is held in a variable. -/
def pboxT (κ : Nat) : Tr V (Nat × List Nat) := .look κ fun
  | .live (.box [.ptr κ0 0]) => .ret (κ0, [κ])
  | .live (.cbox [.ptr κ0 0]) => .ret (κ0, [])
  | _ => .no
def capsT (l : Bool) : (caps : List (Ty × Bool)) → List Nat → Tr V (CapsD caps × ArgI)
  | [], [] => .ret ((), ⟨[], [], [], []⟩)
  | (t, true) :: cs, κ :: ks => (boxT t κ).bind fun p => (capsT l cs ks).bind fun q => .ret ((p.1, q.1), ⟨p.2 ++ q.2.gone, q.2.muts, κ :: q.2.boxes, q.2.reads⟩)
  | (t, false) :: cs, κ :: ks => (cboxT l t κ).bind fun p => (capsT l cs ks).bind fun q => .ret ((p.1, q.1), ⟨p.2.1 ++ q.2.gone, q.2.muts, q.2.boxes, p.2.2 ++ q.2.reads⟩)
  | _, _ => .no
/-- A value whose slices are written: what it reads as, where its slices lie. -/
def mutD : (t : Ty) → List SV → Tr V (t.D × List SV × List Pla)
  | .int k, .int l n :: r => bif decide (k = l) then .ret (n, r, []) else .no
  | .bool, .bool b :: r => .ret (b, r, [])
  | .str, .str s :: r => .ret (s, r, [])
  | .sl _, .nils :: r => .ret ([], r, [none])
  | .sl u, .own κ :: r => .look κ fun
    | .live (.row t xs _) => (Tr.ofOpt (castL t u xs)).bind fun ys => .ret (ys, r, [some (κ, none)])
    | _ => .no
  | .sl u, .view κ ver i o :: r => .look κ fun
    | .live (.row t xs v) => bif Nat.beq v ver then (match leaf t o with
      | some l => (Tr.ofOpt (castL l.1 u (l.2.1 (nth t xs i)))).bind fun ys => .ret (ys, r, [some (κ, some (i, o))])
      | none => .no) else .no
    | _ => .no
  | .one, r => .ret ((), r, [])
  | .pr a b, r => (mutD a r).bind fun p => (mutD b p.2.1).bind fun q => .ret ((p.1, q.1), q.2.1, p.2.2 ++ q.2.2)
  | _, _ => .no
/-- The rows as they are when it has been written. -/
def putM : (t : Ty) → t.D → List Pla → Tr V (Upd × List Pla)
  | .sl _, _, none :: ps => .ret ([], ps)
  | .sl u, x, some (κ, none) :: ps => .look κ fun
    | .live (.row _ _ ver) => .ret ([(κ, .live (.row u x (ver + 1)))], ps)
    | _ => .no
  | .sl u, x, some (κ, some (i, o)) :: ps => .look κ fun
    | .live (.row t xs ver) => (match leaf t o with
      | some l => (Tr.ofOpt (castL u l.1 x)).bind fun ys => .ret ([(κ, .live (.row t (xs.set i (l.2.2 (nth t xs i) ys)) (ver + 1)))], ps)
      | none => .no)
    | _ => .no
  | .sl _, _, [] => .no
  | .pr a b, x, ps => (putM a x.1 ps).bind fun p => (putM b x.2 p.2).bind fun q => .ret (p.1 ++ q.1, q.2)
  | _, _, ps => .ret ([], ps)
def plKeys (ps : List Pla) : List Nat := ps.filterMap fun p => p.map (·.1)
def shapeB (agg : Bool) (x : CV) : Bool := okCV x && (match x with
  | .a _ => agg
  | .s _ => !agg)
def argT (l agg : Bool) : (p : Par) → PV → Tr V (p.D × ArgI)
  | .val t, .c x => bif shapeB agg x then (bif l && !(keysIn (cvCells x)).isEmpty then (decO t.lent (cvCells x)).bind fun p => match p.2.1 with
      | [] => .ret (cvt (Ty.lent_eqv t) p.1, ⟨p.2.2, [], [], []⟩)
      | _ => .no
    else (decR t (cvCells x)).bind fun p => match p.2 with
      | [] => .ret (p.1, ⟨[], [], [], keysIn (cvCells x)⟩)
      | _ => .no)
    else .no
  | .own t, .c x => bif shapeB agg x then (decO t (cvCells x)).bind fun p => match p.2.1 with
    | [] => .ret (p.1, ⟨p.2.2, [], [], []⟩)
    | _ => .no
    else .no
  | .mut t, .c x => bif shapeB agg x then (mutD t (cvCells x)).bind fun p => match p.2.1 with
    | [] => .ret (p.1, ⟨[], p.2.2, [], []⟩)
    | _ => .no
    else .no
  | .ptr t, .c (.s (.ptr κ 0)) => (boxT t κ).bind fun p => .ret (p.1, ⟨p.2, [], [κ], []⟩)
  | .cptr t, .c (.s (.ptr κ 0)) => (cboxT l t κ).bind fun p => .ret (p.1, ⟨p.2.1, [], [], p.2.2⟩)
  | .clo f caps, .c (.s (.clo g ks)) => bif Nat.beq f g then capsT l caps ks else .no
  | .pptr t, .c (.s (.ptr κ 0)) => bif l then .no else (pboxT κ).bind fun q => (boxT t q.1).bind fun p => .ret (p.1, ⟨p.2, [], [q.1], q.2⟩)
  | .rclo f caps, .c (.s (.clo g ks0)) => bif Nat.beq (f / 2) g && !l then (match rget f ks0 with
      | some kp => (pboxT kp.1).bind fun q => (capsT l caps kp.2).bind fun p => .ret (p.1, ⟨p.2.gone, p.2.muts, p.2.boxes, q.2 ++ p.2.reads⟩)
      | none => .no) else .no
  | _, _ => .no
def headAgg (P : Program) : List TypeId → Bool
  | t :: _ => aggB P t
  | [] => false
def argsT (P : Program) (l : Bool) : (ts : List TypeId) → (ps : List Par) → List PV → Tr V (ArgsD ps × List ArgI)
  | _, [], [] => .ret ((), [])
  | ts, p :: ps, a :: as => (argT l (headAgg P ts) p a).bind fun x => (argsT P l ts.tail ps as).bind fun r => .ret ((x.1, r.1), x.2 :: r.2)
  | _, _, _ => .no

/-- The rows that are written. -/
def outM : (ps : List Par) → OutsD ps → List ArgI → Tr V Upd
  | [], _, _ => .ret []
  | .mut t :: ps, x, a :: as => (putM t x.1 a.muts).bind fun p => (outM ps x.2 as).bind fun q => .ret (p.1 ++ q)
  | .ptr _ :: ps, x, _ :: as => outM ps x.2 as
  | .clo _ _ :: ps, x, _ :: as => outM ps x.2 as
  | .val _ :: ps, x, _ :: as => outM ps x as
  | .own _ :: ps, x, _ :: as => outM ps x as
  | .cptr _ :: ps, x, _ :: as => outM ps x as
  | .pptr _ :: ps, x, _ :: as => outM ps x.2 as
  | .rclo _ _ :: ps, x, _ :: as => outM ps x.2 as
  | _, _, [] => .no
/-- A variable, told anew. -/
def boxIn (t : Ty) (κ : Nat) (x : t.D) (j : Nat) : Upd × Nat := match encO t j x with
  | (c, u, j1) => (u ++ [(κ, .live (.box c))], j1)
def capOutT : (caps : List (Ty × Bool)) → CapOutD caps → List Nat → (j : Nat) → Option (Upd × Nat)
  | [], _, _, j => some ([], j)
  | (t, true) :: cs, x, κ :: ks, j => (capOutT cs x.2 ks (boxIn t κ x.1 j).2).map fun q => ((boxIn t κ x.1 j).1 ++ q.1, q.2)
  | (_, true) :: _, _, [], _ => none
  | (_, false) :: cs, x, ks, j => capOutT cs x ks j
def outP : (ps : List Par) → OutsD ps → List ArgI → (j : Nat) → Tr V (Upd × Nat)
  | [], _, _, j => .ret ([], j)
  | .mut _ :: ps, x, _ :: as, j => outP ps x.2 as j
  | .ptr t :: ps, x, a :: as, j => match a.boxes with
    | [κ] => (outP ps x.2 as (boxIn t κ x.1 j).2).bind fun q => .ret ((boxIn t κ x.1 j).1 ++ q.1, q.2)
    | _ => .no
  | .clo _ caps :: ps, x, a :: as, j => match capOutT caps x.1 a.boxes j with
    | some (u, j1) => (outP ps x.2 as j1).bind fun q => .ret (u ++ q.1, q.2)
    | none => .no
  | .val _ :: ps, x, _ :: as, j => outP ps x as j
  | .own _ :: ps, x, _ :: as, j => outP ps x as j
  | .cptr _ :: ps, x, _ :: as, j => outP ps x as j
  | .pptr t :: ps, x, a :: as, j => match a.boxes with
    | [κ] => (outP ps x.2 as (boxIn t κ x.1 j).2).bind fun q => .ret ((boxIn t κ x.1 j).1 ++ q.1, q.2)
    | _ => .no
  | .rclo _ caps :: ps, x, a :: as, j => match capOutT caps x.1 a.boxes j with
    | some (u, j1) => (outP ps x.2 as j1).bind fun q => .ret (u ++ q.1, q.2)
    | none => .no
  | _, _, [], _ => .no

/-- A result, as a value. -/
def resT1 (agg : Bool) : (r : RTy) → r.D → (j : Nat) → Tr V (CV × Upd × Nat)
  | .own t, x, j => match encO t j x with
    | (c, u, j1) => .ret (mkCV agg c, u, j1)
  | .lst t, x, j => .ret (mkCV agg (encL t x), [], j)
  | .ptr t, x, j => .ret (.s (.ptr j 0), (boxIn t j x (j + 1)).1, (boxIn t j x (j + 1)).2)
  | .optr t, x, j => .opt t x (.ret (.s .nilp, [], j)) fun y => .ret (.s (.ptr j 0), (boxIn t j y (j + 1)).1, (boxIn t j y (j + 1)).2)
  | .err, b, j => .ret (.s (.err b), [], j)
def resT (P : Program) : (rs : List RTy) → List TypeId → ResD rs → (j : Nat) → Tr V (List CV × Upd × Nat)
  | [], [], _, j => .ret ([], [], j)
  | [r], [t], x, j => (resT1 (aggB P t) r x j).bind fun p => .ret ([p.1], p.2.1, p.2.2)
  | r :: s :: rs, t :: ts, x, j => (resT1 (aggB P t) r x.1 j).bind fun p => (resT P (s :: rs) ts x.2 p.2.2).bind fun q => .ret (p.1 :: q.1, p.2.1 ++ q.2.1, q.2.2)
  | _, _, _, _ => .no

/-- Something of the result is lent. -/
def lsR : RTy → Bool
  | .lst _ => true
  | .own t | .ptr t | .optr t => !t.pure
  | .err => false
def hasLst : List RTy → Bool
  | [] => false
  | r :: rs => lsR r || hasLst rs
def capsLs : List (Ty × Bool) → Bool
  | [] => false
  | (t, b) :: cs => (b && !t.pure) || capsLs cs
/-- Something of what is written is lent. -/
def parsLs : List Par → Bool
  | [] => false
  | .mut t :: ps | .ptr t :: ps | .pptr t :: ps => !t.pure || parsLs ps
  | .clo _ caps :: ps | .rclo _ caps :: ps => capsLs caps || parsLs ps
  | _ :: ps => parsLs ps
def lends (s : Sig) : Bool := hasLst s.res || parsLs s.pars
def fitB : List Par → List PV → Bool
  | [], [] => true
  | .clo f _ :: ps, a :: as => (match a with
    | .c (.s (.clo g _)) => Nat.beq f g
    | _ => false) && fitB ps as
  | .rclo f _ :: ps, a :: as => (match a with
    | .c (.s (.clo g _)) => Nat.beq (f / 2) g
    | _ => false) && fitB ps as
  | .ptr _ :: ps, a :: as | .cptr _ :: ps, a :: as | .pptr _ :: ps, a :: as => (match a with
    | .c (.s (.ptr _ _)) => true
    | _ => false) && fitB ps as
  | _ :: ps, a :: as => (match a with
    | .c (.s (.clo _ _)) => false
    | _ => true) && fitB ps as
  | _, _ => false
def pickV (V : Nat → Sig) (as : List PV) : List Nat → Option Nat
  | [] => none
  | v :: r => bif fitB (V v).pars as then some v else pickV V as r
/-- A function value's first variable holds the pointer ahead of it. -/
def linkT : Option PV → List Par → List PV → Tr V Unit
  | pv, .rclo f _ :: ps, a :: as => match pv, a with
    | some (.c (.s (.ptr κ 0))), .c (.s (.clo _ ks0)) => match rget f ks0 with
      | some kp => (pboxT kp.1).bind fun q => bif Nat.beq q.1 κ then linkT none ps as else .no
      | none => .no
    | _, _ => .no
  | _, .ptr _ :: ps, a :: as => linkT (some a) ps as
  | _, .val _ :: ps, _ :: as | _, .own _ :: ps, _ :: as | _, .mut _ :: ps, _ :: as | _, .cptr _ :: ps, _ :: as | _, .clo _ _ :: ps, _ :: as | _, .pptr _ :: ps, _ :: as => linkT none ps as
  | _, _, _ => .ret ()
/-- One result stands for itself. -/
def pack : List CV → PV
  | [y] => .c y
  | ys => .tup ys
def goneAll (as : List ArgI) : Upd := as.flatMap ArgI.gone
def mutAll (as : List ArgI) : List Nat := as.flatMap fun i => plKeys i.muts
def boxAll (as : List ArgI) : List Nat := as.flatMap ArgI.boxes
def readAll (as : List ArgI) : List Nat := as.flatMap ArgI.reads
def callT (P : Program) (cands : Nat → List Nat) (key : Nat) (g : Nat) (as : List PV) : T V := match pickV V as (cands g), P.funcs[g]? with
  | some v, some fn => bif Nat.beq (V v).fn g then
      (argsT P (lends (V v)) fn.params.toList (V v).pars as).bind fun x => (linkT none (V v).pars as).bind fun _ => bif nodupB (keysOf (goneAll x.2) ++ mutAll x.2) && (nodupB (boxAll x.2) && (readAll x.2).all fun κ => !((keysOf (goneAll x.2) ++ mutAll x.2).any (Nat.beq κ))) then
        .call v x.1 fun r => (outM (V v).pars r.2 x.2).bind fun mu => (resT P (V v).res fn.resultTypes.toList r.1 key).bind fun p => (outP (V v).pars r.2 x.2 p.2.2).bind fun q =>
          freshN (q.2 - key) key (.ret (pack p.1, goneAll x.2 ++ (mu ++ (p.2.1 ++ q.1))))
      else .no
    else .no
  | _, _ => .no

/-! ## 8b. Maps -/
/-- What stands under a text. -/
def getM {α : Type} (s : ByteArray) (d : α) : List (ByteArray × α) → α
  | [] => d
  | e :: r => bif s.toList == e.1.toList then e.2 else getM s d r
def setM {α : Type} (s : ByteArray) (x : α) : List (ByteArray × α) → List (ByteArray × α)
  | [] => [(s, x)]
  | e :: r => bif s.toList == e.1.toList then (s, x) :: r else e :: setM s x r
def delM {α : Type} (s : ByteArray) : List (ByteArray × α) → List (ByteArray × α)
  | [] => []
  | e :: r => bif s.toList == e.1.toList then r else e :: delM s r
def keysM {α : Type} (es : List (ByteArray × α)) : List ByteArray := es.map (·.1)
theorem sortB_is : ∃ f : List ByteArray → List ByteArray, f = fun l => ((l.map fun s => s.data.toList).mergeSort fun x y => decide (x ≤ y)).map fun l => ⟨l.toArray⟩ := ⟨_, rfl⟩
/-- Texts, ascending. (Told by choice.) -/
noncomputable def sortB : List ByteArray → List ByteArray := sortB_is.choose
/-- The type of what stands in a map under texts. -/
def mapTy (P : Program) (t : TypeId) : Option TypeId := match P.underlying t with
  | some (.map k e) => bif isStr P k then some e else none
  | _ => none
/-- The zero value is a struct. -/
def zAgg (P : Program) (e : TypeId) : Bool := match zeroB P e with
  | some (.c (.a _)) => true
  | _ => false
def makeMapT (P : Program) (key : Nat) (t : TypeId) (r : Option PV) : T V := match mapTy P t, r with
  | some e, none | some e, some (.c (.s (.int _ _))) => match tyF P 9 e with
    | some u => bif u.flat && (zeroIs P e u && (aggB P e || Nat.beq u.nc 1)) then fresh key (.ret (.sv (.mref key), [(key, .live (.mp (aggB P e) u []))])) else .no
    | none => .no
  | _, _ => .no
noncomputable def mapSetT (P : Program) (t : TypeId) (m k v : PV) : T V := match mapTy P t, m, k, v with
  | some _, .c (.s (.mref κ)), .c (.s (.str s)), .c x => .look κ fun
    | .live (.mp a u es) => bif shapeB a x && u.flat then (decR u (cvCells x)).bind fun p => match p.2 with
        | [] => .grd (limS s.size) (.ret (.un, [(κ, .live (.mp a u (setM s p.1 es)))]))
        | _ => .no
      else .no
    | _ => .no
  | _, _, _, _ => .no
def mapGetT (P : Program) (t : TypeId) (m k : PV) : T V := match mapTy P t, m, k with
  | some e, .c (.s (.mref κ)), .c (.s (.str s)) => .look κ fun
    | .live (.mp a u es) => bif u.flat && (zeroIs P e u && ((zAgg P e == a) && (a || Nat.beq u.nc 1))) then .ret (.c (mkCV a (encL u (getM s u.dflt es))), []) else .no
    | _ => .no
  | _, _, _ => .no
def mapDelT (P : Program) (t : TypeId) (m k : PV) : T V := match mapTy P t, m, k with
  | some _, .c (.s (.mref κ)), .c (.s (.str s)) => .look κ fun
    | .live (.mp a u es) => .ret (.tup [], [(κ, .live (.mp a u (delM s es)))])
    | _ => .no
  | _, _, _ => .no
/-- maps.Keys, and slices.Sorted at what it hands back: the virtual functions 1999999001 and 1999999002; the iterator is 1999999003. -/
def keysT (g1 : Nat) : List PV → T V
  | [.c (.s (.mref κ))] => .look κ fun
    | .live (.mp _ _ _) => .ret (.sv (.mkeys g1 κ), [])
    | _ => .no
  | _ => .no
noncomputable def sortedT (key g1 : Nat) : List PV → T V
  | [.c (.s (.mkeys g κ))] => .look κ fun
    | .live (.mp _ _ es) => bif Nat.beq g g1 then fresh key (.grd (lim (keysM es).length 16) (.ret (.sv (.own key), [(key, .live (.row .str (sortB (keysM es)) 0))]))) else .no
    | _ => .no
  | _ => .no
noncomputable def callM (P : Program) (cands : Nat → List Nat) (key g : Nat) (as : List PV) : T V :=
  bif Nat.beq g (V 1999999001).fn && !(Nat.beq g 0) then keysT (V 1999999003).fn as
  else bif Nat.beq g (V 1999999002).fn && !(Nat.beq g 0) then sortedT key (V 1999999003).fn as
  else callT P cands key g as

/-! ## 9. One operation -/
def evalP (tmps : List PV) : Operand → PV
  | .tmp t => tmps.getD t .un
  | .const v => pvOf v
  | .global _ => .un
  | .func f => .c (.s (.clo f []))
/-- The parts of a literal. -/
def partsOf (ρ : Operand → PV) : List (Nat × Operand) → Option (List (Nat × CV))
  | [] => some []
  | (i, x) :: r => match ρ x, partsOf ρ r with
    | .c v, some l => bif okCV v then some ((i, v) :: l) else none
    | _, _ => none
def ptrKeys : List PV → Option (List Nat)
  | [] => some []
  | .c (.s (.ptr κ 0)) :: r => (ptrKeys r).map (κ :: ·)
  | _ => none
noncomputable def opT (P : Program) (cands : Nat → List Nat) (key : Nat) (ρ : Operand → PV) : Op → T V
  | .move x | .assign x => .ret (ρ x, [])
  | .pick c a b => match ρ c with
    | .c (.s (.bool t)) => .ite t (.ret (ρ a, [])) (.ret (ρ b, []))
    | _ => .no
  | .alloc e => match zeroB P e with
    | some (.c z) => bif okCV z then fresh key (.ret (.sv (.ptr key 0), [(key, .live (.box (cvCells z)))])) else .no
    | _ => .no
  | .box _ x => match ρ x with
    | .c v => bif okCV v then fresh key (.ret (.sv (.ptr key 0), [(key, .live (.box (cvCells v)))])) else .no
    | _ => .no
  | .build t ps => match partsOf ρ ps.toList with
    | some l => buildT P t l
    | none => .no
  | .buildSlice t n ps => match partsOf ρ ps.toList with
    | some l => buildSliceT P key t n l
    | none => .no
  | .load t a => match ρ a with
    | .c (.s x) => loadT P t x
    | _ => .no
  | .store t a x => match ρ a, ρ x with
    | .c (.s p), .c v => storeT P t p v
    | _, _ => .no
  | .nilCheck x => match ρ x with
    | .c (.s (.ptr κ o)) => val (.ptr κ o)
    | .c (.s (.rptr κ i o)) => val (.rptr κ i o)
    | .c (.s (.lptr t xs i o)) => val (.lptr t xs i o)
    | .c (.s (.vptr κ ver i l j o)) => val (.vptr κ ver i l j o)
    | .c (.s (.clo f c)) => val (.clo f c)
    | _ => .no
  | .binOp op t x y _ => binT P op t (match y with | .const _ => true | _ => false) (ρ x) (ρ y)
  | .unOp op _ x => unT op (ρ x)
  | .convert s d x => convT P key s d (ρ x)
  | .makeFunc fn first cap => match fn with
    | .func f => bif Nat.beq first.size 0 then
        match ptrKeys (cap.toList.map ρ) with
        | some ks => val (.clo f ks)
        | none => .no
      else .no
    | _ => .no
  | .makeSlice t l c => match ρ l, ρ c with
    | .c (.s (.int .i64 n)), .c (.s (.int .i64 m)) => makeSliceT P key t n m
    | _, _ => .no
  | .slice t x lo hi mx => match mx with
    | none => sliceT P t (ρ x) (lo.map ρ) (hi.map ρ)
    | some _ => .no
  | .fieldAddr t x f => fieldAddrT P t (ρ x) f
  | .field t x f => fieldT P t (ρ x) f
  | .indexAddr t x i => match ρ i with
    | .c (.s (.int _ n)) => indexAddrT P t (ρ x) n
    | _ => .no
  | .index t x i => match ρ x, ρ i with
    | .c (.s (.str s)), .c (.s (.int _ n)) => bif isStr P t then .grd (decide (0 ≤ n) && decide (n < (s.size : Int))) (val (.int .u8 (bt s n.toNat))) else .no
    | _, _ => .no
  | .extract x i => match ρ x with
    | .tup xs => match xs[i]? with
      | some v => .ret (.c v, [])
      | none => .no
    | _ => .no
  | .makeMap t r => makeMapT P key t (r.map ρ)
  | .mapUpdate t m k x => mapSetT P t (ρ m) (ρ k) (ρ x)
  | .insert t m k x => mapSetT P t (ρ m) (ρ k) (ρ x)
  | .lookup t x i ok => bif ok then .no else mapGetT P t (ρ x) (ρ i)
  | .call c => match c.callee with
    | .builtin .len => match c.args.toList, c.argTypes.toList with
      | [x], t :: _ => lenT P t (ρ x)
      | _, _ => .no
    | .builtin .append => match c.args.toList, c.argTypes.toList with
      | [s, x], st :: xt :: _ => match ρ s, ρ x with
        | .c (.s a), .c (.s b) => appendT P key st xt a b
        | _, _ => .no
      | _, _ => .no
    | .builtin .clear => match c.args.toList, c.argTypes.toList with
      | [s], st :: _ => match ρ s with
        | .c (.s a) => clearT P st a
        | _ => .no
      | _, _ => .no
    | .builtin .delete => match c.args.toList, c.argTypes.toList with
      | [m, k], t :: _ => mapDelT P t (ρ m) (ρ k)
      | _, _ => .no
    | .builtin .min => match c.args.toList with
      | [x, y] => match ρ x, ρ y with
        | .c (.s (.int k a)), .c (.s (.int l b)) => bif decide (k = l) then val (.int k (bif decide (b < a) then b else a)) else .no
        | _, _ => .no
      | _ => .no
    | .builtin .max => match c.args.toList with
      | [x, y] => match ρ x, ρ y with
        | .c (.s (.int k a)), .c (.s (.int l b)) => bif decide (k = l) then val (.int k (bif decide (b > a) then b else a)) else .no
        | _, _ => .no
      | _ => .no
    | .value f => match ρ f with
      | .c (.s (.clo g caps)) => callM P cands key g ((c.args.toList.map ρ) ++ caps.map fun κ => .sv (.ptr κ 0))
      | _ => .no
    | _ => .no
  | _ => .no
end

/-! ## 10. Code -/
inductive Ex where
  | normal
  | exit (id : Nat)
  | ret
structure St where
  tmps : List PV
  heap : Heap
section
variable {V : Nat → Sig} {R : Type}
def St.put (σ : St) (d : Option Nat) (v : PV) : St := match d with
  | some d => { σ with tmps := σ.tmps.set d v }
  | none => σ
/-- The slot that a guard asks. -/
def guardSlot (ops : List Oper) (j : Nat) : Option Nat := match ops[j]? with
  | some o => o.dst
  | none => none
/-- What an operation did: which keys it wrote, which it read. -/
structure Foot where
  wr : List Nat
  rd : List Nat
def disj (a b : List Nat) : Bool := a.all fun x => !(b.any (Nat.beq x))
def footOk (a b : Foot) : Bool := disj a.wr (b.wr ++ b.rd) && disj b.wr a.rd
/-- No two operations, neither of which waits for the other, touch what the other writes. -/
def footsOk (ops : Array Oper) (fs : List Foot) : Bool :=
  let bef := Region.before ops
  fs.zipIdx.all fun (f, j) => fs.zipIdx.all fun (g, i) => Nat.ble j i || (bef.getD j 0).testBit i || footOk g f
variable (P : Program) (cands : Nat → List Nat) (F : Tr.Fs V)
noncomputable def denOps (rid : Nat) (all : List Oper) : List Oper → (i : Nat) → St → List Foot → (St → List Foot → Option R) → Option R
  | [], _, σ, fs, K => K σ fs
  | o :: r, i, σ, fs, K =>
    let go (σ : St) : Option R := (opT (V := V) P cands (16 * (64 * rid + i)) (evalP σ.tmps) o.op).cps F σ.heap
      (fun e rd => denOps rid all r (i + 1) { (σ.put o.dst e.1) with heap := σ.heap.upd e.2 } (fs ++ [⟨keysOf e.2, rd⟩]) K) []
    let skip (σ : St) : Option R := denOps rid all r (i + 1) (σ.put o.dst (.tup [])) (fs ++ [⟨[], []⟩]) K
    match o.guard with
    | none => go σ
    | some (j, want) => match guardSlot all j with
      | none => none
      | some g => match σ.tmps.getD g .un with
        | .c (.s (.bool b)) => bif b then (bif want then go (σ.put (some g) (.sv (.bool true))) else skip (σ.put (some g) (.sv (.bool true))))
            else (bif want then skip (σ.put (some g) (.sv (.bool false))) else go (σ.put (some g) (.sv (.bool false))))
        | .tup [] => skip σ
        | _ => none
/-- A loop, from a head whose state is told already. -/
def denLoop (body : (Ex → St → Option R) → St → Option R) (norm : St → Option St) (K : Ex → St → Option R) : Nat → Option St → Option R
  | 0, _ => none
  | _ + 1, none => none
  | n + 1, some σ => body (fun e σ' => match e with
      | .normal => denLoop body norm K n (norm σ')
      | e => K e σ') σ
/-- What a loop is handed: its body, how its head tells the state anew, what follows. -/
structure LoopI (R : Type) where
  body : (Ex → St → Option R) → St → Option R
  norm : St → Option St
  K : Ex → St → Option R
abbrev LoopOp (R : Type) := Nat → LoopI R → Nat → Option St → Option R
def loopOp (R : Type) : LoopOp R := fun _ l n σ => denLoop l.body l.norm l.K n σ
/-- One round. -/
def roundOf (L : LoopOp R) (bid : Nat) (l : LoopI R) (n : Nat) (σ : St) : Option R := l.body (fun e σ' => match e with
  | .normal => L bid l n (l.norm σ')
  | e => l.K e σ') σ
/-- The state where this truth is known. -/
def St.know (σ : St) (c : Operand) (b : Bool) : St := match c with
  | .tmp i => { σ with tmps := σ.tmps.set i (.sv (.bool b)) }
  | _ => σ
/-- The block a stands as a place where ways meet: what follows it is told once, as a loop of one round. -/
def joinN (norm : Nat → St → Option St) (id : Nat) : Option Nat := match norm (2000000 + id) { tmps := [], heap := fun _ => .free } with
  | some _ => some (1000000 + id)
  | none => none
def regOf : Code → Option Nat
  | .region rid _ _ => some rid
  | .seq a b => match regOf a with
    | some r => some r
    | none => regOf b
  | .cond _ x y => match regOf x with
    | some r => some r
    | none => regOf y
  | .block _ x | .loop x => regOf x
  | _ => none
def joinB (norm : Nat → St → Option St) (a : Code) : Option Nat := match a with
  | .block id _ => joinN norm id
  | .cond _ x y => match regOf (.seq x y) with
    | some r => joinN norm (500000 + r)
    | none => none
  | .seq _ b => joinB norm b
  | .region rid _ _ => joinN norm (700000 + rid)
  | _ => none
def seqN (L : LoopOp R) (k : Nat) (norm : Nat → St → Option St) (j : Option Nat) (B : St → Option R) (K : Ex → St → Option R) (σ : St) : Option R := match j with
  | none => B σ
  | some J => L J ⟨fun _ σ' => B σ', norm J, K⟩ k (norm J σ)
def joinIs (j : Option Nat) (t : Nat) : Bool := match j with
  | none => false
  | some J => Nat.beq J t
/-- 'bid': the block that stands around; 'norm bid': how the state is told anew at a loop's head; 'L': what a loop does. -/
noncomputable def den (L : LoopOp R) (k : Nat) (norm : Nat → St → Option St) : Code → (bid : Nat) → (K : Ex → St → Option R) → St → Option R
  | .skip, _, K, σ => K .normal σ
  | .region rid ops draw, _, K, σ => denOps P cands F rid ops.toList ops.toList 0 σ [] fun σ' fs =>
      bif !draw || (Region.lexB .any ops && footsOk ops fs) then K .normal σ' else none
  | .seq a b, bid, K, σ => den L k norm a bid (fun e σ' => match e with
      | .normal => seqN L k norm (joinB norm a) (fun σ'' => den L k norm b bid K σ'') K σ'
      | e => K e σ') σ
  | .cond c x y, bid, K, σ => match evalP σ.tmps c with
      | .c (.s (.bool t)) => bif t then den L k norm x bid K (σ.know c true) else den L k norm y bid K (σ.know c false)
      | _ => none
  | .block id body, _, K, σ => den L k norm body id (fun e σ' => match e with
      | .exit j => bif Nat.beq j id then K .normal σ' else K (.exit j) σ'
      | e => K e σ') σ
  | .loop body, bid, K, σ => L bid ⟨fun K' σ' => den L k norm body bid K' σ', norm bid, K⟩ k (norm bid σ)
  | .exit id, _, K, σ => K (.exit id) σ
  | .ret, _, K, σ => K .ret σ
  | _, _, _, _ => none
end

/-- The loop that stands in block 't'; 'ns': the rounds that the loops around it have left, the inmost last. -/
noncomputable def locate (P : Program) (cands : Nat → List Nat) {V : Nat → Sig} {R : Type} (F : Tr.Fs V) (L : LoopOp R) (k : Nat) (norm : Nat → St → Option St) (t : Nat) : Code → (bid : Nat) → (K : Ex → St → Option R) → (ns : List Nat) → Option (LoopI R)
  | .seq a b, bid, K, ns => match locate P cands F L k norm t a bid (fun e σ' => match e with
      | .normal => seqN L k norm (joinB norm a) (fun σ'' => den P cands F L k norm b bid K σ'') K σ'
      | e => K e σ') ns with
    | some r => some r
    | none => bif joinIs (joinB norm a) t then some ⟨fun _ σ'' => den P cands F L k norm b bid K σ'', norm t, K⟩
      else locate P cands F L k norm t b bid K ns
  | .cond _ x y, bid, K, ns => match locate P cands F L k norm t x bid K ns with
    | some r => some r
    | none => locate P cands F L k norm t y bid K ns
  | .block id body, _, K, ns => locate P cands F L k norm t body id (fun e σ' => match e with
      | .exit j => bif Nat.beq j id then K .normal σ' else K (.exit j) σ'
      | e => K e σ') ns
  | .loop body, bid, K, ns => bif Nat.beq bid t then some ⟨fun K' σ' => den P cands F L k norm body bid K' σ', norm bid, K⟩
    else match ns with
      | [] => none
      | n :: ns => locate P cands F L k norm t body bid (fun e σ' => match e with
        | .normal => L bid ⟨fun K' σ' => den P cands F L k norm body bid K' σ', norm bid, K⟩ n (norm bid σ')
        | e => K e σ') ns
  | _, _, _, _ => none

/-! ## 11. How a loop's head tells the state anew -/
inductive Form where
  | v
  | row (t : Ty)
  /-- a slice that is read from now on -/
  | lst (t : Ty)
/-- What is told of a kept place leans on kept keys alone. -/
def svIn (ks : List Nat) : SV → Bool
  | .own κ | .sub κ _ _ | .ptr κ _ | .rptr κ _ _ | .mref κ | .mkeys _ κ => ks.any (Nat.beq κ)
  | .clo _ l => l.all fun κ => ks.any (Nat.beq κ)
  | .view _ _ _ _ | .vptr _ _ _ _ _ _ => false
  | _ => true
def cvIn (ks : List Nat) : CV → Bool
  | .s x => svIn ks x
  | .a cs => cs.all (svIn ks)
def pvIn (ks : List Nat) : PV → Bool
  | .c x => cvIn ks x
  | .tup xs => xs.all (cvIn ks)
/-- A kept place: what it is told now; its row; the key whose row that was. -/
def formT (h : Heap) (ids : List Nat) (key : Nat) (x : SV) : Form → Option (SV × Upd × List Nat)
  | .v => bif svIn ids x then some (x, [], []) else none
  | .row t => match x with
    | .nils => some (.own key, [(key, .live (.row t [] 0))], [])
    | .own κ => match h κ with
      | .live (.row u xs _) => match castW u t xs with
        | some ys => some (.own key, [(key, .live (.row t ys 0))], [κ])
        | none => none
      | _ => none
    | .sub κ lo hi => match h κ with
      | .live (.row u xs _) => match castW u t xs with
        | some ys => some (.own key, [(key, .live (.row t ((ys.drop lo).take (hi - lo)) 0))], [κ])
        | none => none
      | _ => none
    | _ => none
  | .lst t => match x with
    | .nils => some (.lst t [], [(key, .gone)], [])
    | .lst u xs => match castE u t xs with
      | some ys => some (.lst t ys, [(key, .gone)], [])
      | none => none
    | .own κ => match h κ with
      | .live (.row u xs _) => match castE u t xs with
        | some ys => some (.lst t ys, [(key, .gone)], [κ])
        | none => none
      | .live (.lent u xs) => match castE u t xs with
        | some ys => some (.lst t ys, [(key, .gone)], [])
        | none => none
      | _ => none
    | .sub κ lo hi => match h κ with
      | .live (.row u xs _) => match castE u t xs with
        | some ys => some (.lst t ((ys.drop lo).take (hi - lo)), [(key, .gone)], [κ])
        | none => none
      | .live (.lent u xs) => match castE u t xs with
        | some ys => some (.lst t ((ys.drop lo).take (hi - lo)), [(key, .gone)], [])
        | none => none
      | _ => none
    | _ => none
structure Hint where
  slots : List (Nat × Form)
  /-- slots that hold structs, cell by cell -/
  aggs : List (Nat × List (Nat × Form))
  boxes : List (Nat × List (Nat × Form))
def isRow : Form → Bool
  | .row _ => true
  | _ => false
/-- 'ids': the keys that are kept as they are. -/
def normSlots (h : Heap) (ids : List Nat) (tmps : List PV) : List (Nat × Form) → List PV → Upd → List Nat → Option (List PV × Upd × List Nat)
  | [], out, u, ks => some (out, u, ks)
  | (s, f) :: r, out, u, ks => match tmps.getD s .un with
    | .c (.s x) => match formT h ids (1000000 + s) x f with
      | some (y, v, l) => normSlots h ids tmps r (out.set s (.sv y)) (u ++ v) (ks ++ l)
      | none => none
    | y => bif !isRow f && pvIn ids y then normSlots h ids tmps r (out.set s y) u ks else none
def normCells (h : Heap) (ids : List Nat) (κ : Nat) (cs : List SV) : List (Nat × Form) → List SV → Upd → List Nat → Option (List SV × Upd × List Nat)
  | [], out, u, ks => some (out, u, ks)
  | (c, f) :: r, out, u, ks => match formT h ids (2000000 + 64 * κ + c) (cs.getD c .undef) f with
    | some (y, v, l) => normCells h ids κ cs r (out.set c y) (u ++ v) (ks ++ l)
    | none => none
def normAggs (h : Heap) (ids : List Nat) (tmps : List PV) : List (Nat × List (Nat × Form)) → List PV → Upd → List Nat → Option (List PV × Upd × List Nat)
  | [], out, u, ks => some (out, u, ks)
  | (s, fs) :: r, out, u, ks => match tmps.getD s .un with
    | .c (.a cs) => match normCells h ids (40000 + s) cs fs (List.replicate cs.length .undef) u ks with
      | some (cs', u', ks') => normAggs h ids tmps r (out.set s (.c (.a cs'))) u' ks'
      | none => none
    | _ => none
def normBoxes (h : Heap) (ids : List Nat) : List (Nat × List (Nat × Form)) → Upd → List Nat → Option (Upd × List Nat)
  | [], u, ks => some (u, ks)
  | (κ, fs) :: r, u, ks => match h κ with
    | .live (.box cs) => match normCells h ids κ cs fs (List.replicate cs.length .undef) u ks with
      | some (cs', u', ks') => normBoxes h ids r (u' ++ [(κ, .live (.box cs'))]) (ks' ++ [κ])
      | none => none
    | .live (.cbox cs) => bif cs.all (svIn ids) then normBoxes h ids r (u ++ [(κ, .live (.cbox cs))]) (ks ++ [κ]) else none
    | .live (.row t xs _) => normBoxes h ids r (u ++ [(κ, .live (.row t xs 0))]) (ks ++ [κ])
    | .live (.mp a t es) => normBoxes h ids r (u ++ [(κ, .live (.mp a t es))]) (ks ++ [κ])
    | _ => none
def normSt (H : Nat → Hint) (bid : Nat) (σ : St) : Option St :=
  match normSlots σ.heap ((H bid).boxes.map (·.1)) σ.tmps (H bid).slots (List.replicate σ.tmps.length .un) [] [] with
  | none => none
  | some (tmps, u, ks) => match normAggs σ.heap ((H bid).boxes.map (·.1)) σ.tmps (H bid).aggs tmps u ks with
    | none => none
    | some (tmps, u, ks) => match normBoxes σ.heap ((H bid).boxes.map (·.1)) (H bid).boxes u ks with
      | none => none
      | some (u', ks') => bif nodupB ks' && nodupB (keysOf u') then some { tmps := tmps, heap := Heap.upd (fun _ => .free) u' } else none

/-! ## 12. Functions -/
section
variable {V : Nat → Sig}
def outKey (i : Nat) : Nat := 3000000 + 64 * i
def capKeys : Nat → List (Ty × Bool) → List Nat
  | _, [] => []
  | κ, _ :: r => κ :: capKeys (κ + 8) r
def Ty.leaves : Ty → Nat
  | .sl _ => 1
  | .pr a b => a.leaves + b.leaves
  | _ => 0
/-- There are keys enough. -/
def parB : Par → Bool
  | .own t | .ptr t | .mut t => Nat.ble t.leaves 60
  | .clo _ caps => Nat.ble caps.length 8 && caps.all fun c => Nat.ble c.1.leaves 6
  | .pptr t => Nat.ble t.leaves 18
  | .rclo _ caps => Nat.ble caps.length 7 && caps.all fun c => Nat.ble c.1.leaves 6
  | _ => true
/-- The keys of what is told at the end. -/
def capOuts : Nat → List (Ty × Bool) → List Nat
  | _, [] => []
  | κ, (_, true) :: r => κ :: capOuts (κ + 8) r
  | κ, (_, false) :: r => capOuts (κ + 8) r
def seqK : Nat → Nat → List Nat
  | 0, _ => []
  | n + 1, j => j :: seqK n (j + 1)
def outsK : Nat → List Par → List Nat
  | _, [] => []
  | i, .mut t :: ps => seqK t.leaves (outKey i) ++ outsK (i + 1) ps
  | i, .ptr _ :: ps => outKey i :: outsK (i + 1) ps
  | i, .clo _ caps :: ps => capOuts (outKey i) caps ++ outsK (i + 1) ps
  | i, .val _ :: ps => outsK (i + 1) ps
  | i, .own _ :: ps => outsK (i + 1) ps
  | i, .cptr _ :: ps => outsK (i + 1) ps
  | i, .pptr _ :: ps => outKey i :: outsK (i + 1) ps
  | i, .rclo _ caps :: ps => capOuts (outKey i + 8) caps ++ outsK (i + 1) ps
/-- A loop's head keeps what is told at the end. -/
def normF (os : List Nat) (H : Nat → Hint) (bid : Nat) (σ : St) : Option St :=
  bif Nat.ble 2000000 bid then (match (H bid).slots with
    | [] => none
    | _ :: _ => some σ)
  else bif os.all (fun κ => ((H bid).boxes.map (·.1)).any (Nat.beq κ)) then normSt H bid σ else none
/-- The parameters, as the callee finds them. -/
def parIn (agg : Bool) : (i : Nat) → (p : Par) → p.D → PV × Upd
  | _, .val t, x => (.c (mkCV agg (encL t x)), [])
  | i, .own t, x => match encO t (outKey i) x with
    | (c, u, _) => (.c (mkCV agg c), u)
  | i, .mut t, x => match encO t (outKey i) x with
    | (c, u, _) => (.c (mkCV agg c), u)
  | i, .ptr t, x => (.sv (.ptr (outKey i) 0), (boxIn t (outKey i) x (outKey i + 1)).1)
  | i, .cptr t, x => (.sv (.ptr (outKey i) 0), [(outKey i, .live (.cbox (encL t x)))])
  | i, .clo f caps, x => (.sv (.clo f (capKeys (outKey i) caps)), capIn (outKey i) caps x)
  | i, .pptr t, x => (.sv (.ptr (outKey i + 20) 0), (boxIn t (outKey i) x (outKey i + 1)).1 ++ [(outKey i + 20, .live (.cbox [.ptr (outKey i) 0]))])
  | i, .rclo f caps, x => (.sv (.clo (f / 2) (rput f (outKey i) (capKeys (outKey i + 8) caps))), [(outKey i, .live (.cbox [.ptr (outKey (i - 1)) 0]))] ++ capIn (outKey i + 8) caps x)
where capIn : Nat → (caps : List (Ty × Bool)) → CapsD caps → Upd
  | _, [], _ => []
  | κ, (t, true) :: r, x => (boxIn t κ x.1 (κ + 1)).1 ++ capIn (κ + 8) r x.2
  | κ, (t, false) :: r, x => (κ, .live (.cbox (encL t x.1))) :: capIn (κ + 8) r x.2
def parsIn (P : Program) : (i : Nat) → (ts : List TypeId) → (ps : List Par) → ArgsD ps → List PV × Upd
  | _, _, [], _ => ([], [])
  | i, ts, p :: ps, x => match parIn (headAgg P ts) i p x.1, parsIn P (i + 1) ts.tail ps x.2 with
    | (v, u), (vs, us) => (v :: vs, u ++ us)
/-- A result's value. -/
def resVal (P : Program) (σ : St) : ResultVar → Tr V CV
  | .tmp t => match σ.tmps.getD t .un with
    | .c x => bif okCV x then .ret x else .no
    | _ => .no
  | .cell a t => match σ.tmps.getD a .un with
    | .c (.s x) => (loadT P t x).bind fun e => match e.1 with
      | .c y => bif okCV y then .ret y else .no
      | _ => .no
    | _ => .no
def retT1 (agg : Bool) : (r : RTy) → CV → Tr V (r.D × Upd × List Nat)
  | .own t, x => bif shapeB agg x then (decO t (cvCells x)).bind fun p => match p.2.1 with
    | [] => .ret (p.1, p.2.2, [])
    | _ => .no
    else .no
  | .lst t, x => bif shapeB agg x then (decR t (cvCells x)).bind fun p => match p.2 with
    | [] => .ret (p.1, [], keysIn (cvCells x))
    | _ => .no
    else .no
  | .ptr t, .s (.ptr κ 0) => (boxT t κ).bind fun p => .ret (p.1, p.2, [])
  | .optr _, .s .nilp => .ret (none, [], [])
  | .optr t, .s (.ptr κ 0) => (boxT t κ).bind fun p => .ret (some p.1, p.2, [])
  | .err, .s (.err b) => .ret (b, [], [])
  | _, _ => .no
def retT (P : Program) (σ : St) : (rs : List RTy) → List TypeId → List ResultVar → Tr V (ResD rs × Upd × List Nat)
  | [], [], [] => .ret ((), [], [])
  | [r], [t], [x] => (resVal P σ x).bind fun cs => retT1 (aggB P t) r cs
  | r :: s :: rs, t :: ts, x :: xs => (resVal P σ x).bind fun cs => (retT1 (aggB P t) r cs).bind fun p => (retT P σ (s :: rs) ts xs).bind fun q => .ret ((p.1, q.1), p.2.1 ++ q.2.1, p.2.2 ++ q.2.2)
  | _, _, _ => .no
/-- What the slices of an argument that is written hold at the end. -/
def decL : (t : Ty) → (j : Nat) → Tr V (t.D × Upd × Nat)
  | .sl u, j => .look j fun
    | .live (.row t xs _) => (Tr.ofOpt (castL t u xs)).bind fun ys => .ret (ys, [(j, .gone)], j + 1)
    | _ => .no
  | .pr a b, j => (decL a j).bind fun p => (decL b p.2.2).bind fun q => .ret ((p.1, q.1), p.2.1 ++ q.2.1, q.2.2)
  | .int k, j => .ret (Ty.dflt (.int k), [], j)
  | .bool, j => .ret (Ty.dflt .bool, [], j)
  | .str, j => .ret (Ty.dflt .str, [], j)
  | .ls _, _ => .no
  | .one, j => .ret (Ty.dflt .one, [], j)
def capOut : (κ : Nat) → (caps : List (Ty × Bool)) → Tr V (CapOutD caps × Upd)
  | _, [] => .ret ((), [])
  | κ, (t, true) :: r => (boxT t κ).bind fun p => (capOut (κ + 8) r).bind fun q => .ret ((p.1, q.1), p.2 ++ q.2)
  | κ, (_, false) :: r => capOut (κ + 8) r
def outs : (i : Nat) → (ps : List Par) → Tr V (OutsD ps × Upd)
  | _, [] => .ret ((), [])
  | i, .mut t :: ps => (decL t (outKey i)).bind fun p => (outs (i + 1) ps).bind fun q => .ret ((p.1, q.1), p.2.1 ++ q.2)
  | i, .ptr t :: ps => (boxT t (outKey i)).bind fun p => (outs (i + 1) ps).bind fun q => .ret ((p.1, q.1), p.2 ++ q.2)
  | i, .clo _ caps :: ps => (capOut (outKey i) caps).bind fun p => (outs (i + 1) ps).bind fun q => .ret ((p.1, q.1), p.2 ++ q.2)
  | i, .val _ :: ps => outs (i + 1) ps
  | i, .own _ :: ps => outs (i + 1) ps
  | i, .cptr _ :: ps => outs (i + 1) ps
  | i, .pptr t :: ps => (boxT t (outKey i)).bind fun p => (outs (i + 1) ps).bind fun q => .ret ((p.1, q.1), p.2 ++ q.2)
  | i, .rclo _ caps :: ps => (capOut (outKey i + 8) caps).bind fun p => (outs (i + 1) ps).bind fun q => .ret ((p.1, q.1), p.2 ++ q.2)
def finT (P : Program) (fn : Func) (s : Sig) (σ : St) : Tr V s.RetD :=
  (retT P σ s.res fn.resultTypes.toList fn.results.toList).bind fun p => (outs 0 s.pars).bind fun q =>
    bif nodupB (keysOf p.2.1 ++ keysOf q.2) && p.2.2.all (fun κ => !((keysOf p.2.1 ++ keysOf q.2).any (Nat.beq κ))) then .ret (p.1, q.1) else .no

structure Cx where
  P : Program
  V : Nat → Sig
  cands : Nat → List Nat
  hint : Nat → Nat → Hint
  ext : (v : Nat) → Option (ArgsD (V v).pars → Option (V v).RetD)

def finK (X : Cx) (F : Tr.Fs X.V) (v : Nat) (fn : Func) : Ex → St → Option (X.V v).RetD := fun e σ => match e with
  | .exit _ => none
  | _ => (finT X.P fn (X.V v) σ).cps F σ.heap (fun r _ => some r) []
noncomputable def denBody (X : Cx) (F : Tr.Fs X.V) (v : Nat) (L : LoopOp (X.V v).RetD) (k : Nat) (fn : Func) (c : Code) (x : ArgsD (X.V v).pars) : Option (X.V v).RetD :=
  match parsIn X.P 0 fn.params.toList (X.V v).pars x with
  | (ps, u) => den X.P X.cands F L k (normF (outsK 0 (X.V v).pars) (X.hint v)) c 0 (finK X F v fn)
      { tmps := ps ++ List.replicate (fn.ntmps - ps.length) (.tup []), heap := Heap.upd (fun _ => .free) u }
noncomputable def denF (X : Cx) : Nat → Tr.Fs X.V
  | 0, _, _ => none
  | k + 1, v, x => match X.ext v with
    | some f => f x
    | none => match X.P.funcs[(X.V v).fn]? with
      | some fn => match fn.body with
        | some c => bif (X.V v).pars.all parB then denBody X (denF X k) v (loopOp _) k fn c x else none
        | none => none
      | none => none
/-- The loop in block 't' of function v. -/
noncomputable def loopI (X : Cx) (F : Tr.Fs X.V) (k v : Nat) (L : LoopOp (X.V v).RetD) (t : Nat) (ns : List Nat) : Option (LoopI (X.V v).RetD) := match X.P.funcs[(X.V v).fn]? with
  | some fn => match fn.body with
    | some c => locate X.P X.cands F L k (normF (outsK 0 (X.V v).pars) (X.hint v)) t c 0 (finK X F v fn) ns
    | none => none
  | none => none
def setMany : List (Nat × PV) → List PV → List PV
  | [], l => l
  | (i, v) :: r, l => setMany r (l.set i v)
def mkSt (n : Nat) (vs : List (Nat × PV)) (u : Upd) : Option St := some { tmps := setMany vs (List.replicate n .un), heap := Heap.upd (fun _ => .free) u }
end
end Go.Den
namespace Go.Den
open Go

/-! ## 13. What cells of memory say -/
/-- Block b has these cells from off on. -/
def At (w : World) (b off : Nat) (vs : List Value) : Prop :=
  ∃ c e fr, w.heap[b]? = some (.cells c e fr) ∧ off + vs.length ≤ c.size ∧ ∀ j, (h : j < vs.length) → c[off + j]? = some vs[j]
/-- No cell of it is frozen. -/
def Mut (m : Array Value) (fr : Nat × Nat) : Prop := ∀ j, j < m.size → ¬ (fr.1 ≤ j ∧ j < fr.2)
/-- .. and it is no text's memory, unless its elements are bytes. -/
def MutR (t : Ty) (m : Array Value) (fr : Nat × Nat) : Prop := Mut m fr ∧ (t.beq (.int .u8) = false → ¬ (fr.1 ≤ m.size ∧ m.size < fr.2))
theorem MutR.zero (t : Ty) (m : Array Value) : MutR t m (0, 0) := ⟨fun j _ h => by simp at h, fun _ h => by simp at h⟩
theorem MutR.same {t : Ty} {m m' : Array Value} {fr : Nat × Nat} (h : MutR t m fr) (e : m'.size = m.size) : MutR t m' fr := ⟨fun j hj => h.1 j (by rw [← e]; exact hj), fun ht => by rw [e]; exact h.2 ht⟩

theorem At.mono {w w' : World} {b off : Nat} {vs : List Value} (h : At w b off vs) (e : w'.heap[b]? = w.heap[b]?) : At w' b off vs := by
  obtain ⟨c, t, fr, h1, h2⟩ := h
  exact ⟨c, t, fr, e.trans h1, h2⟩
theorem At.lt {w : World} {b off : Nat} {vs : List Value} (h : At w b off vs) : b < w.heap.size := by
  obtain ⟨c, t, fr, h1, _⟩ := h
  exact (Array.getElem?_eq_some_iff.1 h1).1
theorem At.cell {w : World} {b off : Nat} {vs : List Value} (h : At w b off vs) {j : Nat} (hj : j < vs.length) : w.cell? ⟨b, off + j, none⟩ = some vs[j] := by
  obtain ⟨c, t, fr, h1, _, h2⟩ := h
  simp only [World.cell?, h1]
  exact h2 j hj
/-- A part of them. -/
theorem At.part {w : World} {b off : Nat} {a vs : List Value} {z : List Value} (h : At w b off (a ++ vs ++ z)) : At w b (off + a.length) vs := by
  obtain ⟨c, t, fr, h1, h2, h3⟩ := h
  refine ⟨c, t, fr, h1, by simp at h2; omega, fun j hj => ?_⟩
  have := h3 (a.length + j) (by simp; omega)
  rw [show off + a.length + j = off + (a.length + j) by omega, this]
  simp [hj]
theorem At.left {w : World} {b off : Nat} {a z : List Value} (h : At w b off (a ++ z)) : At w b off a := by
  have : At w b off ([] ++ a ++ z) := by simpa using h
  simpa using this.part
theorem At.right {w : World} {b off : Nat} {a z : List Value} (h : At w b off (a ++ z)) : At w b (off + a.length) z := by
  have : At w b off (a ++ z ++ []) := by simpa using h
  exact this.part

/-! ### reading -/
def Rd (w : World) (fz : Nat → Prop) : (t : Ty) → List Value → t.D → Prop
  | .int k, cs, n => cs = [.int k n]
  | .bool, cs, b => cs = [.bool b]
  | .str, cs, s => cs = [.string s]
  | .sl t, cs, xs => ∃ A c, cs = [.slice A (List.length xs) c] ∧ List.length xs ≤ c ∧
      (0 < List.length xs → ∃ b off, A = some ⟨b, off, none⟩ ∧ fz b ∧ ∀ i, i < List.length xs → ∃ vs, vs.length = t.nc ∧ At w b (off + i * t.nc) vs ∧ Rd w fz t vs (nth t xs i))
  | .ls t, cs, xs => ∃ A c, cs = [.slice A (List.length xs) c] ∧ List.length xs ≤ c ∧
      (0 < List.length xs → ∃ b off, A = some ⟨b, off, none⟩ ∧ fz b ∧ ∀ i, i < List.length xs → ∃ vs, vs.length = t.nc ∧ At w b (off + i * t.nc) vs ∧ Rd w fz t vs (nth t xs i))
  | .one, cs, _ => cs = []
  | .pr a b, cs, x => ∃ c1 c2, cs = c1 ++ c2 ∧ Rd w fz a c1 x.1 ∧ Rd w fz b c2 x.2

theorem Rd.mono {w w' : World} {fz fz' : Nat → Prop} (hf : ∀ b, fz b → fz' b ∧ w'.heap[b]? = w.heap[b]?) : ∀ {t : Ty} {cs : List Value} {x : t.D}, Rd w fz t cs x → Rd w' fz' t cs x
  | .int _, _, _, h => h
  | .bool, _, _, h => h
  | .str, _, _, h => h
  | .one, _, _, h => h
  | .sl t, cs, xs, ⟨A, c, h1, h2, h3⟩ => ⟨A, c, h1, h2, fun hp => by
      obtain ⟨b, off, e, hb, hi⟩ := h3 hp
      exact ⟨b, off, e, (hf b hb).1, fun i hi' => by
        obtain ⟨vs, hl, ha, hr⟩ := hi i hi'
        exact ⟨vs, hl, ha.mono (hf b hb).2, Rd.mono hf hr⟩⟩⟩
  | .ls t, cs, xs, ⟨A, c, h1, h2, h3⟩ => ⟨A, c, h1, h2, fun hp => by
      obtain ⟨b, off, e, hb, hi⟩ := h3 hp
      exact ⟨b, off, e, (hf b hb).1, fun i hi' => by
        obtain ⟨vs, hl, ha, hr⟩ := hi i hi'
        exact ⟨vs, hl, ha.mono (hf b hb).2, Rd.mono hf hr⟩⟩⟩
  | .pr a b, cs, x, ⟨c1, c2, h1, h2, h3⟩ => ⟨c1, c2, h1, Rd.mono hf h2, Rd.mono hf h3⟩
theorem Rd.len {w : World} {fz : Nat → Prop} : ∀ {t : Ty} {cs : List Value} {x : t.D}, Rd w fz t cs x → cs.length = t.nc
  | .int _, _, _, h => by rw [show _ = _ from h]; rfl
  | .bool, _, _, h => by rw [show _ = _ from h]; rfl
  | .str, _, _, h => by rw [show _ = _ from h]; rfl
  | .one, _, _, h => by rw [show _ = _ from h]; rfl
  | .sl t, cs, xs, ⟨A, c, h1, _⟩ => by rw [h1]; rfl
  | .ls t, cs, xs, ⟨A, c, h1, _⟩ => by rw [h1]; rfl
  | .pr a b, cs, x, ⟨c1, c2, h1, h2, h3⟩ => by rw [h1, List.length_append, Rd.len h2, Rd.len h3]; rfl
/-! ### data, lent or not -/
theorem cvt_pair {α β γ δ : Type} (h1 : α = γ) (h2 : β = δ) (h : (α × β) = (γ × δ)) (x : α × β) : cast h x = (cast h1 x.1, cast h2 x.2) := by
  subst h1; subst h2; rfl
theorem cvtL_len {α β : Type} (h : α = β) (xs : List α) : (cast (congrArg List h) xs).length = xs.length := by subst h; rfl
theorem cvtL_get {α β : Type} (h : α = β) (xs : List α) (i : Nat) (d : α) : (cast (congrArg List h) xs).getD i (cast h d) = cast h (xs.getD i d) := by subst h; rfl
theorem cvtL_drop {α β : Type} (h : α = β) (xs : List α) (i j : Nat) : ((cast (congrArg List h) xs).drop i).take j = cast (congrArg List h) ((xs.drop i).take j) := by subst h; rfl
theorem cvtL_nil {α β : Type} (h : α = β) : cast (congrArg List h) ([] : List α) = [] := by subst h; rfl
theorem cvt_pr {a b c d : Ty} (h : (Ty.pr a b).eqv (Ty.pr c d) = true) (h1 : a.eqv c = true) (h2 : b.eqv d = true) (x : (Ty.pr a b).D) : cvt h x = (cvt h1 x.1, cvt h2 x.2) := cvt_pair (Ty.D_eqv h1) (Ty.D_eqv h2) (Ty.D_eqv h) x
theorem cvt_dflt : ∀ {t u : Ty} (h : t.eqv u = true), cvt h t.dflt = u.dflt
  | .int _, .int _, _ => rfl
  | .bool, .bool, _ | .str, .str, _ | .one, .one, _ => rfl
  | .sl a, .sl b, h => cvtL_nil (Ty.D_eqv (a := a) (b := b) h)
  | .sl a, .ls b, h => cvtL_nil (Ty.D_eqv (a := a) (b := b) h)
  | .ls a, .sl b, h => cvtL_nil (Ty.D_eqv (a := a) (b := b) h)
  | .ls a, .ls b, h => cvtL_nil (Ty.D_eqv (a := a) (b := b) h)
  | .pr a b, .pr c d, h => by
    have h' := h
    simp only [Ty.eqv, Bool.and_eq_true] at h'
    refine (cvt_pair (Ty.D_eqv h'.1) (Ty.D_eqv h'.2) (Ty.D_eqv h) (Ty.dflt (.pr a b))).trans ?_
    exact Prod.ext (cvt_dflt h'.1) (cvt_dflt h'.2)
theorem len_cvtL {t u : Ty} (h : t.eqv u = true) (xs : List t.D) : List.length (cvtL h xs) = List.length xs := cvtL_len (Ty.D_eqv h) xs
theorem nth_cvtL {t u : Ty} (h : t.eqv u = true) (xs : List t.D) (i : Nat) : nth u (cvtL h xs) i = cvt h (nth t xs i) := by
  unfold nth
  rw [← cvt_dflt h]
  exact cvtL_get (Ty.D_eqv h) xs i t.dflt
theorem nc_eqv : ∀ {t u : Ty}, t.eqv u = true → t.nc = u.nc
  | .int _, .int _, _ => rfl
  | .bool, .bool, _ | .str, .str, _ | .one, .one, _ => rfl
  | .sl a, .sl b, h => rfl
  | .sl a, .ls b, h => rfl
  | .ls a, .sl b, h => rfl
  | .ls a, .ls b, h => rfl
  | .pr a b, .pr c d, h => by
    simp only [Ty.eqv, Bool.and_eq_true] at h
    show a.nc + b.nc = c.nc + d.nc
    rw [nc_eqv h.1, nc_eqv h.2]
/-- What a list of items reads as. -/
def RdL (w : World) (fz : Nat → Prop) (t : Ty) (cs : List Value) (xs : List t.D) : Prop := ∃ A c, cs = [.slice A (List.length xs) c] ∧ List.length xs ≤ c ∧
      (0 < List.length xs → ∃ b off, A = some ⟨b, off, none⟩ ∧ fz b ∧ ∀ i, i < List.length xs → ∃ vs, vs.length = t.nc ∧ At w b (off + i * t.nc) vs ∧ Rd w fz t vs (nth t xs i))
theorem RdL.cvt {w : World} {fz : Nat → Prop} {a b : Ty} (h : a.eqv b = true) (ih : ∀ vs x, Rd w fz a vs x → Rd w fz b vs (cvt h x)) {cs : List Value} {xs : List a.D} (hr : RdL w fz a cs xs) : RdL w fz b cs (cvtL h xs) := by
  obtain ⟨A, c, h1, h2, h3⟩ := hr
  refine ⟨A, c, by rw [len_cvtL]; exact h1, by rw [len_cvtL]; exact h2, fun hp => ?_⟩
  rw [len_cvtL] at hp
  obtain ⟨bl, off, e, hb, hi⟩ := h3 hp
  refine ⟨bl, off, e, hb, fun i hi' => ?_⟩
  rw [len_cvtL] at hi'
  obtain ⟨vs, hl, ha, hr⟩ := hi i hi'
  exact ⟨vs, by rw [hl, nc_eqv h], by rw [← nc_eqv h]; exact ha, by rw [nth_cvtL]; exact ih _ _ hr⟩
theorem Rd.cvt {w : World} {fz : Nat → Prop} : ∀ {t u : Ty} (h : t.eqv u = true) {cs : List Value} {x : t.D}, Rd w fz t cs x → Rd w fz u cs (cvt h x)
  | .int k, .int l, h, cs, x, hr => by
    have : k = l := of_decide_eq_true h
    subst this; exact hr
  | .bool, .bool, _, _, _, hr => hr
  | .str, .str, _, _, _, hr => hr
  | .one, .one, _, _, _, hr => hr
  | .sl a, .sl b, h, cs, xs, hr => RdL.cvt (a := a) (b := b) h (fun vs x hr => Rd.cvt (t := a) (u := b) h hr) hr
  | .sl a, .ls b, h, cs, xs, hr => RdL.cvt (a := a) (b := b) h (fun vs x hr => Rd.cvt (t := a) (u := b) h hr) hr
  | .ls a, .sl b, h, cs, xs, hr => RdL.cvt (a := a) (b := b) h (fun vs x hr => Rd.cvt (t := a) (u := b) h hr) hr
  | .ls a, .ls b, h, cs, xs, hr => RdL.cvt (a := a) (b := b) h (fun vs x hr => Rd.cvt (t := a) (u := b) h hr) hr
  | .pr a b, .pr c d, h, cs, x, ⟨c1, c2, h1, h2, h3⟩ => by
    have h' := h
    simp only [Ty.eqv, Bool.and_eq_true] at h'
    rw [cvt_pr h h'.1 h'.2 x]
    exact ⟨c1, c2, h1, Rd.cvt h'.1 h2, Rd.cvt h'.2 h3⟩
theorem castE_some {t u : Ty} {xs : List t.D} {ys : List u.D} (h : castE t u xs = some ys) : ∃ e : t.eqv u = true, ys = cvtL e xs := by
  unfold castE at h
  split at h
  · rename_i e; exact ⟨e, (Option.some.inj h).symm⟩
  · cases h
theorem castW_some {t u : Ty} {xs : List t.D} {ys : List u.D} (h : castW t u xs = some ys) : ∃ e : t.weak u = true, ys = cvtL (Ty.weak_eqv e) xs := by
  unfold castW at h
  split at h
  · rename_i e; exact ⟨e, (Option.some.inj h).symm⟩
  · cases h

/-! ### owning -/
/-- 'fz': what stays as it is, and is read by whoever likes. -/
def Ow (w : World) (fz : Nat → Prop) : (t : Ty) → List Value → t.D → (Nat → Prop) → Prop
  | .int k, cs, n, φ => cs = [.int k n] ∧ ∀ b, ¬ φ b
  | .bool, cs, x, φ => cs = [.bool x] ∧ ∀ b, ¬ φ b
  | .str, cs, s, φ => cs = [.string s] ∧ ∀ b, ¬ φ b
  | .sl t, cs, xs, φ => ∃ A c, cs = [.slice A (List.length xs) c] ∧
      ((A = none ∧ List.length xs = 0 ∧ c = 0 ∧ ∀ b, ¬ φ b) ∨
       ∃ b off m e fr, ∃ ψ : Nat → Nat → Prop, A = some ⟨b, off, none⟩ ∧ w.heap[b]? = some (.cells m e fr) ∧ MutR t m fr ∧ off + c * t.nc ≤ m.size ∧ List.length xs ≤ c ∧
        (∀ i, i < List.length xs → ∃ vs, vs.length = t.nc ∧ At w b (off + i * t.nc) vs ∧ Ow w fz t vs (nth t xs i) (ψ i)) ∧
        (∀ i, i < List.length xs → ¬ ψ i b) ∧ (∀ i j b', i < List.length xs → j < List.length xs → i ≠ j → ψ i b' → ¬ ψ j b') ∧
        ∀ b', φ b' ↔ b' = b ∨ ∃ i, i < List.length xs ∧ ψ i b')
  | .ls t, cs, xs, φ => Rd w fz (.ls t) cs xs ∧ ∀ b, ¬ φ b
  | .one, cs, _, φ => cs = [] ∧ ∀ b, ¬ φ b
  | .pr a b, cs, x, φ => ∃ c1 c2, ∃ φ1 φ2 : Nat → Prop, cs = c1 ++ c2 ∧ Ow w fz a c1 x.1 φ1 ∧ Ow w fz b c2 x.2 φ2 ∧ (∀ b, φ1 b → ¬ φ2 b) ∧ ∀ b, φ b ↔ φ1 b ∨ φ2 b

theorem Ow.lt {w : World} {fz : Nat → Prop} : ∀ {t : Ty} {cs : List Value} {x : t.D} {φ : Nat → Prop}, Ow w fz t cs x φ → ∀ b, φ b → b < w.heap.size
  | .int _, _, _, _, h, b, hb => absurd hb (h.2 b)
  | .bool, _, _, _, h, b, hb => absurd hb (h.2 b)
  | .str, _, _, _, h, b, hb => absurd hb (h.2 b)
  | .ls _, _, _, _, h, b, hb => absurd hb (h.2 b)
  | .one, _, _, _, h, b, hb => absurd hb (h.2 b)
  | .sl t, cs, xs, φ, ⟨A, c, h1, h2⟩, b, hb => by
      rcases h2 with ⟨_, _, _, h⟩ | ⟨b0, off, m, e, fr, ψ, _, hm, _, _, _, hi, _, _, hφ⟩
      · exact absurd hb (h b)
      · rcases (hφ b).1 hb with rfl | ⟨i, hi', hb'⟩
        · exact (Array.getElem?_eq_some_iff.1 hm).1
        · obtain ⟨vs, _, _, ho⟩ := hi i hi'
          exact Ow.lt ho b hb'
  | .pr a b, cs, x, φ, ⟨c1, c2, φ1, φ2, _, h1, h2, _, hφ⟩, b', hb => by
      rcases (hφ b').1 hb with h | h
      · exact Ow.lt h1 b' h
      · exact Ow.lt h2 b' h
theorem Ow.mono {w w' : World} {fz fz' : Nat → Prop} : ∀ {t : Ty} {cs : List Value} {x : t.D} {φ : Nat → Prop}, Ow w fz t cs x φ → (∀ b, φ b → w'.heap[b]? = w.heap[b]?) → (∀ b, fz b → fz' b ∧ w'.heap[b]? = w.heap[b]?) → Ow w' fz' t cs x φ
  | .int _, _, _, _, h, _, _ => h
  | .bool, _, _, _, h, _, _ => h
  | .str, _, _, _, h, _, _ => h
  | .ls _, _, _, _, h, _, hf => ⟨Rd.mono hf h.1, h.2⟩
  | .one, _, _, _, h, _, _ => h
  | .sl t, cs, xs, φ, ⟨A, c, h1, h2⟩, hw, hf => by
      refine ⟨A, c, h1, ?_⟩
      rcases h2 with h | ⟨b, off, m, e, fr, ψ, ha, hm, hmu, hs, hl, hi, hd, hp, hφ⟩
      · exact .inl h
      · have hb := hw b ((hφ b).2 (.inl rfl))
        refine .inr ⟨b, off, m, e, fr, ψ, ha, hb.trans hm, hmu, hs, hl, fun i hi' => ?_, hd, hp, hφ⟩
        obtain ⟨vs, hl', ha', ho⟩ := hi i hi'
        exact ⟨vs, hl', ha'.mono hb, Ow.mono ho (fun b' hb' => hw b' ((hφ b').2 (.inr ⟨i, hi', hb'⟩))) hf⟩
  | .pr a b, cs, x, φ, ⟨c1, c2, φ1, φ2, h0, h1, h2, hd, hφ⟩, hw, hf =>
      ⟨c1, c2, φ1, φ2, h0, Ow.mono h1 (fun b' hb => hw b' ((hφ b').2 (.inl hb))) hf, Ow.mono h2 (fun b' hb => hw b' ((hφ b').2 (.inr hb))) hf, hd, hφ⟩
theorem Ow.more {w : World} {fz fz' : Nat → Prop} {t : Ty} {cs : List Value} {x : t.D} {φ : Nat → Prop} (h : Ow w fz t cs x φ) (hf : ∀ b, fz b → fz' b) : Ow w fz' t cs x φ := h.mono (fun _ _ => rfl) fun b hb => ⟨hf b hb, rfl⟩
theorem Ow.iff {w : World} {fz : Nat → Prop} : ∀ {t : Ty} {cs : List Value} {x : t.D} {φ φ' : Nat → Prop}, Ow w fz t cs x φ → (∀ b, φ' b ↔ φ b) → Ow w fz t cs x φ' := by
  intro t cs x φ φ' h e
  have : φ' = φ := funext fun b => propext (e b)
  rw [this]; exact h
theorem Ow.rd {w : World} {fz0 fz : Nat → Prop} : ∀ {t : Ty} {cs : List Value} {x : t.D} {φ : Nat → Prop}, Ow w fz0 t cs x φ → (∀ b, fz0 b → fz b) → (∀ b, φ b → fz b) → Rd w fz t cs x
  | .int _, _, _, _, h, _, _ => h.1
  | .bool, _, _, _, h, _, _ => h.1
  | .str, _, _, _, h, _, _ => h.1
  | .ls _, _, _, _, h, hf0, _ => Rd.mono (fun b hb => ⟨hf0 b hb, rfl⟩) h.1
  | .one, _, _, _, h, _, _ => h.1
  | .sl t, cs, xs, φ, ⟨A, c, h1, h2⟩, hf0, hf => by
      rcases h2 with ⟨rfl, h0, h3, _⟩ | ⟨b, off, m, e, fr, ψ, ha, hm, hmu, hs, hl, hi, hd, hp, hφ⟩
      · exact ⟨_, c, h1, by omega, fun hp => by omega⟩
      · refine ⟨A, c, h1, hl, fun _ => ⟨b, off, ha, hf b ((hφ b).2 (.inl rfl)), fun i hi' => ?_⟩⟩
        obtain ⟨vs, hl', ha', ho⟩ := hi i hi'
        exact ⟨vs, hl', ha', Ow.rd ho hf0 fun b' hb' => hf b' ((hφ b').2 (.inr ⟨i, hi', hb'⟩))⟩
  | .pr a b, cs, x, φ, ⟨c1, c2, φ1, φ2, h0, h1, h2, hd, hφ⟩, hf0, hf =>
      ⟨c1, c2, h0, Ow.rd h1 hf0 fun b' hb => hf b' ((hφ b').2 (.inl hb)), Ow.rd h2 hf0 fun b' hb => hf b' ((hφ b').2 (.inr hb))⟩
theorem Ow.len {w : World} {fz : Nat → Prop} {t : Ty} {cs : List Value} {x : t.D} {φ : Nat → Prop} (h : Ow w fz t cs x φ) : cs.length = t.nc := (h.rd (fz := fun _ => True) (fun _ _ => trivial) fun _ _ => trivial).len
theorem beq_u8_eqv {a b : Ty} (h : a.eqv b = true) : a.beq (.int .u8) = b.beq (.int .u8) := by
  cases a <;> cases b <;> first | rfl | (simp only [Ty.eqv, Bool.false_eq_true] at h) | skip
  all_goals (simp only [Ty.eqv, decide_eq_true_eq] at h; subst h; rfl)
theorem Ow.weakenL {w : World} {fz : Nat → Prop} {a b : Ty} (hab : a.weak b = true) (ih : ∀ vs (x : a.D) φ, Ow w fz a vs x φ → ∃ φ' η : Nat → Prop, Ow w (fun b => fz b ∨ η b) b vs (cvt (Ty.weak_eqv hab) x) φ' ∧ (∀ b, φ b ↔ φ' b ∨ η b) ∧ ∀ b, φ' b → ¬ η b)
    {cs : List Value} {xs : List a.D} {φ : Nat → Prop} (ho : Ow w fz (.sl a) cs xs φ) : ∃ φ' η : Nat → Prop, Ow w (fun b => fz b ∨ η b) (.sl b) cs (cvtL (Ty.weak_eqv hab) xs) φ' ∧ (∀ b, φ b ↔ φ' b ∨ η b) ∧ ∀ b, φ' b → ¬ η b := by
    obtain ⟨A, c, h1, h2⟩ := ho
    have he := Ty.weak_eqv hab
    rcases h2 with ⟨rfl, h0, h3, h4⟩ | ⟨bl, off, m, e, fr, ψ, ha, hm, hmu, hs, hl, hi, hd, hp, hφ⟩
    · refine ⟨fun _ => False, φ, ?_, fun b => ⟨.inr, fun h => h.elim False.elim id⟩, fun _ h => h.elim⟩
      exact ⟨none, c, by rw [len_cvtL]; exact h1, .inl ⟨rfl, by rw [len_cvtL]; exact h0, h3, fun _ h => h⟩⟩
    · have key : ∀ i, ∃ φ' η : Nat → Prop, i < List.length xs → ∃ vs, vs.length = a.nc ∧ At w bl (off + i * a.nc) vs ∧ Ow w (fun b => fz b ∨ η b) b vs (cvt he (nth a xs i)) φ' ∧ (∀ b, ψ i b ↔ φ' b ∨ η b) ∧ ∀ b, φ' b → ¬ η b := fun i => by
        by_cases hlt : i < List.length xs
        · obtain ⟨vs, k1, k2, k3⟩ := hi i hlt
          obtain ⟨φ', η, k4, k5, k6⟩ := ih _ _ _ k3
          exact ⟨φ', η, fun _ => ⟨vs, k1, k2, k4, k5, k6⟩⟩
        · exact ⟨fun _ => False, fun _ => False, fun h => absurd h hlt⟩
      obtain ⟨φ', key⟩ := Classical.axiomOfChoice key
      obtain ⟨η, key⟩ := Classical.axiomOfChoice key
      have hψ : ∀ i, i < List.length xs → ∀ b, ψ i b ↔ φ' i b ∨ η i b := fun i hi' => by
        obtain ⟨_, _, _, _, h, _⟩ := key i hi'; exact h
      refine ⟨fun b' => b' = bl ∨ ∃ i, i < List.length xs ∧ φ' i b', fun b' => ∃ i, i < List.length xs ∧ η i b', ?_, fun b' => ?_, fun b' h1 h2 => ?_⟩
      · show Ow w _ (.sl b) cs (cvtL he xs) _
        refine ⟨A, c, by rw [len_cvtL]; exact h1, .inr ⟨bl, off, m, e, fr, φ', ha, hm, ⟨hmu.1, fun h => hmu.2 (by rw [beq_u8_eqv he]; exact h)⟩, by rw [← nc_eqv he]; exact hs, by rw [len_cvtL]; exact hl, fun i hi' => ?_, fun i hi' hb => ?_, fun i j b' hi' hj' hne hb hb' => ?_, fun b' => by rw [len_cvtL]⟩⟩
        · rw [len_cvtL] at hi'
          obtain ⟨vs, k1, k2, k3, _⟩ := key i hi'
          refine ⟨vs, by rw [← nc_eqv he]; exact k1, by rw [← nc_eqv he]; exact k2, ?_⟩
          rw [nth_cvtL]
          exact k3.more fun b' hb => hb.imp id fun h => ⟨i, hi', h⟩
        · rw [len_cvtL] at hi'
          exact hd i hi' ((hψ i hi' bl).2 (.inl hb))
        · rw [len_cvtL] at hi' hj'
          exact hp i j b' hi' hj' hne ((hψ i hi' b').2 (.inl hb)) ((hψ j hj' b').2 (.inl hb'))
      · rw [hφ b']
        constructor
        · rintro (h | ⟨i, hi', h⟩)
          · exact .inl (.inl h)
          · rcases (hψ i hi' b').1 h with h | h
            · exact .inl (.inr ⟨i, hi', h⟩)
            · exact .inr ⟨i, hi', h⟩
        · rintro ((h | ⟨i, hi', h⟩) | ⟨i, hi', h⟩)
          · exact .inl h
          · exact .inr ⟨i, hi', (hψ i hi' b').2 (.inl h)⟩
          · exact .inr ⟨i, hi', (hψ i hi' b').2 (.inr h)⟩
      · obtain ⟨j, hj, h2⟩ := h2
        rcases h1 with rfl | ⟨i, hi', h1⟩
        · exact hd j hj ((hψ j hj b').2 (.inr h2))
        · by_cases hne : i = j
          · subst hne
            obtain ⟨_, _, _, _, _, h⟩ := key i hi'
            exact h b' h1 h2
          · exact hp i j b' hi' hj hne ((hψ i hi' b').2 (.inl h1)) ((hψ j hj b').2 (.inr h2))
/-- What is owned may be told as lent: its blocks then stay as they are. -/
theorem Ow.weaken {w : World} {fz : Nat → Prop} : ∀ {t u : Ty} (h : t.weak u = true) {cs : List Value} {x : t.D} {φ : Nat → Prop}, Ow w fz t cs x φ →
    ∃ φ' η : Nat → Prop, Ow w (fun b => fz b ∨ η b) u cs (cvt (Ty.weak_eqv h) x) φ' ∧ (∀ b, φ b ↔ φ' b ∨ η b) ∧ ∀ b, φ' b → ¬ η b
  | .int k, .int l, h, cs, x, φ, ho => by
    have : k = l := of_decide_eq_true h
    subst this
    exact ⟨φ, fun _ => False, ho, fun b => ⟨.inl, fun h => h.elim id False.elim⟩, fun _ _ h => h⟩
  | .bool, .bool, _, _, _, φ, ho => ⟨φ, fun _ => False, ho, fun b => ⟨.inl, fun h => h.elim id False.elim⟩, fun _ _ h => h⟩
  | .str, .str, _, _, _, φ, ho => ⟨φ, fun _ => False, ho, fun b => ⟨.inl, fun h => h.elim id False.elim⟩, fun _ _ h => h⟩
  | .one, .one, _, _, _, φ, ho => ⟨φ, fun _ => False, ho, fun b => ⟨.inl, fun h => h.elim id False.elim⟩, fun _ _ h => h⟩
  | .sl a, .ls b, h, cs, xs, φ, ho => by
    refine ⟨fun _ => False, φ, ⟨?_, fun _ h => h⟩, fun b => ⟨.inr, fun h => h.elim False.elim id⟩, fun _ h => h.elim⟩
    have h1 : Rd w (fun b => fz b ∨ φ b) (.sl a) cs xs := ho.rd (fun _ h => .inl h) fun _ h => .inr h
    exact Rd.cvt (t := .sl a) (u := .ls b) h h1
  | .ls a, .ls b, h, cs, xs, φ, ho => by
    refine ⟨fun _ => False, φ, ⟨?_, fun _ h => h⟩, fun b => ⟨.inr, fun h => h.elim False.elim id⟩, fun _ h => h.elim⟩
    exact Rd.cvt (t := .ls a) (u := .ls b) h (Rd.mono (fun b hb => ⟨.inl hb, rfl⟩) ho.1)
  | .sl a, .sl b, h, cs, xs, φ, ho => Ow.weakenL (a := a) (b := b) h (fun vs x φ ho => Ow.weaken (t := a) (u := b) h ho) ho
  | .pr a b, .pr c d, h, cs, x, φ, ⟨c1, c2, φ1, φ2, h0, h1, h2, hd, hφ⟩ => by
    have h' := h
    simp only [Ty.weak, Bool.and_eq_true] at h'
    obtain ⟨φ1', η1, k1, k2, k3⟩ := Ow.weaken h'.1 h1
    obtain ⟨φ2', η2, k4, k5, k6⟩ := Ow.weaken h'.2 h2
    refine ⟨fun b => φ1' b ∨ φ2' b, fun b => η1 b ∨ η2 b, ?_, fun b => ?_, fun b h1 h2 => ?_⟩
    · rw [cvt_pr (Ty.weak_eqv h) (Ty.weak_eqv h'.1) (Ty.weak_eqv h'.2) x]
      exact ⟨c1, c2, φ1', φ2', h0, k1.more fun b h => h.imp id .inl, k4.more fun b h => h.imp id .inr, fun b h1 h2 => hd b ((k2 b).2 (.inl h1)) ((k5 b).2 (.inl h2)), fun b => Iff.rfl⟩
    · rw [hφ, k2, k5]
      constructor
      · rintro ((h | h) | (h | h))
        · exact .inl (.inl h)
        · exact .inr (.inl h)
        · exact .inl (.inr h)
        · exact .inr (.inr h)
      · rintro ((h | h) | (h | h))
        · exact .inl (.inl h)
        · exact .inr (.inl h)
        · exact .inl (.inr h)
        · exact .inr (.inr h)
    · rcases h1 with h1 | h1 <;> rcases h2 with h2 | h2
      · exact k3 b h1 h2
      · exact hd b ((k2 b).2 (.inl h1)) ((k5 b).2 (.inr h2))
      · exact hd b ((k2 b).2 (.inr h2)) ((k5 b).2 (.inl h1))
      · exact k6 b h1 h2
theorem Ow.still {w : World} {fz : Nat → Prop} : ∀ {t : Ty} {cs : List Value} {x : t.D} {φ : Nat → Prop}, t.still = true → Ow w fz t cs x φ → ∀ b, ¬ φ b
  | .int _, _, _, _, _, h => h.2
  | .bool, _, _, _, _, h => h.2
  | .str, _, _, _, _, h => h.2
  | .ls _, _, _, _, _, h => h.2
  | .one, _, _, _, _, h => h.2
  | .sl _, _, _, _, hs, _ => by cases hs
  | .pr a b, cs, x, φ, hs, ⟨c1, c2, φ1, φ2, h0, h1, h2, hd, hφ⟩ => fun b hb => by
    simp only [Ty.still, Bool.and_eq_true] at hs
    exact ((hφ b).1 hb).elim (Ow.still hs.1 h1 b) (Ow.still hs.2 h2 b)
theorem Rd.still {w : World} {fz : Nat → Prop} : ∀ {t : Ty} {cs : List Value} {x : t.D}, t.still = true → Rd w fz t cs x → Ow w fz t cs x fun _ => False
  | .int _, _, _, _, h => ⟨h, fun _ h => h⟩
  | .bool, _, _, _, h => ⟨h, fun _ h => h⟩
  | .str, _, _, _, h => ⟨h, fun _ h => h⟩
  | .ls _, _, _, _, h => ⟨h, fun _ h => h⟩
  | .one, _, _, _, h => ⟨h, fun _ h => h⟩
  | .sl t, _, _, hf, _ => by cases hf
  | .pr a b, cs, x, hf, ⟨c1, c2, e, h1, h2⟩ => by
    simp only [Ty.still, Bool.and_eq_true] at hf
    exact ⟨c1, c2, _, _, e, Rd.still hf.1 h1, Rd.still hf.2 h2, fun _ h => h.elim, fun _ => ⟨fun h => h.elim, fun h => h.elim id id⟩⟩
theorem Ty.lent_still : ∀ (t : Ty), t.lent.still = true
  | .int _ | .bool | .str | .one | .sl _ | .ls _ => rfl
  | .pr a b => by simp [Ty.lent, Ty.still, Ty.lent_still a, Ty.lent_still b]
theorem Ty.flat_still : ∀ {t : Ty}, t.flat = true → t.still = true
  | .int _, _ | .bool, _ | .str, _ | .one, _ => rfl
  | .pr a b, h => by
    simp only [Ty.flat, Bool.and_eq_true] at h
    simp only [Ty.still, Bool.and_eq_true]
    exact ⟨Ty.flat_still h.1, Ty.flat_still h.2⟩

/-! ## 14. What symbolic values say -/
structure Loc where
  b : Nat
  A : Option Addr
  n : Nat
  c : Nat
  sz : Nat
abbrev Env := Nat → Loc
def Slot.used : Slot → Prop
  | .free => False
  | _ => True
/-- Where a slice begins that is cut at place lo. -/
def Cut (A A' : Option Addr) (lo c sz : Nat) : Prop := (A = none → A' = none) ∧ ∀ b o, A = some ⟨b, o, none⟩ → ∃ o', A' = some ⟨b, o', none⟩ ∧ (lo < c → o' = o + lo * sz) ∧ o' ≤ o + c * sz
/-- A cell's symbolic value, in a world. -/
def SR (h : Heap) (ρ : Env) (fz : Nat → Prop) (w : World) : SV → Value → Prop
  | .int k n, v => v = .int k n
  | .bool b, v => v = .bool b
  | .str s, v => v = .string s
  | .lst t xs, v => Rd w fz (.sl t) [v] xs
  | .own κ, v => (h κ).used ∧ v = .slice (ρ κ).A (ρ κ).n (ρ κ).c
  | .sub κ lo hi, v => (h κ).used ∧ lo ≤ hi ∧ hi ≤ (ρ κ).n ∧ ∃ A, Cut (ρ κ).A A lo (ρ κ).c (ρ κ).sz ∧ v = .slice A (hi - lo) ((ρ κ).c - lo)
  | .view κ ver i o, v => (h κ).used ∧ (∃ A n c, v = .slice A n c) ∧ ∀ t xs ver', h κ = .live (.row t xs ver') → ver ≤ ver' ∧ (ver = ver' → i < List.length xs ∧ ∃ b off, (ρ κ).A = some ⟨b, off, none⟩ ∧ At w b (off + i * t.nc + o) [v])
  | .ptr κ off, v => (h κ).used ∧ v = .pointer (some ⟨(ρ κ).b, off, none⟩)
  | .rptr κ i off, v => (h κ).used ∧ i < (ρ κ).n ∧ ∃ b o, (ρ κ).A = some ⟨b, o, none⟩ ∧ v = .pointer (some ⟨b, o + i * (ρ κ).sz + off, none⟩)
  | .lptr t xs i off, v => i < List.length xs ∧ ∃ b o vs, fz b ∧ v = .pointer (some ⟨b, o + off, none⟩) ∧ At w b o vs ∧ Rd w fz t vs (nth t xs i)
  | .vptr κ ver i o j off, v => (h κ).used ∧ (∃ b o, v = .pointer (some ⟨b, o, none⟩)) ∧ ∀ t xs ver', h κ = .live (.row t xs ver') → ver ≤ ver' ∧ (ver = ver' → i < List.length xs ∧ ∃ l, leaf t o = some l ∧ j < List.length (l.2.1 (nth t xs i)) ∧
      ∃ b off' b2 off2 n c, (ρ κ).A = some ⟨b, off', none⟩ ∧ At w b (off' + i * t.nc + o) [.slice (some ⟨b2, off2, none⟩) n c] ∧ v = .pointer (some ⟨b2, off2 + j * l.1.nc + off, none⟩))
  | .clo f ks, v => (∀ κ ∈ ks, (h κ).used) ∧ v = .func (.func f) #[] (ks.map fun κ => Value.pointer (some ⟨(ρ κ).b, 0, none⟩)).toArray
  | .mref κ, v => (h κ).used ∧ v = .map (some (ρ κ).b)
  | .mkeys g κ, v => (h κ).used ∧ ∃ bk, v = .func (.func g) #[] #[.pointer (some ⟨bk, 0, none⟩)] ∧ fz bk ∧ At w bk 0 [.map (some (ρ κ).b)]
  | .nils, v => v = .slice none 0 0
  | .nilp, v => v = .pointer none
  | .nilf, v => v = .nilFunc
  | .err b, v => if b then ∃ t x, v = .iface t x else v = .nilIface
  | .undef, _ => True

/-- Two lists, item by item. -/
def All2 {α β : Type} (R : α → β → Prop) : List α → List β → Prop
  | [], [] => True
  | a :: as, b :: bs => R a b ∧ All2 R as bs
  | _, _ => False
theorem All2.len {α β : Type} {R : α → β → Prop} : ∀ {as : List α} {bs : List β}, All2 R as bs → as.length = bs.length
  | [], [], _ => rfl
  | _ :: _, _ :: _, h => by simp [All2.len h.2]
theorem All2.mono {α β : Type} {R S : α → β → Prop} (hs : ∀ a b, R a b → S a b) : ∀ {as : List α} {bs : List β}, All2 R as bs → All2 S as bs
  | [], [], _ => trivial
  | _ :: _, _ :: _, h => ⟨hs _ _ h.1, All2.mono hs h.2⟩
theorem All2.append {α β : Type} {R : α → β → Prop} : ∀ {as as' : List α} {bs bs' : List β}, All2 R as bs → All2 R as' bs' → All2 R (as ++ as') (bs ++ bs')
  | [], _, [], _, _, h => h
  | _ :: _, _, _ :: _, _, h, h' => ⟨h.1, All2.append h.2 h'⟩
theorem All2.split {α β : Type} {R : α → β → Prop} : ∀ {as as' : List α} {bs : List β}, All2 R (as ++ as') bs → ∃ b1 b2, bs = b1 ++ b2 ∧ All2 R as b1 ∧ All2 R as' b2
  | [], _, bs, h => ⟨[], bs, rfl, trivial, h⟩
  | _ :: _, _, b :: bs, h => by
    obtain ⟨b1, b2, e, h1, h2⟩ := All2.split h.2
    exact ⟨b :: b1, b2, by rw [e]; rfl, ⟨h.1, h1⟩, h2⟩
theorem All2.drop {α β : Type} {R : α → β → Prop} : ∀ (n : Nat) {as : List α} {bs : List β}, All2 R as bs → All2 R (as.drop n) (bs.drop n)
  | 0, _, _, h => by simpa using h
  | _ + 1, [], [], _ => trivial
  | n + 1, _ :: _, _ :: _, h => by simpa using All2.drop n h.2
theorem All2.take {α β : Type} {R : α → β → Prop} : ∀ (n : Nat) {as : List α} {bs : List β}, All2 R as bs → All2 R (as.take n) (bs.take n)
  | 0, _, _, _ => by simp [All2]
  | _ + 1, [], [], _ => trivial
  | n + 1, _ :: _, _ :: _, h => by simpa using ⟨h.1, All2.take n h.2⟩
theorem All2.get {α β : Type} {R : α → β → Prop} : ∀ {as : List α} {bs : List β}, All2 R as bs → ∀ i (h : i < as.length) (h' : i < bs.length), R as[i] bs[i]
  | _ :: _, _ :: _, h, 0, _, _ => h.1
  | _ :: _, _ :: _, h, i + 1, h1, h2 => All2.get h.2 i (by simpa using h1) (by simpa using h2)
def CR (h : Heap) (ρ : Env) (fz : Nat → Prop) (w : World) : CV → Value → Prop
  | .s x, v => SR h ρ fz w x v
  | .a cs, v => ∃ vs : Array Value, v = .agg vs ∧ All2 (SR h ρ fz w) cs vs.toList
def PR (h : Heap) (ρ : Env) (fz : Nat → Prop) (w : World) : PV → Value → Prop
  | .c x, v => CR h ρ fz w x v
  | .tup xs, v => ∃ vs : Array Value, v = .tuple vs ∧ All2 (CR h ρ fz w) xs vs.toList
/-- What is known of one cell's value: it is one cell. -/
theorem SR.one {h : Heap} {ρ : Env} {fz : Nat → Prop} {w : World} {x : SV} {v : Value} (hx : okSV x = true) (hr : SR h ρ fz w x v) : v.oneCell' = true := by
  cases x <;> simp only [SR] at hr
  case int => subst hr; rfl
  case bool => subst hr; rfl
  case str => subst hr; rfl
  case lst t xs =>
    obtain ⟨A, c, e, _⟩ := hr
    simp at e; subst e; rfl
  case own => rw [hr.2]; rfl
  case sub => obtain ⟨_, _, _, A, _, e⟩ := hr; rw [e]; rfl
  case view => obtain ⟨_, ⟨A, n, c, e⟩, _⟩ := hr; rw [e]; rfl
  case ptr => rw [hr.2]; rfl
  case rptr => obtain ⟨_, _, b, o, _, e⟩ := hr; rw [e]; rfl
  case lptr => obtain ⟨_, b, o, vs, _, e, _⟩ := hr; rw [e]; rfl
  case vptr => obtain ⟨_, ⟨a, b, e⟩, _⟩ := hr; rw [e]; rfl
  case clo => rw [hr.2]; rfl
  case mref => rw [hr.2]; rfl
  case mkeys => obtain ⟨_, bk, e, _⟩ := hr; rw [e]; rfl
  case nils => subst hr; rfl
  case nilp => subst hr; rfl
  case nilf => subst hr; rfl
  case err b =>
    cases b
    · simp at hr; subst hr; rfl
    · simp at hr; obtain ⟨t, x, rfl⟩ := hr; rfl
  case undef => simp [okSV] at hx
theorem cells_one {v : Value} (h : v.oneCell' = true) : v.cells = #[v] := by
  cases v <;> first | rfl | simp [Value.oneCell'] at h
/-- A value's cells. -/
theorem CR.cells {h : Heap} {ρ : Env} {fz : Nat → Prop} {w : World} {x : CV} {v : Value} (hx : okCV x = true) (hr : CR h ρ fz w x v) : All2 (SR h ρ fz w) (cvCells x) v.cells.toList ∧ ∀ c ∈ v.cells.toList, c.oneCell' = true := by
  cases x with
  | s x =>
    have h1 := SR.one (x := x) hx hr
    rw [cells_one h1]
    exact ⟨⟨hr, trivial⟩, fun c hc => by simp at hc; subst hc; exact h1⟩
  | a cs =>
    obtain ⟨vs, rfl, h1⟩ := hr
    refine ⟨h1, fun c hc => ?_⟩
    simp only [Value.cells] at hc
    obtain ⟨i, hi, rfl⟩ := List.mem_iff_getElem.1 hc
    have hl := All2.len h1
    refine SR.one (List.all_eq_true.1 hx cs[i] (List.getElem_mem (by omega))) (All2.get h1 i (by omega) hi)
end Go.Den
namespace Go.Den
open Go

/-! ## 15. The abstract state against the world, and how it goes on -/
structure M where
  h : Heap
  ρ : Env
  /-- whose blocks these are: a key's -/
  φ : Nat → Nat → Prop
  /-- blocks of one's own that no key has -/
  χ : Nat → Prop
  /-- blocks that stay as they are -/
  fz : Nat → Prop
  /-- what lies there from the start, and stays -/
  gl : Nat → Obj → Prop
  w : World
abbrev M.SR (m : M) := Den.SR m.h m.ρ m.fz m.w
abbrev M.CR (m : M) := Den.CR m.h m.ρ m.fz m.w
abbrev M.PR (m : M) := Den.PR m.h m.ρ m.fz m.w
def slV (l : Loc) : Value := .slice l.A l.n l.c
/-- A value of these cells. -/
def mkV (agg : Bool) (vs : List Value) : Value := if agg then .agg vs.toArray else vs.headD default
/-- An entry of a map. -/
def EntR (w : World) (agg : Bool) (t : Ty) (e : ByteArray × t.D) (x : MapEntry) : Prop :=
  x.key = .string e.1 ∧ e.1.size ≤ 9223372036854775807 ∧ ∃ vs, x.val = mkV agg vs ∧ Rd w (fun _ => False) t vs e.2
theorem EntR.mono {w w' : World} {agg : Bool} {t : Ty} {e : ByteArray × t.D} {x : MapEntry} (h : EntR w agg t e x) : EntR w' agg t e x := by
  obtain ⟨h1, h2, vs, h3, h4⟩ := h
  exact ⟨h1, h2, vs, h3, Rd.mono (fun _ h => h.elim) h4⟩
def ResR (m : M) (κ : Nat) : Res → (Nat → Prop) → Prop
  | .box cells, φ => ∃ c e fr, m.w.heap[(m.ρ κ).b]? = some (.cells c e fr) ∧ Mut c fr ∧ All2 m.SR cells c.toList ∧ ∀ b, φ b ↔ b = (m.ρ κ).b
  | .cbox cells, φ => ∃ c e fr, m.w.heap[(m.ρ κ).b]? = some (.cells c e fr) ∧ m.fz (m.ρ κ).b ∧ All2 m.SR cells c.toList ∧ ∀ b, ¬ φ b
  | .row t xs _, φ => Ow m.w m.fz (.sl t) [slV (m.ρ κ)] xs φ ∧ (m.ρ κ).n = List.length xs ∧ (m.ρ κ).sz = t.nc
  | .lent t xs, φ => Rd m.w m.fz (.sl t) [slV (m.ρ κ)] xs ∧ (m.ρ κ).n = List.length xs ∧ (m.ρ κ).sz = t.nc ∧ ∀ b, ¬ φ b
  | .mp a t es, φ => ∃ ents clock, m.w.heap[(m.ρ κ).b]? = some (.map ents clock) ∧ MapKept.Stamped ents clock ∧ All2 (EntR m.w a t) es ents.toList ∧ ∀ b, φ b ↔ b = (m.ρ κ).b
structure HR (m : M) : Prop where
  res : ∀ κ r, m.h κ = .live r → ResR m κ r (m.φ κ)
  dead : ∀ κ, (∀ r, m.h κ ≠ .live r) → ∀ b, ¬ m.φ κ b
  disj : ∀ κ κ' b, κ ≠ κ' → m.φ κ b → ¬ m.φ κ' b
  loose : ∀ κ b, m.φ κ b → ¬ m.χ b
  fzφ : ∀ κ b, m.φ κ b → ¬ m.fz b
  fzχ : ∀ b, m.χ b → ¬ m.fz b
  ltf : ∀ b, m.fz b → b < m.w.heap.size
  ltχ : ∀ b, m.χ b → b < m.w.heap.size
  glob : ∀ b o, m.gl b o → m.w.heap[b]? = some o ∧ m.fz b
theorem HR.ltφ {m : M} (H : HR m) {κ b : Nat} (hb : m.φ κ b) : b < m.w.heap.size := by
  cases hκ : m.h κ with
  | free => exact absurd hb (H.dead κ (by simp [hκ]) b)
  | gone => exact absurd hb (H.dead κ (by simp [hκ]) b)
  | live r =>
    have := H.res κ r hκ
    cases r with
    | box cells =>
      obtain ⟨c, e, fr, h1, _, _, h2⟩ := this
      rw [(h2 b).1 hb]
      exact (Array.getElem?_eq_some_iff.1 h1).1
    | cbox cells =>
      obtain ⟨c, e, fr, h1, _, _, h2⟩ := this
      exact absurd hb (h2 b)
    | row t xs v => exact this.1.lt b hb
    | lent t xs => exact absurd hb (this.2.2.2 b)
    | mp a t es =>
      obtain ⟨ents, clock, h1, _, _, h2⟩ := this
      rw [(h2 b).1 hb]
      exact (Array.getElem?_eq_some_iff.1 h1).1

/-- How the state may go on: what was known stays known. -/
structure Ext (m m' : M) : Prop where
  used : ∀ κ, (m.h κ).used → (m'.h κ).used ∧ m'.ρ κ = m.ρ κ
  fz : ∀ b, m.fz b → m'.fz b ∧ m'.w.heap[b]? = m.w.heap[b]?
  row : ∀ κ t xs v, (m.h κ).used → m'.h κ = .live (.row t xs v) → ∃ t0 xs0 v0, m.h κ = .live (.row t0 xs0 v0) ∧
    (v0 < v ∨ (m'.h κ = m.h κ ∧ ∀ b off, (m.ρ κ).A = some ⟨b, off, none⟩ → m'.w.heap[b]? = m.w.heap[b]?))
  orig : ∀ b, (m'.χ b ∨ ∃ κ, m'.φ κ b) → (m.χ b ∨ ∃ κ, m.φ κ b) ∨ m.w.heap.size ≤ b
  gl : m'.gl = m.gl
  keep : ∀ b, b < m.w.heap.size → ¬ (m.χ b ∨ ∃ κ, m.φ κ b) → m'.w.heap[b]? = m.w.heap[b]?
  size : m.w.heap.size ≤ m'.w.heap.size
  os : m'.w.os = m.w.os
  tape : m'.w.tape = m.w.tape
  output : m'.w.output = m.w.output
  fzo : ∀ b, m'.fz b → m.fz b ∨ (m.χ b ∨ ∃ κ, m.φ κ b) ∨ m.w.heap.size ≤ b
theorem Ext.refl (m : M) : Ext m m :=
  ⟨fun _ h => ⟨h, rfl⟩, fun _ h => ⟨h, rfl⟩, fun κ t xs v _ h => ⟨t, xs, v, h, .inr ⟨rfl, fun _ _ _ => rfl⟩⟩, fun _ h => .inl h, rfl, fun _ _ _ => rfl, Nat.le_refl _, rfl, rfl, rfl, fun _ h => .inl h⟩
theorem Ext.trans {a b c : M} (h : Ext a b) (k : Ext b c) : Ext a c where
  used := fun κ hu => ⟨(k.used κ (h.used κ hu).1).1, (k.used κ (h.used κ hu).1).2.trans (h.used κ hu).2⟩
  fz := fun b hb => ⟨(k.fz b (h.fz b hb).1).1, (k.fz b (h.fz b hb).1).2.trans (h.fz b hb).2⟩
  row := fun κ t xs v hu hr => by
    obtain ⟨t1, xs1, v1, h1, h2⟩ := k.row κ t xs v (h.used κ hu).1 hr
    obtain ⟨t0, xs0, v0, h3, h4⟩ := h.row κ t1 xs1 v1 hu h1
    refine ⟨t0, xs0, v0, h3, ?_⟩
    rcases h2 with h2 | ⟨h2, h2'⟩
    · rcases h4 with h4 | ⟨h4, _⟩
      · exact .inl (by omega)
      · rw [h4, h3] at h1
        injection h1 with h1; injection h1 with _ _ h1
        exact .inl (by omega)
    · rcases h4 with h4 | ⟨h4, h4'⟩
      · rw [h2, h1] at hr
        injection hr with hr; injection hr with _ _ hr
        exact .inl (by omega)
      · refine .inr ⟨h2.trans h4, fun b off e => ?_⟩
        exact (h2' b off (by rw [(h.used κ hu).2]; exact e)).trans (h4' b off e)
  orig := fun b hb => by
    rcases k.orig b hb with h1 | h1
    · exact h.orig b h1
    · exact .inr (Nat.le_trans h.size h1)
  gl := k.gl.trans h.gl
  keep := fun b hb hn => (k.keep b (Nat.lt_of_lt_of_le hb h.size) fun h' => by
    rcases h.orig b h' with h1 | h1
    · exact hn h1
    · omega).trans (h.keep b hb hn)
  size := Nat.le_trans h.size k.size
  os := k.os.trans h.os
  tape := k.tape.trans h.tape
  output := k.output.trans h.output
  fzo := fun b hb => by
    rcases k.fzo b hb with h1 | h1 | h1
    · exact h.fzo b h1
    · exact .inr (h.orig b h1)
    · exact .inr (.inr (Nat.le_trans h.size h1))

theorem Ext.sr {m m' : M} (E : Ext m m') {x : SV} {v : Value} (h : m.SR x v) : m'.SR x v := by
  cases x <;> simp only [M.SR, Den.SR] at h ⊢
  case lst t xs => exact Rd.mono (fun b hb => E.fz b hb) h
  case own κ => exact ⟨(E.used κ h.1).1, by rw [(E.used κ h.1).2]; exact h.2⟩
  case sub κ lo hi => exact ⟨(E.used κ h.1).1, h.2.1, by rw [(E.used κ h.1).2]; exact h.2.2⟩
  case view κ ver i o =>
    obtain ⟨hu, hs, hv⟩ := h
    refine ⟨(E.used κ hu).1, hs, fun t xs ver' hr => ?_⟩
    obtain ⟨t0, xs0, v0, h1, h2⟩ := E.row κ t xs ver' hu hr
    obtain ⟨h3, h4⟩ := hv t0 xs0 v0 h1
    rcases h2 with h2 | ⟨h2, h2'⟩
    · exact ⟨by omega, fun e => by omega⟩
    · rw [h2, h1] at hr
      injection hr with hr; injection hr with e1 e2 e3
      subst e1; subst e3
      have e2 := eq_of_heq e2
      subst e2
      refine ⟨h3, fun e => ?_⟩
      obtain ⟨h5, b, off, h6, h7⟩ := h4 e
      exact ⟨h5, b, off, by rw [(E.used κ hu).2]; exact h6, h7.mono (h2' b off h6)⟩
  case ptr κ off => exact ⟨(E.used κ h.1).1, by rw [(E.used κ h.1).2]; exact h.2⟩
  case rptr κ i off => exact ⟨(E.used κ h.1).1, by rw [(E.used κ h.1).2]; exact h.2⟩
  case lptr t xs i off =>
    obtain ⟨h1, b, o, vs, h2, h3, h4, h5⟩ := h
    exact ⟨h1, b, o, vs, (E.fz b h2).1, h3, h4.mono (E.fz b h2).2, Rd.mono (fun b hb => E.fz b hb) h5⟩
  case vptr κ ver i o j off =>
    obtain ⟨hu, hs, hv⟩ := h
    refine ⟨(E.used κ hu).1, hs, fun t xs ver' hr => ?_⟩
    obtain ⟨t0, xs0, v0, h1, h2⟩ := E.row κ t xs ver' hu hr
    obtain ⟨h3, h4⟩ := hv t0 xs0 v0 h1
    rcases h2 with h2 | ⟨h2, h2'⟩
    · exact ⟨by omega, fun e => by omega⟩
    · rw [h2, h1] at hr
      injection hr with hr; injection hr with e1 e2 e3
      subst e1; subst e3
      have e2 := eq_of_heq e2
      subst e2
      refine ⟨h3, fun e => ?_⟩
      obtain ⟨h5, l, hl, hj, b, off', b2, off2, n, c, h6, h7, h8⟩ := h4 e
      exact ⟨h5, l, hl, hj, b, off', b2, off2, n, c, by rw [(E.used κ hu).2]; exact h6, h7.mono (h2' b off' h6), h8⟩
  case mref κ => exact ⟨(E.used κ h.1).1, by rw [(E.used κ h.1).2]; exact h.2⟩
  case mkeys g κ =>
    obtain ⟨h1, bk, h2, h3, h4⟩ := h
    exact ⟨(E.used κ h1).1, bk, h2, (E.fz bk h3).1, by rw [(E.used κ h1).2]; exact h4.mono (E.fz bk h3).2⟩
  case clo f ks =>
    refine ⟨fun κ hκ => (E.used κ (h.1 κ hκ)).1, ?_⟩
    rw [h.2]
    congr 1
    have : ks.map (fun κ => Value.pointer (some ⟨(m.ρ κ).b, 0, none⟩)) = ks.map (fun κ => Value.pointer (some ⟨(m'.ρ κ).b, 0, none⟩)) :=
      List.map_congr_left fun κ hκ => by rw [(E.used κ (h.1 κ hκ)).2]
    rw [this]
  all_goals exact h
theorem Ext.cr {m m' : M} (E : Ext m m') {x : CV} {v : Value} (h : m.CR x v) : m'.CR x v := by
  cases x with
  | s x => exact E.sr h
  | a cs =>
    obtain ⟨vs, e, h⟩ := h
    exact ⟨vs, e, All2.mono (fun _ _ => E.sr) h⟩
theorem Ext.pr {m m' : M} (E : Ext m m') {x : PV} {v : Value} (h : m.PR x v) : m'.PR x v := by
  cases x with
  | c x => exact E.cr h
  | tup xs =>
    obtain ⟨vs, e, h⟩ := h
    exact ⟨vs, e, All2.mono (fun _ _ => E.cr) h⟩

theorem Heap.set_eq (h : Heap) (κ : Nat) (s : Slot) : h.set κ s κ = s := by simp [Heap.set]
theorem Heap.set_ne (h : Heap) {κ j : Nat} (s : Slot) (hne : j ≠ κ) : h.set κ s j = h j := by
  have : Nat.beq j κ = false := by
    rcases hb : Nat.beq j κ with _ | _
    · rfl
    · exact absurd (Nat.eq_of_beq_eq_true hb) hne
  simp [Heap.set, this]
def fset {α : Type} (f : Nat → α) (κ : Nat) (a : α) : Nat → α := fun j => if j = κ then a else f j
theorem fset_eq {α : Type} (f : Nat → α) (κ : Nat) (a : α) : fset f κ a κ = a := by simp [fset]
theorem fset_ne {α : Type} (f : Nat → α) {κ j : Nat} (a : α) (h : j ≠ κ) : fset f κ a j = f j := by simp [fset, h]

/-- A resource's facts where its own things stay. -/
theorem ResR.keep {m m' : M} (E : Ext m m') {κ : Nat} {r : Res} {φ : Nat → Prop} (hu : (m.h κ).used) (h : ResR m κ r φ) (hw : ∀ b, φ b → m'.w.heap[b]? = m.w.heap[b]?) : ResR m' κ r φ := by
  have hρ := (E.used κ hu).2
  cases r with
  | box cells =>
    obtain ⟨c, e, fr, h1, h2, h3, h4⟩ := h
    refine ⟨c, e, fr, ?_, h2, All2.mono (fun _ _ => E.sr) h3, fun b => by rw [hρ]; exact h4 b⟩
    rw [hρ]; exact (hw _ ((h4 _).2 rfl)).trans h1
  | cbox cells =>
    obtain ⟨c, e, fr, h1, h2, h3, h4⟩ := h
    refine ⟨c, e, fr, ?_, by rw [hρ]; exact (E.fz _ h2).1, All2.mono (fun _ _ => E.sr) h3, h4⟩
    rw [hρ]; exact (E.fz _ h2).2.trans h1
  | row t xs v =>
    obtain ⟨h1, h2, h3⟩ := h
    exact ⟨by rw [hρ]; exact h1.mono hw E.fz, by rw [hρ]; exact h2, by rw [hρ]; exact h3⟩
  | lent t xs =>
    obtain ⟨h1, h2, h3, h4⟩ := h
    exact ⟨by rw [hρ]; exact Rd.mono (fun b hb => E.fz b hb) h1, by rw [hρ]; exact h2, by rw [hρ]; exact h3, h4⟩
  | mp a t es =>
    obtain ⟨ents, clock, h1, h2, h3, h4⟩ := h
    refine ⟨ents, clock, ?_, h2, All2.mono (fun _ _ h => h.mono) h3, fun b => by rw [hρ]; exact h4 b⟩
    rw [hρ]; exact (hw _ ((h4 _).2 rfl)).trans h1

/-! ### Steps -/
/-- A new block, nobody's as yet. -/
def M.push (m : M) (o : Obj) : M := { m with w := { m.w with heap := m.w.heap.push o }, χ := fun b => m.χ b ∨ b = m.w.heap.size }
theorem push_old {w : World} {o : Obj} {b : Nat} (hb : b < w.heap.size) : ({ w with heap := w.heap.push o } : World).heap[b]? = w.heap[b]? := by
  simp [Array.getElem?_push_lt hb, Array.getElem?_eq_getElem hb]
theorem push_ext {m : M} (H : HR m) (o : Obj) : Ext m (m.push o) where
  used := fun _ h => ⟨h, rfl⟩
  fz := fun b hb => ⟨hb, push_old (H.ltf b hb)⟩
  row := fun κ t xs v _ hr => ⟨t, xs, v, hr, .inr ⟨rfl, fun b off e => by
    obtain ⟨ho, _⟩ := H.res κ _ hr
    obtain ⟨A, c, e1, h⟩ := ho
    simp only [slV, List.cons.injEq, and_true, Value.slice.injEq] at e1
    rcases h with ⟨h0, _⟩ | ⟨b', off', mm, ee, fr, ψ, h0, hm, _⟩
    · rw [e1.1, h0] at e; cases e
    · rw [e1.1, h0] at e
      injection e with e; injection e with e _ _
      subst e
      exact push_old (Array.getElem?_eq_some_iff.1 hm).1⟩⟩
  orig := fun b hb => by
    rcases hb with (hb | hb) | hb
    · exact .inl (.inl hb)
    · exact .inr (by omega)
    · exact .inl (.inr hb)
  gl := rfl
  keep := fun b hb _ => push_old hb
  size := by simp [M.push]
  os := rfl
  tape := rfl
  output := rfl
  fzo := fun _ h => .inl h
theorem push_hr {m : M} (H : HR m) (o : Obj) : HR (m.push o) where
  res := fun κ r hr => (H.res κ r hr).keep (push_ext H o) (by show (m.h κ).used; rw [show m.h κ = _ from hr]; trivial) fun b hb => push_old (H.ltφ hb)
  dead := H.dead
  disj := H.disj
  loose := fun κ b hb hc => by
    rcases hc with hc | hc
    · exact H.loose κ b hb hc
    · have := H.ltφ hb; omega
  fzφ := H.fzφ
  fzχ := fun b hb hf => by
    rcases hb with hb | hb
    · exact H.fzχ b hb hf
    · have := H.ltf b hf; omega
  ltf := fun b hb => by have := H.ltf b hb; simp [M.push]; omega
  ltχ := fun b hb => by
    rcases hb with hb | hb
    · have := H.ltχ b hb; simp [M.push]; omega
    · simp [M.push]; omega
  glob := fun b o' h => ⟨(push_old (H.ltf b (H.glob b o' h).2)).trans (H.glob b o' h).1, (H.glob b o' h).2⟩
/-- A draw. -/
def M.draw (m : M) : M := { m with w := { m.w with drawn := m.w.drawn + 1 } }
theorem draw_ext (m : M) : Ext m m.draw :=
  ⟨fun _ h => ⟨h, rfl⟩, fun _ h => ⟨h, rfl⟩, fun κ t xs v _ h => ⟨t, xs, v, h, .inr ⟨rfl, fun _ _ _ => rfl⟩⟩, fun _ h => .inl h, rfl, fun _ _ _ => rfl, Nat.le_refl _, rfl, rfl, rfl, fun _ h => .inl h⟩
theorem draw_hr {m : M} (H : HR m) : HR m.draw where
  res := fun κ r hr => (H.res κ r hr).keep (draw_ext m) (by show (m.h κ).used; rw [show m.h κ = _ from hr]; trivial) fun _ _ => rfl
  dead := H.dead
  disj := H.disj
  loose := H.loose
  fzφ := H.fzφ
  fzχ := H.fzχ
  ltf := H.ltf
  ltχ := H.ltχ
  glob := H.glob
/-- A key gives up what it has. -/
def M.lose (m : M) (κ : Nat) : M := { m with h := m.h.set κ .gone, φ := fset m.φ κ (fun _ => False), χ := fun b => m.χ b ∨ m.φ κ b }
theorem lose_ext {m : M} (κ : Nat) (hu : (m.h κ).used) : Ext m (m.lose κ) where
  used := fun j h => ⟨by
    by_cases e : j = κ
    · subst e; simp [M.lose, Heap.set_eq, Slot.used]
    · simp only [M.lose, Heap.set_ne _ _ e]; exact h, rfl⟩
  fz := fun _ h => ⟨h, rfl⟩
  row := fun j t xs v _ hr => by
    by_cases e : j = κ
    · subst e; simp [M.lose, Heap.set_eq] at hr
    · have hr' : m.h j = .live (.row t xs v) := by simpa only [M.lose, Heap.set_ne _ _ e] using hr
      exact ⟨t, xs, v, hr', .inr ⟨by simp only [M.lose, Heap.set_ne _ _ e], fun _ _ _ => rfl⟩⟩
  orig := fun b hb => .inl (by
    rcases hb with (hb | hb) | ⟨j, hb⟩
    · exact .inl hb
    · exact .inr ⟨κ, hb⟩
    · by_cases e : j = κ
      · subst e; simp [M.lose, fset_eq] at hb
      · simp only [M.lose, fset_ne _ _ e] at hb; exact .inr ⟨j, hb⟩)
  gl := rfl
  keep := fun _ _ _ => rfl
  size := Nat.le_refl _
  os := rfl
  tape := rfl
  output := rfl
  fzo := fun _ h => .inl h
theorem lose_hr {m : M} (H : HR m) (κ : Nat) (hu : (m.h κ).used) : HR (m.lose κ) where
  res := fun j r hr => by
    by_cases e : j = κ
    · subst e; simp [M.lose, Heap.set_eq] at hr
    · have hr' : m.h j = .live r := by simpa only [M.lose, Heap.set_ne _ _ e] using hr
      have : (m.lose κ).φ j = m.φ j := by simp only [M.lose, fset_ne _ _ e]
      rw [this]
      exact (H.res j r hr').keep (lose_ext κ hu) (by rw [hr']; trivial) fun _ _ => rfl
  dead := fun j hj b => by
    by_cases e : j = κ
    · subst e; simp [M.lose, fset_eq]
    · simp only [M.lose, fset_ne _ _ e]
      exact H.dead j (fun r hr => hj r (by simpa only [M.lose, Heap.set_ne _ _ e] using hr)) b
  disj := fun i j b hne hi => by
    have hi' : m.φ i b := by
      by_cases e : i = κ
      · subst e; simp [M.lose, fset_eq] at hi
      · simpa only [M.lose, fset_ne _ _ e] using hi
    by_cases e : j = κ
    · subst e; simp [M.lose, fset_eq]
    · simp only [M.lose, fset_ne _ _ e]; exact H.disj i j b hne hi'
  loose := fun i b hi hc => by
    by_cases e : i = κ
    · subst e; simp [M.lose, fset_eq] at hi
    · have hi' : m.φ i b := by simpa only [M.lose, fset_ne _ _ e] using hi
      rcases hc with hc | hc
      · exact H.loose i b hi' hc
      · exact H.disj i κ b e hi' hc
  fzφ := fun i b hi => by
    by_cases e : i = κ
    · subst e; simp [M.lose, fset_eq] at hi
    · exact H.fzφ i b (by simpa only [M.lose, fset_ne _ _ e] using hi)
  fzχ := fun b hb => by
    rcases hb with hb | hb
    · exact H.fzχ b hb
    · exact H.fzφ κ b hb
  ltf := H.ltf
  ltχ := fun b hb => by
    rcases hb with hb | hb
    · exact H.ltχ b hb
    · exact H.ltφ hb
  glob := H.glob
/-- What nobody has any more is left to itself, and stays. -/
def M.drop (m : M) (χ' fz' : Nat → Prop) : M := { m with χ := χ', fz := fz' }
theorem drop_ext0 {m : M} {χ' fz' : Nat → Prop} (hχ : ∀ b, χ' b → m.χ b) (hf : ∀ b, m.fz b → fz' b) (hn : ∀ b, fz' b → m.fz b ∨ m.χ b) : Ext m (m.drop χ' fz') :=
  ⟨fun _ h => ⟨h, rfl⟩, fun b h => ⟨hf b h, rfl⟩, fun κ t xs v _ h => ⟨t, xs, v, h, .inr ⟨rfl, fun _ _ _ => rfl⟩⟩, fun b h => .inl (h.imp (hχ b) id), rfl, fun _ _ _ => rfl, Nat.le_refl _, rfl, rfl, rfl, fun b h => (hn b h).imp id fun h => .inl (.inl h)⟩
theorem drop_ext {m : M} {χ' : Nat → Prop} (hχ : ∀ b, χ' b → m.χ b) (hf : ∀ b, m.fz b → m.fz b) : Ext m (m.drop χ' m.fz) := drop_ext0 hχ hf fun _ h => .inl h
theorem drop_hr {m : M} (H : HR m) {χ' fz' : Nat → Prop} (hχ : ∀ b, χ' b → m.χ b) (hf : ∀ b, m.fz b → fz' b) (hn : ∀ b, fz' b → m.fz b ∨ (m.χ b ∧ ¬ χ' b)) : HR (m.drop χ' fz') where
  res := fun κ r hr => (H.res κ r hr).keep (drop_ext0 hχ hf fun b h => (hn b h).imp id And.left) (by show (m.h κ).used; rw [show m.h κ = _ from hr]; trivial) fun _ _ => rfl
  dead := H.dead
  disj := H.disj
  loose := fun κ b hb hc => H.loose κ b hb (hχ b hc)
  fzφ := fun κ b hb hf' => by
    rcases hn b hf' with h | h
    · exact H.fzφ κ b hb h
    · exact H.loose κ b hb h.1
  fzχ := fun b hb hf' => by
    rcases hn b hf' with h | h
    · exact H.fzχ b (hχ b hb) h
    · exact h.2 hb
  ltf := fun b hb => by
    rcases hn b hb with h | h
    · exact H.ltf b h
    · exact H.ltχ b h.1
  ltχ := fun b hb => H.ltχ b (hχ b hb)
  glob := fun b o h => ⟨(H.glob b o h).1, hf b (H.glob b o h).2⟩
/-- What nobody has any more stays as it is. -/
def M.freeze (m : M) (η : Nat → Prop) : M := m.drop (fun b => m.χ b ∧ ¬ η b) (fun b => m.fz b ∨ η b)
theorem freeze_ext {m : M} {η : Nat → Prop} (hη : ∀ b, η b → m.χ b) : Ext m (m.freeze η) := drop_ext0 (fun _ h => h.1) (fun _ h => .inl h) fun b h => h.imp id (hη b)
theorem freeze_hr {m : M} (H : HR m) {η : Nat → Prop} (hη : ∀ b, η b → m.χ b) : HR (m.freeze η) := drop_hr H (fun _ h => h.1) (fun _ h => .inl h) fun b h => h.imp id fun h => ⟨hη b h, fun k => k.2 h⟩
/-- A new key takes what nobody has. -/
def M.take (m : M) (κ : Nat) (r : Res) (l : Loc) (ψ : Nat → Prop) : M :=
  { m with h := m.h.set κ (.live r), ρ := fset m.ρ κ l, φ := fset m.φ κ ψ, χ := fun b => m.χ b ∧ ¬ ψ b }
theorem take_ext {m : M} {κ : Nat} {r : Res} {l : Loc} {ψ : Nat → Prop} (hκ : m.h κ = .free) (hψ : ∀ b, ψ b → m.χ b) : Ext m (m.take κ r l ψ) where
  used := fun j h => by
    have e : j ≠ κ := fun e => by subst e; rw [hκ] at h; exact h
    exact ⟨by simp only [M.take, Heap.set_ne _ _ e]; exact h, by simp only [M.take, fset_ne _ _ e]⟩
  fz := fun _ h => ⟨h, rfl⟩
  row := fun j t xs v hu hr => by
    have e : j ≠ κ := fun e => by subst e; rw [hκ] at hu; exact hu
    have hr' : m.h j = .live (.row t xs v) := by simpa only [M.take, Heap.set_ne _ _ e] using hr
    exact ⟨t, xs, v, hr', .inr ⟨by simp only [M.take, Heap.set_ne _ _ e], fun _ _ _ => rfl⟩⟩
  orig := fun b hb => .inl (by
    rcases hb with hb | ⟨j, hb⟩
    · exact .inl hb.1
    · by_cases e : j = κ
      · subst e; simp only [M.take, fset_eq] at hb; exact .inl (hψ b hb)
      · simp only [M.take, fset_ne _ _ e] at hb; exact .inr ⟨j, hb⟩)
  gl := rfl
  keep := fun _ _ _ => rfl
  size := Nat.le_refl _
  os := rfl
  tape := rfl
  output := rfl
  fzo := fun _ h => .inl h
theorem take_hr {m : M} (H : HR m) {κ : Nat} {r : Res} {l : Loc} {ψ : Nat → Prop} (hκ : m.h κ = .free) (hψ : ∀ b, ψ b → m.χ b) (hr : ResR (m.take κ r l ψ) κ r ψ) : HR (m.take κ r l ψ) where
  res := fun j q hq => by
    by_cases e : j = κ
    · subst e
      simp only [M.take, Heap.set_eq, Slot.live.injEq] at hq
      subst hq
      have : (m.take j r l ψ).φ j = ψ := by simp only [M.take, fset_eq]
      rw [this]; exact hr
    · have hq' : m.h j = .live q := by simpa only [M.take, Heap.set_ne _ _ e] using hq
      have : (m.take κ r l ψ).φ j = m.φ j := by simp only [M.take, fset_ne _ _ e]
      rw [this]
      exact (H.res j q hq').keep (take_ext hκ hψ) (by rw [hq']; trivial) fun _ _ => rfl
  dead := fun j hj b => by
    by_cases e : j = κ
    · subst e; exact absurd (by simp only [M.take, Heap.set_eq]) (hj r)
    · simp only [M.take, fset_ne _ _ e]
      exact H.dead j (fun q hq => hj q (by simpa only [M.take, Heap.set_ne _ _ e] using hq)) b
  disj := fun i j b hne hi hj => by
    by_cases e : i = κ
    · subst e
      have hi' : ψ b := by simpa only [M.take, fset_eq] using hi
      have hj' : m.φ j b := by simpa only [M.take, fset_ne _ _ (Ne.symm hne)] using hj
      exact H.loose j b hj' (hψ b hi')
    · have hi' : m.φ i b := by simpa only [M.take, fset_ne _ _ e] using hi
      by_cases e' : j = κ
      · subst e'
        exact H.loose i b hi' (hψ b (by simpa only [M.take, fset_eq] using hj))
      · exact H.disj i j b hne hi' (by simpa only [M.take, fset_ne _ _ e'] using hj)
  loose := fun i b hi hc => by
    by_cases e : i = κ
    · subst e; exact hc.2 (by simpa only [M.take, fset_eq] using hi)
    · exact H.loose i b (by simpa only [M.take, fset_ne _ _ e] using hi) hc.1
  fzφ := fun i b hi => by
    by_cases e : i = κ
    · subst e; exact H.fzχ b (hψ b (by simpa only [M.take, fset_eq] using hi))
    · exact H.fzφ i b (by simpa only [M.take, fset_ne _ _ e] using hi)
  fzχ := fun b hb => H.fzχ b hb.1
  ltf := H.ltf
  ltχ := fun b hb => H.ltχ b hb.1
  glob := H.glob
/-- What a key has is written anew. -/
def M.redo (m : M) (κ : Nat) (r : Res) (ψ : Nat → Prop) (w' : World) : M :=
  { m with h := m.h.set κ (.live r), φ := fset m.φ κ ψ, χ := fun b => (m.χ b ∨ m.φ κ b) ∧ ¬ ψ b, w := w' }
/-- The worlds part nowhere but at these blocks. -/
structure Apart (w w' : World) (S : Nat → Prop) : Prop where
  heap : ∀ b, ¬ S b → w'.heap[b]? = w.heap[b]?
  size : w'.heap.size = w.heap.size
  os : w'.os = w.os
  tape : w'.tape = w.tape
  output : w'.output = w.output
theorem row_block {m : M} (H : HR m) {j : Nat} {t : Ty} {xs : List t.D} {v : Nat} (hr : m.h j = .live (.row t xs v)) {b off : Nat} (e : (m.ρ j).A = some ⟨b, off, none⟩) : m.φ j b := by
  obtain ⟨ho, _⟩ := H.res j _ hr
  obtain ⟨A, c, e1, h⟩ := ho
  simp only [slV, List.cons.injEq, and_true, Value.slice.injEq] at e1
  rcases h with ⟨h0, _⟩ | ⟨b', off', mm, ee, fr, ψ, h0, hm, _, _, _, _, _, _, hφ⟩
  · rw [e1.1, h0] at e; cases e
  · rw [e1.1, h0] at e
    injection e with e; injection e with e _ _
    subst e
    exact (hφ b').2 (.inl rfl)
theorem redo_ext {m : M} (H : HR m) {κ : Nat} {r : Res} {ψ : Nat → Prop} {w' : World} (hu : (m.h κ).used) (hA : Apart m.w w' fun b => m.χ b ∨ m.φ κ b)
    (hψ : ∀ b, ψ b → m.χ b ∨ m.φ κ b) (hrow : ∀ t xs v, r = .row t xs v → ∃ t0 xs0 v0, m.h κ = .live (.row t0 xs0 v0) ∧ v0 < v) : Ext m (m.redo κ r ψ w') where
  used := fun j h => ⟨by
    by_cases e : j = κ
    · subst e; simp [M.redo, Heap.set_eq, Slot.used]
    · simp only [M.redo, Heap.set_ne _ _ e]; exact h, rfl⟩
  fz := fun b hb => ⟨hb, hA.heap b fun h => by
    rcases h with h | h
    · exact H.fzχ b h hb
    · exact H.fzφ κ b h hb⟩
  row := fun j t xs v hu' hr => by
    by_cases e : j = κ
    · subst e
      simp only [M.redo, Heap.set_eq, Slot.live.injEq] at hr
      obtain ⟨t0, xs0, v0, h1, h2⟩ := hrow t xs v hr
      exact ⟨t0, xs0, v0, h1, .inl h2⟩
    · have hr' : m.h j = .live (.row t xs v) := by simpa only [M.redo, Heap.set_ne _ _ e] using hr
      refine ⟨t, xs, v, hr', .inr ⟨by simp only [M.redo, Heap.set_ne _ _ e], fun b off ha => hA.heap b fun h => ?_⟩⟩
      have hb := row_block H hr' ha
      rcases h with h | h
      · exact H.loose j b hb h
      · exact H.disj j κ b e hb h
  orig := fun b hb => .inl (by
    have hh : ∀ b, m.χ b ∨ m.φ κ b → m.χ b ∨ ∃ κ, m.φ κ b := fun b h => h.imp id fun h => ⟨κ, h⟩
    rcases hb with hb | ⟨j, hb⟩
    · exact hh b hb.1
    · by_cases e : j = κ
      · subst e; simp only [M.redo, fset_eq] at hb; exact hh b (hψ b hb)
      · simp only [M.redo, fset_ne _ _ e] at hb; exact .inr ⟨j, hb⟩)
  gl := rfl
  keep := fun b _ hn => hA.heap b fun h => hn (h.imp id fun h => ⟨κ, h⟩)
  size := by show m.w.heap.size ≤ w'.heap.size; rw [hA.size]; exact Nat.le_refl _
  os := hA.os
  tape := hA.tape
  output := hA.output
  fzo := fun _ h => .inl h
theorem redo_hr {m : M} (H : HR m) {κ : Nat} {r : Res} {ψ : Nat → Prop} {w' : World} (hu : (m.h κ).used) (hA : Apart m.w w' fun b => m.χ b ∨ m.φ κ b)
    (hψ : ∀ b, ψ b → m.χ b ∨ m.φ κ b) (hrow : ∀ t xs v, r = .row t xs v → ∃ t0 xs0 v0, m.h κ = .live (.row t0 xs0 v0) ∧ v0 < v)
    (hr : ResR (m.redo κ r ψ w') κ r ψ) : HR (m.redo κ r ψ w') where
  res := fun j q hq => by
    by_cases e : j = κ
    · subst e
      simp only [M.redo, Heap.set_eq, Slot.live.injEq] at hq
      subst hq
      have : (m.redo j r ψ w').φ j = ψ := by simp only [M.redo, fset_eq]
      rw [this]; exact hr
    · have hq' : m.h j = .live q := by simpa only [M.redo, Heap.set_ne _ _ e] using hq
      have : (m.redo κ r ψ w').φ j = m.φ j := by simp only [M.redo, fset_ne _ _ e]
      rw [this]
      refine (H.res j q hq').keep (redo_ext H hu hA hψ hrow) (by rw [hq']; trivial) fun b hb => hA.heap b fun h => ?_
      rcases h with h | h
      · exact H.loose j b hb h
      · exact H.disj j κ b e hb h
  dead := fun j hj b => by
    by_cases e : j = κ
    · subst e; exact absurd (by simp only [M.redo, Heap.set_eq]) (hj r)
    · simp only [M.redo, fset_ne _ _ e]
      exact H.dead j (fun q hq => hj q (by simpa only [M.redo, Heap.set_ne _ _ e] using hq)) b
  disj := fun i j b hne hi hj => by
    have key : ∀ j, j ≠ κ → m.φ j b → ¬ ψ b := fun j hj h1 h2 => by
      rcases hψ b h2 with h | h
      · exact H.loose j b h1 h
      · exact H.disj j κ b hj h1 h
    by_cases e : i = κ
    · subst e
      exact key j (Ne.symm hne) (by simpa only [M.redo, fset_ne _ _ (Ne.symm hne)] using hj) (by simpa only [M.redo, fset_eq] using hi)
    · have hi' : m.φ i b := by simpa only [M.redo, fset_ne _ _ e] using hi
      by_cases e' : j = κ
      · subst e'; exact key i e hi' (by simpa only [M.redo, fset_eq] using hj)
      · exact H.disj i j b hne hi' (by simpa only [M.redo, fset_ne _ _ e'] using hj)
  loose := fun i b hi hc => by
    by_cases e : i = κ
    · subst e; exact hc.2 (by simpa only [M.redo, fset_eq] using hi)
    · have hi' : m.φ i b := by simpa only [M.redo, fset_ne _ _ e] using hi
      rcases hc.1 with h | h
      · exact H.loose i b hi' h
      · exact H.disj i κ b e hi' h
  fzφ := fun i b hi hf => by
    by_cases e : i = κ
    · subst e
      rcases hψ b (by simpa only [M.redo, fset_eq] using hi) with h | h
      · exact H.fzχ b h hf
      · exact H.fzφ i b h hf
    · exact H.fzφ i b (by simpa only [M.redo, fset_ne _ _ e] using hi) hf
  fzχ := fun b hb => by
    rcases hb.1 with h | h
    · exact H.fzχ b h
    · exact H.fzφ κ b h
  ltf := fun b hb => by show b < w'.heap.size; rw [hA.size]; exact H.ltf b hb
  ltχ := fun b hb => by
    show b < w'.heap.size
    rw [hA.size]
    rcases hb.1 with h | h
    · exact H.ltχ b h
    · exact H.ltφ h
  glob := fun b o h => ⟨(hA.heap b fun h' => h'.elim (fun h' => H.fzχ b h' (H.glob b o h).2) fun h' => H.fzφ κ b h' (H.glob b o h).2).trans (H.glob b o h).1, (H.glob b o h).2⟩
end Go.Den
namespace Go.Den
open Go

/-! ## 16. Trees: what a run says -/
section
variable {V : Nat → Sig} {α β R : Type} {F : Tr.Fs V} {h : Heap}
namespace Tr
theorem run_bind (t : Tr V α) (f : α → Tr V β) : (t.bind f).run F h = (t.run F h).bind fun p => ((f p.1).run F h).map fun q => (q.1, p.2 ++ q.2) := by
  induction t with
  | ret a => cases hq : (f a).run F h <;> simp [bind, run, hq]
  | no => rfl
  | grd b t ih => cases b <;> simp [bind, run, ih]
  | ite b t e ih1 ih2 => cases b <;> simp [bind, run, ih1, ih2]
  | look κ g ih =>
    simp only [bind, run, ih]
    cases (g (h κ)).run F h with
    | none => rfl
    | some p => cases hq : (f p.1).run F h <;> simp [hq]
  | call v x g ih =>
    simp only [bind, run]
    cases F v x with
    | none => rfl
    | some r => exact ih r
  | opt t x n s ih1 ih2 => cases x <;> simp [bind, run, ih1, ih2]
theorem bind_some {t : Tr V α} {f : α → Tr V β} {b : β} {rd : List Nat} (hr : (t.bind f).run F h = some (b, rd)) :
    ∃ a r1 r2, t.run F h = some (a, r1) ∧ (f a).run F h = some (b, r2) ∧ rd = r1 ++ r2 := by
  rw [run_bind] at hr
  obtain ⟨⟨a, r1⟩, h1, h2⟩ := Option.bind_eq_some_iff.1 hr
  obtain ⟨⟨b', r2⟩, h3, h4⟩ := Option.map_eq_some_iff.1 h2
  simp only [Prod.mk.injEq] at h4
  exact ⟨a, r1, r2, h1, by rw [h3, h4.1], h4.2.symm⟩
theorem look_some {κ : Nat} {f : Slot → Tr V α} {a : α} {rd : List Nat} (hr : (Tr.look κ f).run F h = some (a, rd)) : ∃ r, (f (h κ)).run F h = some (a, r) ∧ rd = κ :: r := by
  simp only [run, Option.map_eq_some_iff, Prod.exists, Prod.mk.injEq] at hr
  obtain ⟨a', r, h1, h2, h3⟩ := hr
  exact ⟨r, by rw [h1, h2], h3.symm⟩
theorem ret_some {a b : α} {rd : List Nat} (hr : (Tr.ret (V := V) a).run F h = some (b, rd)) : b = a ∧ rd = [] := by
  simp only [run, Option.some.injEq, Prod.mk.injEq] at hr
  exact ⟨hr.1.symm, hr.2.symm⟩
theorem grd_some {c : Bool} {t : Tr V α} {b : α} {rd : List Nat} (hr : (Tr.grd c t).run F h = some (b, rd)) : c = true ∧ t.run F h = some (b, rd) := by
  cases c
  · simp [run] at hr
  · simpa [run] using hr
theorem cond_some {c : Bool} {t e : Tr V α} {b : α} {rd : List Nat} (hr : (bif c then t else e : Tr V α).run F h = some (b, rd)) : (c = true ∧ t.run F h = some (b, rd)) ∨ (c = false ∧ e.run F h = some (b, rd)) := by
  cases c
  · exact .inr ⟨rfl, hr⟩
  · exact .inl ⟨rfl, hr⟩
theorem no_some {b : α} {rd : List Nat} (hr : (Tr.no : Tr V α).run F h = some (b, rd)) : False := by simp [run] at hr
theorem ofOpt_some {o : Option α} {b : α} {rd : List Nat} (hr : (Tr.ofOpt (V := V) o).run F h = some (b, rd)) : o = some b ∧ rd = [] := by
  cases o with
  | none => simp [ofOpt, run] at hr
  | some a => simp only [ofOpt, run, Option.some.injEq, Prod.mk.injEq] at hr; exact ⟨by rw [hr.1], hr.2.symm⟩
theorem fresh_some {key : Nat} {t : Tr V α} {b : α} {rd : List Nat} (hr : (fresh key t).run F h = some (b, rd)) : h key = .free ∧ ∃ r, t.run F h = some (b, r) ∧ rd = key :: r := by
  obtain ⟨r, h1, h2⟩ := look_some hr
  cases hk : h key with
  | free => rw [hk] at h1; exact ⟨rfl, r, h1, h2⟩
  | gone => rw [hk] at h1; exact (no_some h1).elim
  | live q => rw [hk] at h1; exact (no_some h1).elim
/-- The run depends on what it looked at alone. -/
theorem run_stable {h' : Heap} : ∀ {t : Tr V α} {a : α} {rd : List Nat}, t.run F h = some (a, rd) → (∀ κ ∈ rd, h' κ = h κ) → t.run F h' = some (a, rd) := by
  intro t
  induction t with
  | ret a => intro b rd hr _; exact hr
  | no => intro b rd hr _; exact (no_some hr).elim
  | grd c t ih => intro b rd hr hs; obtain ⟨rfl, h1⟩ := grd_some hr; simpa [run] using ih h1 hs
  | ite c t e ih1 ih2 =>
    intro b rd hr hs
    cases c
    · simp only [run] at hr ⊢; simpa using ih2 (by simpa using hr) hs
    · simp only [run] at hr ⊢; simpa using ih1 (by simpa using hr) hs
  | look κ f ih =>
    intro b rd hr hs
    obtain ⟨r, h1, rfl⟩ := look_some hr
    have hκ := hs κ (by simp)
    simp only [run, hκ]
    rw [ih (h κ) h1 fun j hj => hs j (by simp [hj])]
    rfl
  | call v x f ih =>
    intro b rd hr hs
    simp only [run] at hr ⊢
    obtain ⟨r, h1, h2⟩ := Option.bind_eq_some_iff.1 hr
    rw [h1]
    exact ih r h2 hs
  | opt t x n s ih1 ih2 =>
    intro b rd hr hs
    cases x with
    | none => simp only [run] at hr ⊢; exact ih1 hr hs
    | some y => simp only [run] at hr ⊢; exact ih2 y hr hs
theorem cps_eq {K : α → List Nat → Option R} : ∀ (t : Tr V α) (rd : List Nat), t.cps F h K rd = (t.run F h).bind fun p => K p.1 (p.2.reverse ++ rd) := by
  intro t
  induction t with
  | ret a => intro rd; simp [cps, run]
  | no => intro rd; rfl
  | grd b t ih => intro rd; cases b <;> simp [cps, run, ih]
  | ite b t e ih1 ih2 => intro rd; cases b <;> simp [cps, run, ih1, ih2]
  | look κ f ih => intro rd; simp only [cps, run, ih]; cases (f (h κ)).run F h <;> simp
  | call v x f ih =>
    intro rd
    simp only [cps, run]
    cases F v x with
    | none => rfl
    | some r => exact ih r rd
  | opt t x n s ih1 ih2 => intro rd; cases x <;> simp [cps, run, ih1, ih2]
end Tr
end

theorem castL_some {t u : Ty} {xs : List t.D} {ys : List u.D} (h : castL t u xs = some ys) : ∃ e : t = u, ys = e ▸ xs := by
  unfold castL at h
  split at h
  · rename_i hb
    exact ⟨Ty.eq_of_beq hb, (Option.some.inj h).symm⟩
  · cases h

/-! ## 17. Cells that are read -/
theorem nth_drop_take (t : Ty) (xs : List t.D) (lo n i : Nat) (h : i < n) : nth t ((xs.drop lo).take n) i = nth t xs (lo + i) := by
  simp [nth, List.getD_eq_getElem?_getD, h, List.getElem?_drop]
theorem addr_add (b off n : Nat) : (⟨b, off, none⟩ : Addr).add n = ⟨b, off + n, none⟩ := by
  unfold Addr.add; split <;> simp_all
/-- A cut of a slice that is read. -/
theorem Rd.sub {w : World} {fz : Nat → Prop} {t : Ty} {A A' : Option Addr} {n c : Nat} {xs : List t.D} (h : Rd w fz (.sl t) [.slice A n c] xs) {lo hi : Nat} (h1 : lo ≤ hi) (h2 : hi ≤ List.length xs) (hA : Cut A A' lo c t.nc) :
    Rd w fz (.sl t) [.slice A' (hi - lo) (c - lo)] ((xs.drop lo).take (hi - lo)) := by
  obtain ⟨A1, c', e, hc, hp⟩ := h
  simp only [List.cons.injEq, and_true, Value.slice.injEq] at e
  obtain ⟨rfl, rfl, rfl⟩ := e
  have hl : List.length ((xs.drop lo).take (hi - lo)) = hi - lo := by simp; omega
  refine ⟨_, _, by rw [hl], by rw [hl]; omega, fun h0 => ?_⟩
  rw [hl] at h0
  obtain ⟨b, off, rfl, hb, hi'⟩ := hp (by omega)
  obtain ⟨o', rfl, ho, _⟩ := hA.2 b off rfl
  have ho := ho (by omega)
  subst ho
  refine ⟨b, off + lo * t.nc, rfl, hb, fun i hlt => ?_⟩
  rw [hl] at hlt
  obtain ⟨vs, e1, e2, e3⟩ := hi' (lo + i) (by omega)
  refine ⟨vs, e1, ?_, by rw [nth_drop_take t xs lo _ i hlt]; exact e3⟩
  rw [show off + lo * t.nc + i * t.nc = off + (lo + i) * t.nc by rw [Nat.add_mul]; omega]
  exact e2
theorem leaf_rd {w : World} {fz : Nat → Prop} : ∀ {t : Ty} {vs : List Value} {x : t.D} {o : Nat} {l}, Rd w fz t vs x → leaf t o = some l → ∃ v, vs[o]? = some v ∧ Rd w fz (.sl l.1) [v] (l.2.1 x)
  | .sl t, vs, x, 0, l, h, hl => by
    simp only [leaf, Option.some.injEq] at hl
    subst hl
    have := h
    obtain ⟨A, c, e, _⟩ := h
    exact ⟨_, by rw [e]; rfl, by rw [← e]; exact this⟩
  | .sl t, _, _, _ + 1, _, _, hl => by simp [leaf] at hl
  | .int _, _, _, _, _, _, hl => by simp [leaf] at hl
  | .bool, _, _, _, _, _, hl => by simp [leaf] at hl
  | .str, _, _, _, _, _, hl => by simp [leaf] at hl
  | .one, _, _, _, _, _, hl => by simp [leaf] at hl
  | .ls _, _, _, _, _, _, hl => by simp [leaf] at hl
  | .pr a b, vs, x, o, l, ⟨c1, c2, e, h1, h2⟩, hl => by
    subst e
    simp only [leaf] at hl
    cases hb : Nat.blt o a.nc with
    | true =>
      rw [hb] at hl
      simp only [cond_true, Option.map_eq_some_iff] at hl
      obtain ⟨l', hl', rfl⟩ := hl
      obtain ⟨v, h3, h4⟩ := leaf_rd h1 hl'
      refine ⟨v, ?_, h4⟩
      have ho : o < a.nc := Nat.le_of_ble_eq_true hb
      rw [List.getElem?_append_left (by rw [h1.len]; exact ho)]
      exact h3
    | false =>
      rw [hb] at hl
      simp only [cond_false, Option.map_eq_some_iff] at hl
      obtain ⟨l', hl', rfl⟩ := hl
      obtain ⟨v, h3, h4⟩ := leaf_rd h2 hl'
      refine ⟨v, ?_, h4⟩
      have ho : a.nc ≤ o := by
        rcases Nat.lt_or_ge o a.nc with h | h
        · have : Nat.blt o a.nc = true := Nat.ble_eq_true_of_le h
          rw [this] at hb; cases hb
        · exact h
      rw [List.getElem?_append_right (by rw [h1.len]; exact ho), h1.len]
      exact h3

/-- All there is. -/
abbrev M.all (m : M) : Nat → Prop := fun b => b < m.w.heap.size
theorem HR.rowRd {m : M} (H : HR m) {κ : Nat} {t : Ty} {xs : List t.D} {v : Nat} (hr : m.h κ = .live (.row t xs v)) : Rd m.w m.all (.sl t) [slV (m.ρ κ)] xs ∧ (m.ρ κ).n = List.length xs ∧ (m.ρ κ).sz = t.nc := by
  obtain ⟨h1, h2, h3⟩ := H.res κ _ hr
  exact ⟨h1.rd (fun b hb => H.ltf b hb) fun b hb => h1.lt b hb, h2, h3⟩

/-- What is read that leans on these keys. -/
def M.seen (m : M) (ks : List Nat) : Nat → Prop := fun b => m.fz b ∨ ∃ κ ∈ ks, m.φ κ b
theorem HR.rowRdK {m : M} (H : HR m) {ks : List Nat} {κ : Nat} (hk : κ ∈ ks) {t : Ty} {xs : List t.D} {v : Nat} (hr : m.h κ = .live (.row t xs v)) : Rd m.w (m.seen ks) (.sl t) [slV (m.ρ κ)] xs ∧ (m.ρ κ).n = List.length xs ∧ (m.ρ κ).sz = t.nc := by
  obtain ⟨h1, h2, h3⟩ := H.res κ _ hr
  exact ⟨h1.rd (fun b hb => .inl hb) fun b hb => .inr ⟨κ, hk, hb⟩, h2, h3⟩
theorem HR.rdK {m : M} {ks : List Nat} {t : Ty} {vs : List Value} {x : t.D} (h : Rd m.w m.fz t vs x) : Rd m.w (m.seen ks) t vs x := Rd.mono (fun b hb => ⟨.inl hb, rfl⟩) h
theorem HR.ofK {m : M} (H : HR m) {ks : List Nat} {t : Ty} {vs : List Value} {x : t.D} (h : Rd m.w (m.seen ks) t vs x) : Rd m.w m.all t vs x :=
  Rd.mono (fun b hb => ⟨hb.elim (H.ltf b) fun ⟨κ, _, h⟩ => H.ltφ h, rfl⟩) h
theorem HR.lentRdK {m : M} (H : HR m) {ks : List Nat} {κ : Nat} {t : Ty} {xs : List t.D} (hr : m.h κ = .live (.lent t xs)) : Rd m.w (m.seen ks) (.sl t) [slV (m.ρ κ)] xs ∧ (m.ρ κ).n = List.length xs ∧ (m.ρ κ).sz = t.nc := by
  obtain ⟨h1, h2, h3, _⟩ := H.res κ _ hr
  exact ⟨Rd.mono (fun b hb => ⟨.inl hb, rfl⟩) h1, h2, h3⟩
section
variable {V : Nat → Sig} {F : Tr.Fs V}
theorem readS_rdK {m : M} (H : HR m) {ks : List Nat} {u : Ty} {x : SV} {v : Value} {xs : List u.D} {rd : List Nat} (hks : ∀ κ ∈ svKey x, κ ∈ ks) (hx : m.SR x v) (hr : (readS (V := V) u x).run F m.h = some (xs, rd)) : Rd m.w (m.seen ks) (.sl u) [v] xs := by
  cases x <;> simp only [readS] at hr
  case nils =>
    obtain ⟨rfl, _⟩ := Tr.ret_some hr
    rw [show v = .slice none 0 0 from hx]
    exact ⟨none, 0, rfl, Nat.le_refl _, fun h => absurd h (by simp)⟩
  case lst t ys =>
    obtain ⟨h1, _⟩ := Tr.ofOpt_some hr
    obtain ⟨e, rfl⟩ := castE_some h1
    exact Rd.cvt (t := .sl t) (u := .sl u) e (HR.rdK hx)
  case own κ =>
    obtain ⟨r, h1, _⟩ := Tr.look_some hr
    obtain ⟨hu, rfl⟩ := hx
    cases hκ : m.h κ with
    | free => rw [hκ] at h1; exact (Tr.no_some h1).elim
    | gone => rw [hκ] at h1; exact (Tr.no_some h1).elim
    | live q =>
      rw [hκ] at h1
      cases q with
      | box c => exact (Tr.no_some h1).elim
      | cbox c => exact (Tr.no_some h1).elim
      | mp a t es => exact (Tr.no_some h1).elim
      | row t ys ver =>
        obtain ⟨h2, _⟩ := Tr.ofOpt_some h1
        obtain ⟨e, rfl⟩ := castE_some h2
        exact Rd.cvt (t := .sl t) (u := .sl u) e (H.rowRdK (hks κ (by simp [svKey])) hκ).1
      | lent t ys =>
        obtain ⟨h2, _⟩ := Tr.ofOpt_some h1
        obtain ⟨e, rfl⟩ := castE_some h2
        exact Rd.cvt (t := .sl t) (u := .sl u) e (H.lentRdK hκ).1
  case sub κ lo hi =>
    obtain ⟨r, h1, _⟩ := Tr.look_some hr
    obtain ⟨hu, hlo, hhi, A', hcut, rfl⟩ := hx
    cases hκ : m.h κ with
    | free => rw [hκ] at h1; exact (Tr.no_some h1).elim
    | gone => rw [hκ] at h1; exact (Tr.no_some h1).elim
    | live q =>
      rw [hκ] at h1
      cases q with
      | box c => exact (Tr.no_some h1).elim
      | cbox c => exact (Tr.no_some h1).elim
      | mp a t es => exact (Tr.no_some h1).elim
      | row t ys ver =>
        obtain ⟨zs, r1, r2, h2, h3, _⟩ := Tr.bind_some h1
        obtain ⟨h2, _⟩ := Tr.ofOpt_some h2
        obtain ⟨e, rfl⟩ := castE_some h2
        obtain ⟨rfl, _⟩ := Tr.ret_some h3
        obtain ⟨h4, h5, h6⟩ := H.rowRdK (hks κ (by simp [svKey])) hκ
        rw [h6] at hcut
        have := Rd.cvt (t := .sl t) (u := .sl u) e (h4.sub hlo (by rw [← h5]; exact hhi) hcut)
        rw [show ((cvtL e ys).drop lo).take (hi - lo) = cvtL e ((ys.drop lo).take (hi - lo)) from cvtL_drop (Ty.D_eqv e) ys lo (hi - lo)]
        exact this
      | lent t ys =>
        obtain ⟨zs, r1, r2, h2, h3, _⟩ := Tr.bind_some h1
        obtain ⟨h2, _⟩ := Tr.ofOpt_some h2
        obtain ⟨e, rfl⟩ := castE_some h2
        obtain ⟨rfl, _⟩ := Tr.ret_some h3
        obtain ⟨h4, h5, h6⟩ := H.lentRdK (ks := ks) hκ
        rw [h6] at hcut
        have := Rd.cvt (t := .sl t) (u := .sl u) e (h4.sub hlo (by rw [← h5]; exact hhi) hcut)
        rw [show ((cvtL e ys).drop lo).take (hi - lo) = cvtL e ((ys.drop lo).take (hi - lo)) from cvtL_drop (Ty.D_eqv e) ys lo (hi - lo)]
        exact this
  case view κ ver i o =>
    obtain ⟨r, h1, _⟩ := Tr.look_some hr
    obtain ⟨hu, _, hv⟩ := hx
    cases hκ : m.h κ with
    | free => rw [hκ] at h1; exact (Tr.no_some h1).elim
    | gone => rw [hκ] at h1; exact (Tr.no_some h1).elim
    | live q =>
      rw [hκ] at h1
      cases q with
      | box c => exact (Tr.no_some h1).elim
      | cbox c => exact (Tr.no_some h1).elim
      | mp a t es => exact (Tr.no_some h1).elim
      | lent t ys => exact (Tr.no_some h1).elim
      | row t ys ver' =>
        rcases Tr.cond_some h1 with ⟨hb, h1⟩ | ⟨_, h1⟩
        · have hver : ver' = ver := Nat.eq_of_beq_eq_true hb
          cases hl : leaf t o with
          | none => rw [hl] at h1; exact (Tr.no_some h1).elim
          | some l =>
            rw [hl] at h1
            obtain ⟨h2, _⟩ := Tr.ofOpt_some h1
            obtain ⟨l1, l2, l3⟩ := l
            obtain ⟨ee, rfl⟩ := castE_some h2
            simp only at ee
            obtain ⟨hi, b, off, hA, hat⟩ := (hv t ys ver' hκ).2 hver.symm
            obtain ⟨⟨A, c, e, hc, hp⟩, h5, h6⟩ := H.rowRdK (hks κ (by simp [svKey])) hκ
            simp only [slV, List.cons.injEq, and_true, Value.slice.injEq] at e
            obtain ⟨b', off', e1, hb', hi'⟩ := hp (by omega)
            rw [← e.1, hA] at e1
            injection e1 with e1; injection e1 with e1 e2 _
            subst e1; subst e2
            obtain ⟨vs, hvl, hat', hrd⟩ := hi' i hi
            obtain ⟨v', hv', hr'⟩ := leaf_rd hrd hl
            have hol : o < vs.length := (List.getElem?_eq_some_iff.1 hv').1
            have c1 := hat'.cell hol
            have c2 := hat.cell (j := 0) (by simp)
            simp only [Nat.add_zero] at c2
            rw [c2] at c1
            have : v = v' := by
              have := Option.some.inj c1
              simp only [List.getElem_cons_zero] at this
              rw [this, (List.getElem?_eq_some_iff.1 hv').2]
            rw [this]
            exact Rd.cvt (t := .sl l1) (u := .sl u) ee hr'
        · exact (Tr.no_some h1).elim
  all_goals exact (Tr.no_some hr).elim

theorem readS_rd {m : M} (H : HR m) {u : Ty} {x : SV} {v : Value} {xs : List u.D} {rd : List Nat} (hx : m.SR x v) (hr : (readS (V := V) u x).run F m.h = some (xs, rd)) : Rd m.w m.all (.sl u) [v] xs :=
  H.ofK (readS_rdK H (ks := svKey x) (fun _ h => h) hx hr)

theorem decR_rdK {m : M} (H : HR m) {ks : List Nat} : ∀ {t : Ty} {cs : List SV} {vs : List Value} {x : t.D} {rest : List SV} {rd : List Nat}, (∀ κ ∈ keysIn cs, κ ∈ ks) → All2 m.SR cs vs → (decR (V := V) t cs).run F m.h = some ((x, rest), rd) →
    ∃ v1 v2, vs = v1 ++ v2 ∧ Rd m.w (m.seen ks) t v1 x ∧ (∀ κ ∈ keysIn rest, κ ∈ ks) ∧ All2 m.SR rest v2
  | .int k, cs, vs, x, rest, rd, hks, ha, hr => by
    match cs, vs, hks, ha, hr with
    | .int l n :: r, v :: vs, hks, ha, hr =>
      simp only [decR] at hr
      rcases Tr.cond_some hr with ⟨hk, hr⟩ | ⟨_, hr⟩
      · obtain ⟨e, _⟩ := Tr.ret_some hr
        obtain ⟨rfl, rfl⟩ := Prod.mk.inj e
        have : k = l := of_decide_eq_true hk
        subst this
        exact ⟨[v], vs, rfl, by rw [show v = _ from ha.1]; rfl, (fun κ h => hks κ (by simpa [keysIn, svKey] using h)), ha.2⟩
      · exact (Tr.no_some hr).elim
    | .bool _ :: _, _, _, _, hr | .str _ :: _, _, _, _, hr | .lst _ _ :: _, _, _, _, hr | .own _ :: _, _, _, _, hr | .sub _ _ _ :: _, _, _, _, hr | .view _ _ _ _ :: _, _, _, _, hr | .ptr _ _ :: _, _, _, _, hr | .rptr _ _ _ :: _, _, _, _, hr | .lptr _ _ _ _ :: _, _, _, _, hr | .vptr _ _ _ _ _ _ :: _, _, _, _, hr | .clo _ _ :: _, _, _, _, hr | .nils :: _, _, _, _, hr | .nilp :: _, _, _, _, hr | .nilf :: _, _, _, _, hr | .err _ :: _, _, _, _, hr | .undef :: _, _, _, _, hr | .mref _ :: _, _, _, _, hr | .mkeys _ _ :: _, _, _, _, hr | [], _, _, _, hr => simp [decR, Tr.run] at hr
  | .bool, cs, vs, x, rest, rd, hks, ha, hr => by
    match cs, vs, hks, ha, hr with
    | .bool b :: r, v :: vs, hks, ha, hr =>
      simp only [decR] at hr
      obtain ⟨e, _⟩ := Tr.ret_some hr
      obtain ⟨rfl, rfl⟩ := Prod.mk.inj e
      exact ⟨[v], vs, rfl, by rw [show v = _ from ha.1]; rfl, (fun κ h => hks κ (by simpa [keysIn, svKey] using h)), ha.2⟩
    | .int _ _ :: _, _, _, _, hr | .str _ :: _, _, _, _, hr | .lst _ _ :: _, _, _, _, hr | .own _ :: _, _, _, _, hr | .sub _ _ _ :: _, _, _, _, hr | .view _ _ _ _ :: _, _, _, _, hr | .ptr _ _ :: _, _, _, _, hr | .rptr _ _ _ :: _, _, _, _, hr | .lptr _ _ _ _ :: _, _, _, _, hr | .vptr _ _ _ _ _ _ :: _, _, _, _, hr | .clo _ _ :: _, _, _, _, hr | .nils :: _, _, _, _, hr | .nilp :: _, _, _, _, hr | .nilf :: _, _, _, _, hr | .err _ :: _, _, _, _, hr | .undef :: _, _, _, _, hr | .mref _ :: _, _, _, _, hr | .mkeys _ _ :: _, _, _, _, hr | [], _, _, _, hr => simp [decR, Tr.run] at hr
  | .str, cs, vs, x, rest, rd, hks, ha, hr => by
    match cs, vs, hks, ha, hr with
    | .str b :: r, v :: vs, hks, ha, hr =>
      simp only [decR] at hr
      obtain ⟨e, _⟩ := Tr.ret_some hr
      obtain ⟨rfl, rfl⟩ := Prod.mk.inj e
      exact ⟨[v], vs, rfl, by rw [show v = _ from ha.1]; rfl, (fun κ h => hks κ (by simpa [keysIn, svKey] using h)), ha.2⟩
    | .int _ _ :: _, _, _, _, hr | .bool _ :: _, _, _, _, hr | .lst _ _ :: _, _, _, _, hr | .own _ :: _, _, _, _, hr | .sub _ _ _ :: _, _, _, _, hr | .view _ _ _ _ :: _, _, _, _, hr | .ptr _ _ :: _, _, _, _, hr | .rptr _ _ _ :: _, _, _, _, hr | .lptr _ _ _ _ :: _, _, _, _, hr | .vptr _ _ _ _ _ _ :: _, _, _, _, hr | .clo _ _ :: _, _, _, _, hr | .nils :: _, _, _, _, hr | .nilp :: _, _, _, _, hr | .nilf :: _, _, _, _, hr | .err _ :: _, _, _, _, hr | .undef :: _, _, _, _, hr | .mref _ :: _, _, _, _, hr | .mkeys _ _ :: _, _, _, _, hr | [], _, _, _, hr => simp [decR, Tr.run] at hr
  | .sl t, cs, vs, x, rest, rd, hks, ha, hr => by
    match cs, vs, hks, ha, hr with
    | y :: r, v :: vs, hks, ha, hr =>
      simp only [decR] at hr
      obtain ⟨xs, r1, r2, h1, h2, _⟩ := Tr.bind_some hr
      obtain ⟨e, _⟩ := Tr.ret_some h2
      obtain ⟨rfl, rfl⟩ := Prod.mk.inj e
      exact ⟨[v], vs, rfl, readS_rdK H (fun κ h => hks κ (by simp only [keysIn, List.flatMap_cons, List.mem_append]; exact .inl h)) ha.1 h1, (fun κ h => hks κ (by simp only [keysIn, List.flatMap_cons, List.mem_append]; exact .inr h)), ha.2⟩
    | [], _, _, _, hr => simp [decR, Tr.run] at hr
  | .ls t, cs, vs, x, rest, rd, hks, ha, hr => by
    match cs, vs, hks, ha, hr with
    | y :: r, v :: vs, hks, ha, hr =>
      simp only [decR] at hr
      obtain ⟨xs, r1, r2, h1, h2, _⟩ := Tr.bind_some hr
      obtain ⟨e, _⟩ := Tr.ret_some h2
      obtain ⟨rfl, rfl⟩ := Prod.mk.inj e
      exact ⟨[v], vs, rfl, readS_rdK H (fun κ h => hks κ (by simp only [keysIn, List.flatMap_cons, List.mem_append]; exact .inl h)) ha.1 h1, (fun κ h => hks κ (by simp only [keysIn, List.flatMap_cons, List.mem_append]; exact .inr h)), ha.2⟩
    | [], _, _, _, hr => simp [decR, Tr.run] at hr
  | .one, cs, vs, x, rest, rd, hks, ha, hr => by
    have hr : (Tr.ret (V := V) (((), cs) : Unit × List SV)).run F m.h = some ((x, rest), rd) := by cases cs <;> exact hr
    obtain ⟨e, _⟩ := Tr.ret_some hr
    obtain ⟨_, rfl⟩ := Prod.mk.inj e
    exact ⟨[], vs, rfl, rfl, hks, ha⟩
  | .pr a b, cs, vs, x, rest, rd, hks, ha, hr => by
    have hr : ((decR (V := V) a cs).bind fun p => (decR b p.2).bind fun q => .ret ((p.1, q.1), q.2)).run F m.h = some ((x, rest), rd) := by cases cs <;> exact hr
    obtain ⟨⟨x1, c1⟩, r1, r2, h1, h2, _⟩ := Tr.bind_some hr
    obtain ⟨⟨x2, c2⟩, r3, r4, h3, h4, _⟩ := Tr.bind_some h2
    obtain ⟨e, _⟩ := Tr.ret_some h4
    obtain ⟨rfl, rfl⟩ := Prod.mk.inj e
    obtain ⟨v1, v2, rfl, h5, hk5, h6⟩ := decR_rdK H hks ha h1
    obtain ⟨v3, v4, rfl, h7, hk7, h8⟩ := decR_rdK H hk5 h6 h3
    exact ⟨v1 ++ v3, v4, by simp, ⟨v1, v3, rfl, h5, h7⟩, hk7, h8⟩
end
end Go.Den
namespace Go.Den
open Go

/-! ## 18. Cells that are taken over -/
theorem inj3 {α β γ : Type} {a a' : α} {b b' : β} {c c' : γ} (h : (a, b, c) = (a', b', c')) : a = a' ∧ b = b' ∧ c = c' := by cases h; exact ⟨rfl, rfl, rfl⟩
theorem nodupB_append {a b : List Nat} : nodupB (a ++ b) = true → nodupB a = true ∧ nodupB b = true ∧ ∀ x, x ∈ a → x ∉ b := by
  induction a with
  | nil => intro h; exact ⟨rfl, h, fun x hx => by cases hx⟩
  | cons y a ih =>
    intro h
    simp only [List.cons_append, nodupB, Bool.and_eq_true, Bool.not_eq_true', List.any_append, Bool.or_eq_false_iff] at h
    obtain ⟨⟨h1, h2⟩, h3⟩ := h
    obtain ⟨h4, h5, h6⟩ := ih h3
    refine ⟨by simp [nodupB, h1, h4], h5, fun x hx hb => ?_⟩
    rcases List.mem_cons.1 hx with rfl | hx
    · have : b.any (Nat.beq x) = true := List.any_eq_true.2 ⟨x, hb, Nat.beq_refl x⟩
      rw [this] at h2; cases h2
    · exact h6 x hx hb
theorem nodupB_cons {x : Nat} {b : List Nat} (h : nodupB (x :: b) = true) : x ∉ b ∧ nodupB b = true := by
  have := nodupB_append (a := [x]) (b := b) h
  exact ⟨this.2.2 x (by simp), this.2.1⟩
theorem keysOf_append (a b : Upd) : keysOf (a ++ b) = keysOf a ++ keysOf b := by simp [keysOf]

theorem Ow.sub {w : World} {fz : Nat → Prop} {t : Ty} {A A' : Option Addr} {n c : Nat} {xs : List t.D} {φ : Nat → Prop} (h : Ow w fz (.sl t) [.slice A n c] xs φ) {lo hi : Nat} (h1 : lo ≤ hi) (h2 : hi ≤ List.length xs) (hA : Cut A A' lo c t.nc) :
    ∃ ψ : Nat → Prop, Ow w fz (.sl t) [.slice A' (hi - lo) (c - lo)] ((xs.drop lo).take (hi - lo)) ψ ∧ ∀ b, ψ b → φ b := by
  obtain ⟨A1, c', e, hc⟩ := h
  simp only [List.cons.injEq, and_true, Value.slice.injEq] at e
  obtain ⟨rfl, rfl, rfl⟩ := e
  have hl : List.length ((xs.drop lo).take (hi - lo)) = hi - lo := by simp; omega
  rcases hc with ⟨rfl, h0, rfl, hφ⟩ | ⟨b, off, m, e, fr, ψ, rfl, hm, hmu, hs, hcl, hi', hd, hp, hφ⟩
  · refine ⟨fun _ => False, ⟨_, _, by rw [hl], .inl ⟨hA.1 rfl, by rw [hl]; omega, by omega, fun b hb => hb⟩⟩, fun b hb => hb.elim⟩
  · refine ⟨fun b' => b' = b ∨ ∃ i, i < hi - lo ∧ ψ (lo + i) b', ⟨_, _, by rw [hl], .inr ?_⟩, fun b' hb => (hφ b').2 ?_⟩
    · have hadd : ∃ off', A' = some ⟨b, off', none⟩ ∧ off' + (c - lo) * t.nc ≤ m.size ∧ (lo < hi → off' = off + lo * t.nc) := by
        obtain ⟨o', rfl, ho, hb⟩ := hA.2 b off rfl
        refine ⟨o', rfl, ?_, fun h => ho (by omega)⟩
        by_cases hcl' : lo < c
        · rw [ho hcl']
          have : (c - lo) * t.nc + lo * t.nc = c * t.nc := by rw [← Nat.add_mul]; congr 1; omega
          omega
        · rw [show c - lo = 0 by omega, Nat.zero_mul]
          omega
      obtain ⟨off', ha, hsz, hoff⟩ := hadd
      rw [ha]
      refine ⟨b, off', m, e, fr, fun i => ψ (lo + i), rfl, hm, hmu, hsz, by rw [hl]; omega, fun i hlt => ?_, fun i hlt => ?_, fun i j b' hi1 hj1 hne => ?_, fun b' => by rw [hl]⟩
      · rw [hl] at hlt
        obtain ⟨vs, e1, e2, e3⟩ := hi' (lo + i) (by omega)
        refine ⟨vs, e1, ?_, by rw [nth_drop_take t xs lo _ i hlt]; exact e3⟩
        rw [hoff (by omega), show off + lo * t.nc + i * t.nc = off + (lo + i) * t.nc by rw [Nat.add_mul]; omega]
        exact e2
      · rw [hl] at hlt; exact hd _ (by omega)
      · rw [hl] at hi1 hj1; exact hp _ _ b' (by omega) (by omega) (by omega)
    · rcases hb with hb | ⟨i, hi1, hb⟩
      · exact .inl hb
      · exact .inr ⟨lo + i, by omega, hb⟩

/-- What is used up: rows; and rows that stay as they are from now on ('η': their blocks). -/
def Ups (m : M) (η : Nat → Prop) (u : Upd) : Prop := ∀ p ∈ u, (p.2 = .gone ∨ (∃ t xs v, p.2 = .live (.lent t xs) ∧ m.h p.1 = .live (.row t xs v) ∧ ∀ b, m.φ p.1 b → η b) ∨ ∃ cs, p.2 = .live (.cbox cs) ∧ m.h p.1 = .live (.box cs) ∧ ∀ b, m.φ p.1 b → η b) ∧ ∃ r, m.h p.1 = .live r
theorem Ups.more {m : M} {η η' : Nat → Prop} {a : Upd} (h : Ups m η a) (hη : ∀ b, η b → η' b) : Ups m η' a := fun p hp => by
  obtain ⟨h1, h2⟩ := h p hp
  refine ⟨?_, h2⟩
  rcases h1 with h1 | ⟨t, xs, v, e1, e2, e3⟩ | ⟨cs, e1, e2, e3⟩
  · exact .inl h1
  · exact .inr (.inl ⟨t, xs, v, e1, e2, fun b hb => hη b (e3 b hb)⟩)
  · exact .inr (.inr ⟨cs, e1, e2, fun b hb => hη b (e3 b hb)⟩)
theorem Ups.append {m : M} {η1 η2 : Nat → Prop} {a b : Upd} (h : Ups m η1 a) (k : Ups m η2 b) : Ups m (fun b => η1 b ∨ η2 b) (a ++ b) := fun p hp => by
  rcases List.mem_append.1 hp with hp | hp
  · exact h.more (fun _ h => .inl h) p hp
  · exact k.more (fun _ h => .inr h) p hp
theorem Ups.gone {m : M} {η : Nat → Prop} {κ : Nat} {r : Res} (h : m.h κ = .live r) : ∀ p ∈ [((κ, .gone) : Nat × Slot)], (p.2 = .gone ∨ (∃ t xs v, p.2 = .live (.lent t xs) ∧ m.h p.1 = .live (.row t xs v) ∧ ∀ b, m.φ p.1 b → η b) ∨ ∃ cs, p.2 = .live (.cbox cs) ∧ m.h p.1 = .live (.box cs) ∧ ∀ b, m.φ p.1 b → η b) ∧ ∃ r, m.h p.1 = .live r := fun p hp => by
  rw [List.mem_singleton.1 hp]; exact ⟨.inl rfl, r, h⟩

section
variable {V : Nat → Sig} {F : Tr.Fs V}
theorem rowO {m : M} (H : HR m) {κ : Nat} {t : Ty} {xs : List t.D} {v : Nat} (hr : m.h κ = .live (.row t xs v)) : Ow m.w m.fz (.sl t) [slV (m.ρ κ)] xs (m.φ κ) ∧ (m.ρ κ).n = List.length xs ∧ (m.ρ κ).sz = t.nc := H.res κ _ hr
theorem decO_ow {m : M} (H : HR m) : ∀ {t : Ty} {cs : List SV} {vs : List Value} {x : t.D} {rest : List SV} {u : Upd} {rd : List Nat}, All2 m.SR cs vs → (decO (V := V) t cs).run F m.h = some ((x, rest, u), rd) → nodupB (keysOf u) = true →
    ∃ v1 v2, ∃ ψ η : Nat → Prop, vs = v1 ++ v2 ∧ Ow m.w (fun b => m.fz b ∨ η b) t v1 x ψ ∧ All2 m.SR rest v2 ∧ Ups m η u ∧ (∀ b, ψ b ∨ η b → ∃ κ ∈ keysOf u, m.φ κ b) ∧ ∀ b, ψ b → ¬ η b
  | .int k, cs, vs, x, rest, u, rd, ha, hr, hn => by
    match cs, vs, ha, hr with
    | .int l n :: r, v :: vs, ha, hr =>
      simp only [decO] at hr
      rcases Tr.cond_some hr with ⟨hk, hr⟩ | ⟨_, hr⟩
      · obtain ⟨e, _⟩ := Tr.ret_some hr
        obtain ⟨rfl, rfl, rfl⟩ := inj3 e
        have : k = l := of_decide_eq_true hk
        subst this
        exact ⟨[v], vs, fun _ => False, fun _ => False, rfl, ⟨by rw [show v = _ from ha.1], fun _ h => h⟩, ha.2, (fun p hp => by cases hp), (fun _ h => h.elim id id |>.elim), fun _ h => h.elim⟩
      · exact (Tr.no_some hr).elim
    | .bool _ :: _, _, _, hr | .str _ :: _, _, _, hr | .lst _ _ :: _, _, _, hr | .own _ :: _, _, _, hr | .sub _ _ _ :: _, _, _, hr | .view _ _ _ _ :: _, _, _, hr | .ptr _ _ :: _, _, _, hr | .rptr _ _ _ :: _, _, _, hr | .lptr _ _ _ _ :: _, _, _, hr | .vptr _ _ _ _ _ _ :: _, _, _, hr | .clo _ _ :: _, _, _, hr | .nils :: _, _, _, hr | .nilp :: _, _, _, hr | .nilf :: _, _, _, hr | .err _ :: _, _, _, hr | .undef :: _, _, _, hr | .mref _ :: _, _, _, hr | .mkeys _ _ :: _, _, _, hr | [], _, _, hr => simp [decO, Tr.run] at hr
  | .bool, cs, vs, x, rest, u, rd, ha, hr, hn => by
    match cs, vs, ha, hr with
    | .bool b :: r, v :: vs, ha, hr =>
      simp only [decO] at hr
      obtain ⟨e, _⟩ := Tr.ret_some hr
      obtain ⟨rfl, rfl, rfl⟩ := inj3 e
      exact ⟨[v], vs, fun _ => False, fun _ => False, rfl, ⟨by rw [show v = _ from ha.1], fun _ h => h⟩, ha.2, (fun p hp => by cases hp), (fun _ h => h.elim id id |>.elim), fun _ h => h.elim⟩
    | .int _ _ :: _, _, _, hr | .str _ :: _, _, _, hr | .lst _ _ :: _, _, _, hr | .own _ :: _, _, _, hr | .sub _ _ _ :: _, _, _, hr | .view _ _ _ _ :: _, _, _, hr | .ptr _ _ :: _, _, _, hr | .rptr _ _ _ :: _, _, _, hr | .lptr _ _ _ _ :: _, _, _, hr | .vptr _ _ _ _ _ _ :: _, _, _, hr | .clo _ _ :: _, _, _, hr | .nils :: _, _, _, hr | .nilp :: _, _, _, hr | .nilf :: _, _, _, hr | .err _ :: _, _, _, hr | .undef :: _, _, _, hr | .mref _ :: _, _, _, hr | .mkeys _ _ :: _, _, _, hr | [], _, _, hr => simp [decO, Tr.run] at hr
  | .str, cs, vs, x, rest, u, rd, ha, hr, hn => by
    match cs, vs, ha, hr with
    | .str b :: r, v :: vs, ha, hr =>
      simp only [decO] at hr
      obtain ⟨e, _⟩ := Tr.ret_some hr
      obtain ⟨rfl, rfl, rfl⟩ := inj3 e
      exact ⟨[v], vs, fun _ => False, fun _ => False, rfl, ⟨by rw [show v = _ from ha.1], fun _ h => h⟩, ha.2, (fun p hp => by cases hp), (fun _ h => h.elim id id |>.elim), fun _ h => h.elim⟩
    | .int _ _ :: _, _, _, hr | .bool _ :: _, _, _, hr | .lst _ _ :: _, _, _, hr | .own _ :: _, _, _, hr | .sub _ _ _ :: _, _, _, hr | .view _ _ _ _ :: _, _, _, hr | .ptr _ _ :: _, _, _, hr | .rptr _ _ _ :: _, _, _, hr | .lptr _ _ _ _ :: _, _, _, hr | .vptr _ _ _ _ _ _ :: _, _, _, hr | .clo _ _ :: _, _, _, hr | .nils :: _, _, _, hr | .nilp :: _, _, _, hr | .nilf :: _, _, _, hr | .err _ :: _, _, _, hr | .undef :: _, _, _, hr | .mref _ :: _, _, _, hr | .mkeys _ _ :: _, _, _, hr | [], _, _, hr => simp [decO, Tr.run] at hr
  | .sl t, cs, vs, x, rest, u, rd, ha, hr, hn => by
    match cs, vs, ha, hr with
    | .nils :: r, v :: vs, ha, hr =>
      simp only [decO] at hr
      obtain ⟨e, _⟩ := Tr.ret_some hr
      obtain ⟨rfl, rfl, rfl⟩ := inj3 e
      exact ⟨[v], vs, fun _ => False, fun _ => False, rfl, ⟨none, 0, by rw [show v = _ from ha.1]; rfl, .inl ⟨rfl, rfl, rfl, fun _ h => h⟩⟩, ha.2, (fun p hp => by cases hp), (fun _ h => h.elim id id |>.elim), fun _ h => h.elim⟩
    | .own κ :: r, v :: vs, ha, hr =>
      simp only [decO] at hr
      obtain ⟨r1, h1, _⟩ := Tr.look_some hr
      cases hκ : m.h κ with
      | free => rw [hκ] at h1; exact (Tr.no_some h1).elim
      | gone => rw [hκ] at h1; exact (Tr.no_some h1).elim
      | live q =>
        rw [hκ] at h1
        cases q with
        | box c => exact (Tr.no_some h1).elim
        | cbox c => exact (Tr.no_some h1).elim
        | mp a t es => exact (Tr.no_some h1).elim
        | lent t' ys => exact (Tr.no_some h1).elim
        | row t' ys ver =>
          obtain ⟨zs, r1, r2, h2, h3, _⟩ := Tr.bind_some h1
          obtain ⟨h2, _⟩ := Tr.ofOpt_some h2
          obtain ⟨e, rfl⟩ := castW_some h2
          obtain ⟨e', _⟩ := Tr.ret_some h3
          obtain ⟨rfl, rfl, rfl⟩ := inj3 e'
          obtain ⟨φ', η, k1, k2, k3⟩ := Ow.weaken (t := .sl t') (u := .sl t) e (rowO H hκ).1
          refine ⟨[v], vs, φ', η, rfl, ?_, ha.2, fun p hp => ?_, fun b hb => ⟨κ, by simp [keysOf], (k2 b).2 hb⟩, k3⟩
          · rw [ha.1.2]; exact k1
          · simp only [List.mem_singleton] at hp; subst hp; exact ⟨.inl rfl, _, hκ⟩
    | .sub κ lo hi :: r, v :: vs, ha, hr =>
      simp only [decO] at hr
      obtain ⟨r1, h1, _⟩ := Tr.look_some hr
      cases hκ : m.h κ with
      | free => rw [hκ] at h1; exact (Tr.no_some h1).elim
      | gone => rw [hκ] at h1; exact (Tr.no_some h1).elim
      | live q =>
        rw [hκ] at h1
        cases q with
        | box c => exact (Tr.no_some h1).elim
        | cbox c => exact (Tr.no_some h1).elim
        | mp a t es => exact (Tr.no_some h1).elim
        | lent t' ys => exact (Tr.no_some h1).elim
        | row t' ys ver =>
          obtain ⟨zs, r1, r2, h2, h3, _⟩ := Tr.bind_some h1
          obtain ⟨h2, _⟩ := Tr.ofOpt_some h2
          obtain ⟨e, rfl⟩ := castW_some h2
          obtain ⟨e', _⟩ := Tr.ret_some h3
          obtain ⟨rfl, rfl, rfl⟩ := inj3 e'
          obtain ⟨_, hlo, hhi, A', hcut, hv⟩ := ha.1
          obtain ⟨h4, h5, h6⟩ := rowO H hκ
          rw [h6] at hcut
          obtain ⟨ψ, h7, h8⟩ := Ow.sub h4 hlo (by rw [← h5]; exact hhi) hcut
          obtain ⟨φ', η, k1, k2, k3⟩ := Ow.weaken (t := .sl t') (u := .sl t) e h7
          refine ⟨[v], vs, φ', η, rfl, ?_, ha.2, fun p hp => ?_, fun b hb => ⟨κ, by simp [keysOf], h8 b ((k2 b).2 hb)⟩, k3⟩
          · rw [hv]
            have hd := cvtL_drop (Ty.D_eqv (Ty.weak_eqv e)) ys lo (hi - lo)
            have k1' : Ow m.w (fun b => m.fz b ∨ η b) (.sl t) [.slice A' (hi - lo) ((m.ρ κ).c - lo)] (cvtL (Ty.weak_eqv e) ((ys.drop lo).take (hi - lo))) φ' := k1
            rw [show cvtL (Ty.weak_eqv e) ((ys.drop lo).take (hi - lo)) = ((cvtL (Ty.weak_eqv e) ys).drop lo).take (hi - lo) from hd.symm] at k1'
            exact k1'
          · simp only [List.mem_singleton] at hp; subst hp; exact ⟨.inl rfl, _, hκ⟩
    | .int _ _ :: _, _, _, hr | .bool _ :: _, _, _, hr | .str _ :: _, _, _, hr | .lst _ _ :: _, _, _, hr | .view _ _ _ _ :: _, _, _, hr | .ptr _ _ :: _, _, _, hr | .rptr _ _ _ :: _, _, _, hr | .lptr _ _ _ _ :: _, _, _, hr | .vptr _ _ _ _ _ _ :: _, _, _, hr | .clo _ _ :: _, _, _, hr | .nilp :: _, _, _, hr | .nilf :: _, _, _, hr | .err _ :: _, _, _, hr | .undef :: _, _, _, hr | .mref _ :: _, _, _, hr | .mkeys _ _ :: _, _, _, hr | [], _, _, hr => simp [decO, Tr.run] at hr
  | .ls t, cs, vs, x, rest, u, rd, ha, hr, hn => by
    match cs, vs, ha, hr with
    | .nils :: r, v :: vs, ha, hr =>
      simp only [decO] at hr
      obtain ⟨e, _⟩ := Tr.ret_some hr
      obtain ⟨rfl, rfl, rfl⟩ := inj3 e
      exact ⟨[v], vs, fun _ => False, fun _ => False, rfl, ⟨⟨none, 0, by rw [show v = _ from ha.1]; rfl, Nat.le_refl _, fun h => absurd h (by simp)⟩, fun _ h => h⟩, ha.2, (fun p hp => by cases hp), (fun _ h => h.elim id id |>.elim), fun _ h => h.elim⟩
    | .lst t' ys :: r, v :: vs, ha, hr =>
      simp only [decO] at hr
      obtain ⟨zs, r1, r2, h2, h3, _⟩ := Tr.bind_some hr
      obtain ⟨h2, _⟩ := Tr.ofOpt_some h2
      obtain ⟨e, rfl⟩ := castE_some h2
      obtain ⟨e', _⟩ := Tr.ret_some h3
      obtain ⟨rfl, rfl, rfl⟩ := inj3 e'
      exact ⟨[v], vs, fun _ => False, fun _ => False, rfl, ⟨Rd.mono (fun b hb => ⟨.inl hb, rfl⟩) (Rd.cvt (t := .sl t') (u := .ls t) e ha.1), fun _ h => h⟩, ha.2, (fun p hp => by cases hp), (fun _ h => h.elim id id |>.elim), fun _ h => h.elim⟩
    | .own κ :: r, v :: vs, ha, hr =>
      simp only [decO] at hr
      obtain ⟨r1, h1, _⟩ := Tr.look_some hr
      cases hκ : m.h κ with
      | free => rw [hκ] at h1; exact (Tr.no_some h1).elim
      | gone => rw [hκ] at h1; exact (Tr.no_some h1).elim
      | live q =>
        rw [hκ] at h1
        cases q with
        | box c => exact (Tr.no_some h1).elim
        | cbox c => exact (Tr.no_some h1).elim
        | mp a t es => exact (Tr.no_some h1).elim
        | lent t' ys =>
          obtain ⟨zs, r1, r2, h2, h3, _⟩ := Tr.bind_some h1
          obtain ⟨h2, _⟩ := Tr.ofOpt_some h2
          obtain ⟨e, rfl⟩ := castE_some h2
          obtain ⟨e', _⟩ := Tr.ret_some h3
          obtain ⟨rfl, rfl, rfl⟩ := inj3 e'
          have hrd := (H.res κ _ hκ).1
          refine ⟨[v], vs, fun _ => False, fun _ => False, rfl, ⟨?_, fun _ h => h⟩, ha.2, (fun p hp => by cases hp), (fun _ h => h.elim id id |>.elim), fun _ h => h.elim⟩
          rw [ha.1.2]
          exact Rd.mono (fun b hb => ⟨.inl hb, rfl⟩) (Rd.cvt (t := .sl t') (u := .ls t) e hrd)
        | row t' ys ver =>
          obtain ⟨zs, r1, r2, h2, h3, _⟩ := Tr.bind_some h1
          obtain ⟨h2, _⟩ := Tr.ofOpt_some h2
          obtain ⟨e, rfl⟩ := castE_some h2
          obtain ⟨e', _⟩ := Tr.ret_some h3
          obtain ⟨rfl, rfl, rfl⟩ := inj3 e'
          have hrd := (rowO H hκ).1.rd (fz := fun b => m.fz b ∨ m.φ κ b) (fun _ h => .inl h) fun _ h => .inr h
          refine ⟨[v], vs, fun _ => False, m.φ κ, rfl, ⟨?_, fun _ h => h⟩, ha.2, fun p hp => ?_, (fun b hb => ⟨κ, by simp [keysOf], hb.elim False.elim id⟩), fun _ h => h.elim⟩
          · rw [ha.1.2]; exact Rd.cvt (t := .sl t') (u := .ls t) e hrd
          · simp only [List.mem_singleton] at hp; subst hp; exact ⟨.inr (.inl ⟨t', ys, ver, rfl, hκ, fun _ h => h⟩), _, hκ⟩
    | .sub κ lo hi :: r, v :: vs, ha, hr =>
      simp only [decO] at hr
      obtain ⟨r1, h1, _⟩ := Tr.look_some hr
      cases hκ : m.h κ with
      | free => rw [hκ] at h1; exact (Tr.no_some h1).elim
      | gone => rw [hκ] at h1; exact (Tr.no_some h1).elim
      | live q =>
        rw [hκ] at h1
        cases q with
        | box c => exact (Tr.no_some h1).elim
        | cbox c => exact (Tr.no_some h1).elim
        | mp a t es => exact (Tr.no_some h1).elim
        | lent t' ys =>
          obtain ⟨zs, r1, r2, h2, h3, _⟩ := Tr.bind_some h1
          obtain ⟨h2, _⟩ := Tr.ofOpt_some h2
          obtain ⟨e, rfl⟩ := castE_some h2
          obtain ⟨e', _⟩ := Tr.ret_some h3
          obtain ⟨rfl, rfl, rfl⟩ := inj3 e'
          obtain ⟨hrd, h5, h6, _⟩ := H.res κ _ hκ
          obtain ⟨_, hlo, hhi, A', hcut, hv⟩ := ha.1
          rw [h6] at hcut
          have h7 := Rd.cvt (t := .sl t') (u := .ls t) e (hrd.sub hlo (by rw [← h5]; exact hhi) hcut)
          refine ⟨[v], vs, fun _ => False, fun _ => False, rfl, ⟨?_, fun _ h => h⟩, ha.2, (fun p hp => by cases hp), (fun _ h => h.elim id id |>.elim), fun _ h => h.elim⟩
          rw [hv]
          have h8 : Rd m.w m.fz (.ls t) [.slice A' (hi - lo) ((m.ρ κ).c - lo)] (cvtL e ((ys.drop lo).take (hi - lo))) := h7
          rw [show cvtL e ((ys.drop lo).take (hi - lo)) = ((cvtL e ys).drop lo).take (hi - lo) from (cvtL_drop (Ty.D_eqv e) ys lo (hi - lo)).symm] at h8
          exact Rd.mono (fun b hb => ⟨.inl hb, rfl⟩) h8
        | row t' ys ver =>
          obtain ⟨zs, r1, r2, h2, h3, _⟩ := Tr.bind_some h1
          obtain ⟨h2, _⟩ := Tr.ofOpt_some h2
          obtain ⟨e, rfl⟩ := castE_some h2
          obtain ⟨e', _⟩ := Tr.ret_some h3
          obtain ⟨rfl, rfl, rfl⟩ := inj3 e'
          obtain ⟨h4, h5, h6⟩ := rowO H hκ
          have hrd := h4.rd (fz := fun b => m.fz b ∨ m.φ κ b) (fun _ h => .inl h) fun _ h => .inr h
          obtain ⟨_, hlo, hhi, A', hcut, hv⟩ := ha.1
          rw [h6] at hcut
          have h7 := Rd.cvt (t := .sl t') (u := .ls t) e (hrd.sub hlo (by rw [← h5]; exact hhi) hcut)
          refine ⟨[v], vs, fun _ => False, m.φ κ, rfl, ⟨?_, fun _ h => h⟩, ha.2, fun p hp => ?_, (fun b hb => ⟨κ, by simp [keysOf], hb.elim False.elim id⟩), fun _ h => h.elim⟩
          · rw [hv]
            have h8 : Rd m.w (fun b => m.fz b ∨ m.φ κ b) (.ls t) [.slice A' (hi - lo) ((m.ρ κ).c - lo)] (cvtL e ((ys.drop lo).take (hi - lo))) := h7
            rw [show cvtL e ((ys.drop lo).take (hi - lo)) = ((cvtL e ys).drop lo).take (hi - lo) from (cvtL_drop (Ty.D_eqv e) ys lo (hi - lo)).symm] at h8
            exact h8
          · simp only [List.mem_singleton] at hp; subst hp; exact ⟨.inr (.inl ⟨t', ys, ver, rfl, hκ, fun _ h => h⟩), _, hκ⟩
    | .int _ _ :: _, _, _, hr | .bool _ :: _, _, _, hr | .str _ :: _, _, _, hr | .view _ _ _ _ :: _, _, _, hr | .ptr _ _ :: _, _, _, hr | .rptr _ _ _ :: _, _, _, hr | .lptr _ _ _ _ :: _, _, _, hr | .vptr _ _ _ _ _ _ :: _, _, _, hr | .clo _ _ :: _, _, _, hr | .nilp :: _, _, _, hr | .nilf :: _, _, _, hr | .err _ :: _, _, _, hr | .undef :: _, _, _, hr | .mref _ :: _, _, _, hr | .mkeys _ _ :: _, _, _, hr | [], _, _, hr => simp [decO, Tr.run] at hr
  | .one, cs, vs, x, rest, u, rd, ha, hr, hn => by
    have hr : (Tr.ret (V := V) (((), cs, []) : Unit × List SV × Upd)).run F m.h = some ((x, rest, u), rd) := by cases cs <;> exact hr
    obtain ⟨e, _⟩ := Tr.ret_some hr
    obtain ⟨_, rfl, rfl⟩ := inj3 e
    exact ⟨[], vs, fun _ => False, fun _ => False, rfl, ⟨rfl, fun _ h => h⟩, ha, (fun p hp => by cases hp), (fun _ h => h.elim id id |>.elim), fun _ h => h.elim⟩
  | .pr a b, cs, vs, x, rest, u, rd, ha, hr, hn => by
    have hr : ((decO (V := V) a cs).bind fun p => (decO b p.2.1).bind fun q => .ret ((p.1, q.1), q.2.1, p.2.2 ++ q.2.2)).run F m.h = some ((x, rest, u), rd) := by cases cs <;> exact hr
    obtain ⟨⟨x1, c1, u1⟩, r1, r2, h1, h2, _⟩ := Tr.bind_some hr
    obtain ⟨⟨x2, c2, u2⟩, r3, r4, h3, h4, _⟩ := Tr.bind_some h2
    obtain ⟨e, _⟩ := Tr.ret_some h4
    obtain ⟨rfl, rfl, rfl⟩ := inj3 e
    rw [keysOf_append] at hn
    obtain ⟨hn1, hn2, hn3⟩ := nodupB_append hn
    obtain ⟨v1, v2, ψ1, η1, rfl, h5, h6, h7, h8, g1⟩ := decO_ow H ha h1 hn1
    obtain ⟨v3, v4, ψ2, η2, rfl, h9, h10, h11, h12, g2⟩ := decO_ow H h6 h3 hn2
    have cross : ∀ b, ψ1 b ∨ η1 b → ¬ (ψ2 b ∨ η2 b) := fun b hb1 hb2 => by
      obtain ⟨κ1, hκ1, hb1⟩ := h8 b hb1
      obtain ⟨κ2, hκ2, hb2⟩ := h12 b hb2
      exact H.disj κ1 κ2 b (fun e => hn3 κ1 hκ1 (e ▸ hκ2)) hb1 hb2
    refine ⟨v1 ++ v3, v4, fun b => ψ1 b ∨ ψ2 b, fun b => η1 b ∨ η2 b, by simp, ⟨v1, v3, ψ1, ψ2, rfl, h5.more fun b h => h.imp id .inl, h9.more fun b h => h.imp id .inr, fun b hb1 hb2 => cross b (.inl hb1) (.inl hb2), fun b => Iff.rfl⟩, h10, h7.append h11, fun b hb => ?_, fun b hb hb' => ?_⟩
    · have hb : (ψ1 b ∨ η1 b) ∨ (ψ2 b ∨ η2 b) := by
        rcases hb with (h | h) | (h | h)
        · exact .inl (.inl h)
        · exact .inr (.inl h)
        · exact .inl (.inr h)
        · exact .inr (.inr h)
      rcases hb with hb | hb
      · obtain ⟨κ, hκ, hb⟩ := h8 b hb; exact ⟨κ, by rw [keysOf_append]; exact List.mem_append_left _ hκ, hb⟩
      · obtain ⟨κ, hκ, hb⟩ := h12 b hb; exact ⟨κ, by rw [keysOf_append]; exact List.mem_append_right _ hκ, hb⟩
    · rcases hb with hb | hb <;> rcases hb' with hb' | hb'
      · exact g1 b hb hb'
      · exact cross b (.inl hb) (.inr hb')
      · exact cross b (.inr hb') (.inl hb)
      · exact g2 b hb hb'
end

/-- Several keys give up what they have. -/
def M.loses (m : M) : List Nat → M
  | [] => m
  | κ :: r => (m.lose κ).loses r
theorem loses_w : ∀ (ks : List Nat) (m : M), (m.loses ks).w = m.w ∧ (m.loses ks).fz = m.fz ∧ (m.loses ks).ρ = m.ρ
  | [], _ => ⟨rfl, rfl, rfl⟩
  | κ :: r, m => loses_w r (m.lose κ)
theorem loses_ok : ∀ (ks : List Nat) (m : M), HR m → (∀ κ ∈ ks, (m.h κ).used) → HR (m.loses ks) ∧ Ext m (m.loses ks)
  | [], m, H, _ => ⟨H, Ext.refl m⟩
  | κ :: r, m, H, hu => by
    have h1 := lose_hr H κ (hu κ (by simp))
    have h2 := lose_ext (m := m) κ (hu κ (by simp))
    obtain ⟨h3, h4⟩ := loses_ok r (m.lose κ) h1 fun j hj => (h2.used j (hu j (by simp [hj]))).1
    exact ⟨h3, h2.trans h4⟩
theorem loses_χ : ∀ (ks : List Nat) (m : M), nodupB ks = true → ∀ b, (m.loses ks).χ b ↔ m.χ b ∨ ∃ κ ∈ ks, m.φ κ b
  | [], m, _, b => by simp [M.loses]
  | κ :: r, m, hn, b => by
    obtain ⟨h1, h2⟩ := nodupB_cons hn
    rw [M.loses, loses_χ r (m.lose κ) h2 b]
    constructor
    · rintro ((h | h) | ⟨j, hj, h⟩)
      · exact .inl h
      · exact .inr ⟨κ, by simp, h⟩
      · have : j ≠ κ := fun e => h1 (e ▸ hj)
        exact .inr ⟨j, by simp [hj], by simpa only [M.lose, fset_ne _ _ this] using h⟩
    · rintro (h | ⟨j, hj, h⟩)
      · exact .inl (.inl h)
      · rcases List.mem_cons.1 hj with rfl | hj
        · exact .inl (.inr h)
        · have : j ≠ κ := fun e => h1 (e ▸ hj)
          exact .inr ⟨j, hj, by simpa only [M.lose, fset_ne _ _ this] using h⟩
theorem loses_φ : ∀ (ks : List Nat) (m : M) (j : Nat), j ∉ ks → (m.loses ks).φ j = m.φ j ∧ (m.loses ks).h j = m.h j
  | [], m, j, _ => ⟨rfl, rfl⟩
  | κ :: r, m, j, h => by
    have hne : j ≠ κ := fun e => h (by simp [e])
    obtain ⟨h1, h2⟩ := loses_φ r (m.lose κ) j fun hj => h (by simp [hj])
    exact ⟨h1.trans (fset_ne _ _ hne), h2.trans (Heap.set_ne _ _ hne)⟩
theorem Heap.upd_append : ∀ (a b : Upd) (h : Heap), h.upd (a ++ b) = (h.upd a).upd b
  | [], _, _ => rfl
  | (κ, s) :: r, b, h => Heap.upd_append r b (h.set κ s)
theorem Heap.upd_ne : ∀ (u : Upd) (h : Heap) (j : Nat), j ∉ keysOf u → h.upd u j = h j
  | [], _, _, _ => rfl
  | (κ, s) :: r, h, j, hj => by
    have hne : j ≠ κ := fun e => hj (by simp [keysOf, e])
    exact (Heap.upd_ne r (h.set κ s) j fun h' => hj (by simp only [keysOf, List.map_cons, List.mem_cons]; exact .inr h')).trans (Heap.set_ne _ _ hne)

theorem upd_put : ∀ {u : Upd} {h : Heap} {p : Nat × Slot}, nodupB (keysOf u) = true → p ∈ u → h.upd u p.1 = p.2
  | (κ, s) :: r, h, p, hn, hp => by
    obtain ⟨h1, h2⟩ := nodupB_cons hn
    rcases List.mem_cons.1 hp with rfl | hp
    · exact (Heap.upd_ne r (h.set κ s) κ h1).trans (Heap.set_eq _ _ _)
    · exact upd_put (u := r) (h := h.set κ s) h2 hp
/-- Rows are used up; some of what they have stays as it is from now on. -/
theorem used_up' {m : M} (H : HR m) {u : Upd} {η : Nat → Prop} (hu : Ups m η u) (hn : nodupB (keysOf u) = true) (hη : ∀ b, η b → ∃ κ ∈ keysOf u, m.φ κ b) :
    ∃ m1, HR m1 ∧ Ext m m1 ∧ m1.w = m.w ∧ m1.h = m.h.upd u ∧ m1.ρ = m.ρ ∧ m1.fz = (fun b => m.fz b ∨ η b) ∧ (∀ b, m1.χ b ↔ (m.χ b ∨ ∃ κ ∈ keysOf u, m.φ κ b) ∧ ¬ η b) ∧ (∀ j, j ∉ keysOf u → m1.φ j = m.φ j ∧ m1.h j = m.h j) ∧ m1.gl = m.gl ∧ (∀ κ ∈ keysOf u, ∃ r, m.h κ = .live r) ∧ ∀ κ ∈ keysOf u, ∀ b, ¬ m1.φ κ b := by
  have hks : ∀ κ ∈ keysOf u, ∃ r, m.h κ = .live r := fun κ hκ => by
    simp only [keysOf, List.mem_map] at hκ
    obtain ⟨p, hp, rfl⟩ := hκ
    exact (hu p hp).2
  obtain ⟨H1, E1⟩ := loses_ok (keysOf u) m H fun κ hκ => by obtain ⟨r, hr⟩ := hks κ hκ; rw [hr]; trivial
  have hχ := loses_χ _ m hn
  have h1 : ∀ b, η b → (m.loses (keysOf u)).χ b := fun b hb => (hχ b).2 (.inr (hη b hb))
  obtain ⟨w1, f1, ρ1⟩ := loses_w (keysOf u) m
  have hgone : ∀ κ ∈ keysOf u, (m.loses (keysOf u)).h κ = .gone := by
    have : ∀ (ks : List Nat) (m : M) (κ : Nat), κ ∈ ks → (m.loses ks).h κ = .gone := by
      intro ks
      induction ks with
      | nil => intro m κ h; cases h
      | cons k ks ih =>
        intro m κ h
        by_cases hk : κ ∈ ks
        · exact ih (m.lose k) κ hk
        · have : κ = k := by rcases List.mem_cons.1 h with h | h; exact h; exact absurd h hk
          subst this
          show ((m.lose κ).loses ks).h κ = _
          rw [(loses_φ ks (m.lose κ) κ hk).2]
          exact Heap.set_eq _ _ _
    exact this _ m
  have H2 := freeze_hr H1 h1
  have E2 := E1.trans (freeze_ext h1)
  let m2 := (m.loses (keysOf u)).freeze η
  have hf2 : m2.fz = fun b => m.fz b ∨ η b := by
    show (fun b => (m.loses (keysOf u)).fz b ∨ η b) = _
    rw [f1]
  have hφ0 : ∀ κ ∈ keysOf u, ∀ b, ¬ m2.φ κ b := fun κ hκ b => H2.dead κ (fun r hr => by rw [show m2.h κ = _ from hgone κ hκ] at hr; cases hr) b
  have hother : ∀ κ, κ ∉ keysOf u → m.h.upd u κ = m2.h κ := fun κ h => by
    rw [Heap.upd_ne _ _ _ h]; exact ((loses_φ _ m κ h).2).symm
  have hslot : ∀ κ ∈ keysOf u, (m.h.upd u κ = .gone) ∨ (∃ t xs v, m.h.upd u κ = .live (.lent t xs) ∧ m.h κ = .live (.row t xs v) ∧ ∀ b, m.φ κ b → η b) ∨ ∃ cs, m.h.upd u κ = .live (.cbox cs) ∧ m.h κ = .live (.box cs) ∧ ∀ b, m.φ κ b → η b := fun κ hκ => by
    simp only [keysOf, List.mem_map] at hκ
    obtain ⟨p, hp, rfl⟩ := hκ
    rw [upd_put hn hp]
    exact (hu p hp).1
  let m3 : M := { m2 with h := m.h.upd u }
  have E3 : Ext m2 m3 := ⟨fun κ h => ⟨by
      by_cases hk : κ ∈ keysOf u
      · show (m.h.upd u κ).used
        rcases hslot κ hk with e | ⟨t, xs, v, e, _⟩ | ⟨cs, e, _⟩ <;> rw [e] <;> trivial
      · show (m.h.upd u κ).used
        rw [hother κ hk]; exact h, rfl⟩, fun _ h => ⟨h, rfl⟩, fun κ t xs v _ hr => ⟨t, xs, v, by
      have hr : m.h.upd u κ = .live (.row t xs v) := hr
      by_cases hk : κ ∈ keysOf u
      · rcases hslot κ hk with e | ⟨t', xs', v', e, _⟩ | ⟨cs, e, _⟩ <;> rw [e] at hr <;> cases hr
      · rw [← hother κ hk]; exact hr, .inr ⟨by
      have hr : m.h.upd u κ = .live (.row t xs v) := hr
      by_cases hk : κ ∈ keysOf u
      · rcases hslot κ hk with e | ⟨t', xs', v', e, _⟩ | ⟨cs, e, _⟩ <;> rw [e] at hr <;> cases hr
      · exact hother κ hk, fun _ _ _ => rfl⟩⟩, fun _ h => .inl h, rfl, fun _ _ _ => rfl, Nat.le_refl _, rfl, rfl, rfl, fun _ h => .inl h⟩
  have H3 : HR m3 := {
    res := fun κ r hr => by
      have hr : m.h.upd u κ = .live r := hr
      by_cases hk : κ ∈ keysOf u
      · rcases hslot κ hk with e | ⟨t, xs, v, e, hrow, hb⟩ | ⟨cs, e, hbox, hb⟩
        rotate_right
        · rw [e] at hr
          cases hr
          obtain ⟨c, ty, fr, g1, g2, g3, g4⟩ := H.res κ _ hbox
          refine ⟨c, ty, fr, ?_, ?_, All2.mono (fun _ _ h => (E2.trans E3).sr h) g3, hφ0 κ hk⟩
          · show (m.loses (keysOf u)).w.heap[((m.loses (keysOf u)).ρ κ).b]? = _
            rw [w1, ρ1]; exact g1
          · show m2.fz ((m.loses (keysOf u)).ρ κ).b
            rw [hf2, ρ1]; exact .inr (hb _ ((g4 _).2 rfl))
        · rw [e] at hr; cases hr
        · rw [e] at hr
          cases hr
          obtain ⟨g1, g2, g3⟩ := H.res κ _ hrow
          refine ⟨?_, ?_, ?_, hφ0 κ hk⟩
          · show Rd (m.loses (keysOf u)).w m2.fz (.sl t) [slV ((m.loses (keysOf u)).ρ κ)] xs
            rw [w1, hf2, ρ1]
            exact g1.rd (fun _ h => .inl h) fun b h => .inr (hb b h)
          · show ((m.loses (keysOf u)).ρ κ).n = _
            rw [ρ1]; exact g2
          · show ((m.loses (keysOf u)).ρ κ).sz = _
            rw [ρ1]; exact g3
      · have hr2 : m2.h κ = .live r := by rw [← hother κ hk]; exact hr
        exact (H2.res κ r hr2).keep E3 (by rw [hr2]; trivial) fun _ _ => rfl
    dead := fun κ hd b => by
      by_cases hk : κ ∈ keysOf u
      · exact hφ0 κ hk b
      · exact H2.dead κ (fun r hr => hd r (by show m.h.upd u κ = _; rw [hother κ hk]; exact hr)) b
    disj := H2.disj
    loose := H2.loose
    fzφ := H2.fzφ
    fzχ := H2.fzχ
    ltf := H2.ltf
    ltχ := H2.ltχ
    glob := H2.glob }
  refine ⟨m3, H3, E2.trans E3, w1, rfl, ρ1, hf2, fun b => ?_, fun j hj => ⟨(loses_φ _ m j hj).1, Heap.upd_ne _ _ _ hj⟩, (E2.trans E3).gl, hks, hφ0⟩
  show (m.loses (keysOf u)).χ b ∧ ¬ η b ↔ _
  rw [hχ]

/-! ## 19. Pure data as cells -/
theorem encL_sr {m : M} : ∀ {t : Ty} {o : Nat} {x : t.D} {vs : List Value}, Rd m.w m.fz t vs x → All2 m.SR (enc (fun _ t xs => .lst t xs) t o x) vs
  | .int k, o, x, vs, h => by rw [show vs = _ from h]; exact ⟨rfl, trivial⟩
  | .bool, o, x, vs, h => by rw [show vs = _ from h]; exact ⟨rfl, trivial⟩
  | .str, o, x, vs, h => by rw [show vs = _ from h]; exact ⟨rfl, trivial⟩
  | .one, o, x, vs, h => by rw [show vs = _ from h]; trivial
  | .sl t, o, x, vs, h => by
    obtain ⟨A, c, e, h1⟩ := h
    rw [e]
    exact ⟨⟨A, c, rfl, h1⟩, trivial⟩
  | .ls t, o, x, vs, h => by
    obtain ⟨A, c, e, h1⟩ := h
    rw [e]
    exact ⟨⟨A, c, rfl, h1⟩, trivial⟩
  | .pr a b, o, x, vs, ⟨c1, c2, e, h1, h2⟩ => by
    rw [e]
    exact All2.append (encL_sr h1) (encL_sr h2)
theorem encV_sr {m : M} {κ ver i : Nat} {t0 : Ty} {xs0 : List t0.D} (hκ : m.h κ = .live (.row t0 xs0 ver)) (hi : i < List.length xs0) {b off : Nat} (hA : (m.ρ κ).A = some ⟨b, off, none⟩) :
    ∀ {t : Ty} {o : Nat} {x : t.D} {vs : List Value} {φ : Nat → Prop}, Ow m.w m.fz t vs x φ → At m.w b (off + i * t0.nc + o) vs → All2 m.SR (enc (fun o _ _ => .view κ ver i o) t o x) vs
  | .int k, o, x, vs, _, h, _ => by rw [h.1]; exact ⟨rfl, trivial⟩
  | .bool, o, x, vs, _, h, _ => by rw [h.1]; exact ⟨rfl, trivial⟩
  | .str, o, x, vs, _, h, _ => by rw [h.1]; exact ⟨rfl, trivial⟩
  | .one, o, x, vs, _, h, _ => by rw [h.1]; trivial
  | .ls t, o, x, vs, _, h, _ => by
    obtain ⟨⟨A, c, e, h1⟩, _⟩ := h
    rw [e]
    exact ⟨⟨A, c, rfl, h1⟩, trivial⟩
  | .sl t, o, x, vs, _, h, ha => by
    obtain ⟨A, c, e, h1⟩ := h
    rw [e] at ha ⊢
    refine ⟨⟨by rw [hκ]; trivial, ⟨A, _, c, rfl⟩, fun t1 xs1 ver1 h1 => ?_⟩, trivial⟩
    rw [hκ] at h1
    injection h1 with h1; injection h1 with e1 e2 e3
    subst e1
    have e2 := eq_of_heq e2
    subst e2
    exact ⟨by omega, fun _ => ⟨hi, b, off, hA, ha⟩⟩
  | .pr a c, o, x, vs, _, ⟨c1, c2, φ1, φ2, e, h1, h2, _, _⟩, ha => by
    rw [e] at ha ⊢
    refine All2.append (encV_sr hκ hi hA h1 ha.left) (encV_sr hκ hi hA h2 ?_)
    have := ha.right
    rw [h1.len] at this
    rw [show off + i * t0.nc + (o + a.nc) = off + i * t0.nc + o + a.nc by omega]
    exact this
theorem encO_le : ∀ (t : Ty) (j : Nat) (x : t.D), j ≤ (encO t j x).2.2
  | .int _, j, x => Nat.le_refl j
  | .bool, j, x => Nat.le_refl j
  | .str, j, x => Nat.le_refl j
  | .one, j, x => Nat.le_refl j
  | .ls _, j, x => Nat.le_refl j
  | .sl _, j, x => Nat.le_succ j
  | .pr a b, j, x => Nat.le_trans (encO_le a j x.1) (encO_le b _ x.2)
/-- Pure data of one's own under new keys. -/
theorem encO_ok : ∀ {t : Ty} {m : M} {j : Nat} {x : t.D} {vs : List Value} {ψ : Nat → Prop} {cs : List SV} {u : Upd} {j' : Nat}, HR m → Ow m.w m.fz t vs x ψ → (∀ b, ψ b → m.χ b) → encO t j x = (cs, u, j') →
    (∀ κ, j ≤ κ → κ < j' → m.h κ = .free) → j ≤ j' ∧ (∀ κ ∈ keysOf u, j ≤ κ ∧ κ < j') ∧ ∃ m', HR m' ∧ Ext m m' ∧ m'.h = m.h.upd u ∧ m'.w = m.w ∧ m'.fz = m.fz ∧ (∀ b, m'.χ b ↔ m.χ b ∧ ¬ ψ b) ∧ All2 m'.SR cs vs
  | .int k, m, j, x, vs, ψ, cs, u, j', H, ho, hχ, he, hf => by
    simp only [encO, Prod.mk.injEq] at he
    obtain ⟨rfl, rfl, rfl⟩ := he
    refine ⟨Nat.le_refl _, fun κ h => (by cases h), m, H, Ext.refl m, rfl, rfl, rfl, fun b => ⟨fun h => ⟨h, ho.2 b⟩, fun h => h.1⟩, ?_⟩
    rw [ho.1]; exact ⟨rfl, trivial⟩
  | .bool, m, j, x, vs, ψ, cs, u, j', H, ho, hχ, he, hf => by
    simp only [encO, Prod.mk.injEq] at he
    obtain ⟨rfl, rfl, rfl⟩ := he
    refine ⟨Nat.le_refl _, fun κ h => (by cases h), m, H, Ext.refl m, rfl, rfl, rfl, fun b => ⟨fun h => ⟨h, ho.2 b⟩, fun h => h.1⟩, ?_⟩
    rw [ho.1]; exact ⟨rfl, trivial⟩
  | .str, m, j, x, vs, ψ, cs, u, j', H, ho, hχ, he, hf => by
    simp only [encO, Prod.mk.injEq] at he
    obtain ⟨rfl, rfl, rfl⟩ := he
    refine ⟨Nat.le_refl _, fun κ h => (by cases h), m, H, Ext.refl m, rfl, rfl, rfl, fun b => ⟨fun h => ⟨h, ho.2 b⟩, fun h => h.1⟩, ?_⟩
    rw [ho.1]; exact ⟨rfl, trivial⟩
  | .ls t, m, j, x, vs, ψ, cs, u, j', H, ho, hχ, he, hf => by
    simp only [encO, Prod.mk.injEq] at he
    obtain ⟨rfl, rfl, rfl⟩ := he
    refine ⟨Nat.le_refl _, fun κ h => (by cases h), m, H, Ext.refl m, rfl, rfl, rfl, fun b => ⟨fun h => ⟨h, ho.2 b⟩, fun h => h.1⟩, ?_⟩
    obtain ⟨⟨A, c, e, h1⟩, _⟩ := ho
    rw [e]; exact ⟨⟨A, c, rfl, h1⟩, trivial⟩
  | .one, m, j, x, vs, ψ, cs, u, j', H, ho, hχ, he, hf => by
    simp only [encO, Prod.mk.injEq] at he
    obtain ⟨rfl, rfl, rfl⟩ := he
    refine ⟨Nat.le_refl _, fun κ h => (by cases h), m, H, Ext.refl m, rfl, rfl, rfl, fun b => ⟨fun h => ⟨h, ho.2 b⟩, fun h => h.1⟩, ?_⟩
    rw [ho.1]; trivial
  | .sl t, m, j, x, vs, ψ, cs, u, j', H, ho, hχ, he, hf => by
    simp only [encO, Prod.mk.injEq] at he
    obtain ⟨rfl, rfl, rfl⟩ := he
    have hfree := hf j (Nat.le_refl _) (by omega)
    obtain ⟨A, c, e, h1⟩ := ho
    let l : Loc := ⟨0, A, List.length x, c, t.nc⟩
    have hE := take_ext (m := m) (κ := j) (r := .row t x 0) (l := l) hfree hχ
    have hres : ResR (m.take j (.row t x 0) l ψ) j (.row t x 0) ψ := by
      refine ⟨?_, ?_, ?_⟩
      · show Ow m.w m.fz (.sl t) [slV (fset m.ρ j l j)] x ψ
        rw [fset_eq]
        exact ⟨A, c, rfl, h1⟩
      · show (fset m.ρ j l j).n = _; rw [fset_eq]
      · show (fset m.ρ j l j).sz = _; rw [fset_eq]
    refine ⟨by omega, fun κ h => (by simp only [keysOf, List.map_cons, List.map_nil, List.mem_singleton] at h; omega), m.take j (.row t x 0) l ψ, take_hr H hfree hχ hres, hE, rfl, rfl, rfl, fun b => Iff.rfl, ?_⟩
    rw [e]
    refine ⟨⟨by simp [M.take, Heap.set_eq, Slot.used], ?_⟩, trivial⟩
    show _ = Value.slice (fset m.ρ j l j).A (fset m.ρ j l j).n (fset m.ρ j l j).c
    rw [fset_eq]
  | .pr a b, m, j, x, vs, ψ, cs, u, j', H, ho, hχ, he, hf => by
    obtain ⟨c1, c2, φ1, φ2, rfl, h1, h2, hd, hψ⟩ := ho
    rcases he1 : encO a j x.1 with ⟨cs1, u1, j1⟩
    rcases he2 : encO b j1 x.2 with ⟨cs2, u2, j2⟩
    simp only [encO, he1, he2, Prod.mk.injEq] at he
    obtain ⟨rfl, rfl, rfl⟩ := he
    have hle : j ≤ j1 ∧ j1 ≤ j2 := by
      have h1 := encO_le a j x.1
      have h2 := encO_le b j1 x.2
      rw [he1] at h1
      rw [he2] at h2
      exact ⟨h1, h2⟩
    obtain ⟨_, k1, m1, H1, E1, e1, w1, f1, χ1, s1⟩ := encO_ok H h1 (fun b hb => hχ b ((hψ b).2 (.inl hb))) he1 fun κ hκ hκ' => hf κ hκ (by omega)
    have h2' : Ow m1.w m1.fz b c2 x.2 φ2 := by rw [w1, f1]; exact h2
    obtain ⟨_, k2, m2, H2, E2, e2, w2, f2, χ2, s2⟩ := encO_ok H1 h2' (fun b hb => (χ1 b).2 ⟨hχ b ((hψ b).2 (.inr hb)), fun h => hd b h hb⟩) he2 fun κ hκ hκ' => by
      rw [e1, Heap.upd_ne _ _ _ fun h => by have := k1 κ h; omega]
      exact hf κ (by omega) hκ'
    refine ⟨by omega, fun κ hκ => ?_, m2, H2, E1.trans E2, by rw [e2, e1, Heap.upd_append], w2.trans w1, f2.trans f1, fun b => ?_, All2.append (All2.mono (fun _ _ => E2.sr) s1) s2⟩
    · rw [keysOf_append] at hκ
      rcases List.mem_append.1 hκ with h | h
      · have := k1 κ h; omega
      · have := k2 κ h; omega
    · rw [χ2, χ1, hψ]
      constructor
      · rintro ⟨⟨h1, h2⟩, h3⟩; exact ⟨h1, fun h => h.elim h2 h3⟩
      · rintro ⟨h1, h2⟩; exact ⟨⟨h1, fun h => h2 (.inl h)⟩, fun h => h2 (.inr h)⟩
end Go.Den
