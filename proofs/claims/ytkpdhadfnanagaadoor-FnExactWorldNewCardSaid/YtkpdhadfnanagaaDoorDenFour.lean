/- Den, part four: loop heads, functions, functions without fuel, rows of laws; plain facts. Conditions: none here. -/
import Derived.Test.YtkpdhadfnanagaaDoorDenThree
import Derived.Deep.Slices
import Derived.ChangeArms
import Derived.ChangeShapes
import Derived.Carry
import Derived.SizedLaws
import Derived.OpenShut
import Derived.ChangeAt
import Derived.ChangeOld
import Derived.ChangeCalls
import Derived.Lib.Bytealg
import Derived.Laws.IdiomCopy
import Derived.Lib.Overlaps
import Derived.Lib.AppendZerosOnto
import Derived.Lib.SliceRun
import Derived.Lib.Walk
import Derived.WalkKit
import Derived.Laws.NewBlocks
import Derived.Laws.Externs
import Derived.Shelf.RegionOpenPlain
set_option linter.all false
namespace Go.Den
open Go

/-! ## 45. Loop heads -/
/-- A kept thing: its new key, what it is, where it lies, whose it was. -/
structure En where
  key : Nat
  s : Slot
  l : Loc
  ψ : Nat → Prop
  /-- what stays as it is from now on -/
  η : Nat → Prop
  src : Option Nat
def En.p (e : En) : Nat × Slot := (e.key, e.s)
def srcs : List En → List Nat
  | [] => []
  | e :: r => match e.src with
    | some κ => κ :: srcs r
    | none => srcs r
theorem srcs_append : ∀ a b : List En, srcs (a ++ b) = srcs a ++ srcs b
  | [], b => rfl
  | e :: a, b => by
    simp only [List.cons_append, srcs]
    cases e.src with
    | none => exact srcs_append a b
    | some κ => simp only [srcs_append a b, List.cons_append]
/-- What is read behind. -/
def FZ (m : M) (Z : List En) : Nat → Prop := fun b => m.fz b ∨ ∃ e ∈ Z, e.η b
theorem FZ.mono {m : M} {Z Z' : List En} (h : ∀ e ∈ Z, e ∈ Z') (b : Nat) (hb : FZ m Z b) : FZ m Z' b := hb.imp id fun ⟨e, he, h'⟩ => ⟨e, h e he, h'⟩
/-- What a kept cell says, in terms of what is kept. -/
def CellOk (m : M) (ids : List Nat) (Z : List En) (x : SV) (v : Value) : Prop :=
  x = .undef ∨ (svIn ids x = true ∧ m.SR x v) ∨ (∃ e ∈ Z, x = .own e.key ∧ v = slV e.l) ∨ ∃ t xs, x = .lst t xs ∧ Rd m.w (FZ m Z) (.sl t) [v] xs
def EnOk (m : M) (ids : List Nat) (Z : List En) (e : En) : Prop :=
  (∀ b, e.ψ b ∨ e.η b → ∃ κ, e.src = some κ ∧ m.φ κ b) ∧ (∀ b, e.ψ b → ¬ e.η b) ∧ match e.s with
    | .live (.row t xs _) => Ow m.w (FZ m Z) (.sl t) [slV e.l] xs e.ψ ∧ e.l.n = List.length xs ∧ e.l.sz = t.nc
    | .live (.box cs) => ∃ c ty fr, m.w.heap[e.l.b]? = some (.cells c ty fr) ∧ Mut c fr ∧ All2 (CellOk m ids Z) cs c.toList ∧ ∀ b, e.ψ b ↔ b = e.l.b
    | .live (.cbox cs) => ∃ c ty fr, m.w.heap[e.l.b]? = some (.cells c ty fr) ∧ m.fz e.l.b ∧ All2 (CellOk m ids Z) cs c.toList ∧ ∀ b, ¬ e.ψ b
    | .live (.lent t xs) => Rd m.w (FZ m Z) (.sl t) [slV e.l] xs ∧ e.l.n = List.length xs ∧ e.l.sz = t.nc ∧ ∀ b, ¬ e.ψ b
    | .live (.mp a t es) => ∃ ents clock, m.w.heap[e.l.b]? = some (.map ents clock) ∧ MapKept.Stamped ents clock ∧ All2 (EntR m.w a t) es ents.toList ∧ ∀ b, e.ψ b ↔ b = e.l.b
    | .gone => ∀ b, ¬ e.ψ b
    | .free => False
theorem CellOk.mono {m : M} {ids : List Nat} {Z Z' : List En} (h : ∀ e ∈ Z, e ∈ Z') {x : SV} {v : Value} (hc : CellOk m ids Z x v) : CellOk m ids Z' x v := by
  rcases hc with hc | hc | ⟨e, he, hc⟩ | ⟨t, xs, hc, hr⟩
  · exact .inl hc
  · exact .inr (.inl hc)
  · exact .inr (.inr (.inl ⟨e, h e he, hc⟩))
  · exact .inr (.inr (.inr ⟨t, xs, hc, Rd.mono (fun b hb => ⟨FZ.mono h b hb, rfl⟩) hr⟩))
theorem EnOk.mono {m : M} {ids : List Nat} {Z Z' : List En} (h : ∀ e ∈ Z, e ∈ Z') {e : En} (he : EnOk m ids Z e) : EnOk m ids Z' e := by
  refine ⟨he.1, he.2.1, ?_⟩
  have h2 := he.2.2
  cases hs : e.s with
  | free => rw [hs] at h2; exact h2
  | gone => rw [hs] at h2; exact h2
  | live r =>
    rw [hs] at h2
    cases r with
    | row t xs v => exact ⟨h2.1.more (FZ.mono h), h2.2⟩
    | lent t xs => exact ⟨Rd.mono (fun b hb => ⟨FZ.mono h b hb, rfl⟩) h2.1, h2.2⟩
    | mp a t es => exact h2
    | box cs => obtain ⟨c, ty, fr, h3, h4, h5, h6⟩ := h2; exact ⟨c, ty, fr, h3, h4, All2.mono (fun _ _ => CellOk.mono h) h5, h6⟩
    | cbox cs => obtain ⟨c, ty, fr, h3, h4, h5, h6⟩ := h2; exact ⟨c, ty, fr, h3, h4, All2.mono (fun _ _ => CellOk.mono h) h5, h6⟩
section
variable {m : M}
theorem form_ok (H : HR m) {ids : List Nat} {key : Nat} {x y : SV} {v : Value} {f : Form} {u : Upd} {ks : List Nat} (hx : m.SR x v) (hf : formT m.h ids key x f = some (y, u, ks)) :
    ∃ Z : List En, Z.map En.p = u ∧ srcs Z = ks ∧ (∀ e ∈ Z, EnOk m ids Z e) ∧ CellOk m ids Z y v := by
  cases f with
  | v =>
    simp only [formT] at hf
    cases hb : svIn ids x with
    | false => rw [hb] at hf; cases hf
    | true =>
      rw [hb] at hf
      obtain ⟨rfl, rfl, rfl⟩ := inj3 (Option.some.inj hf)
      exact ⟨[], rfl, rfl, (fun e h => by cases h), .inr (.inl ⟨hb, hx⟩)⟩
  | row t =>
    simp only [formT] at hf
    split at hf
    · obtain ⟨rfl, rfl, rfl⟩ := inj3 (Option.some.inj hf)
      have hv : v = .slice none 0 0 := hx
      refine ⟨[⟨key, .live (.row t [] 0), ⟨0, none, 0, 0, t.nc⟩, fun _ => False, fun _ => False, none⟩], rfl, rfl, fun e he => ?_, .inr (.inr (.inl ⟨_, List.mem_singleton_self _, rfl, by rw [hv]; rfl⟩))⟩
      rw [List.mem_singleton.1 he]
      exact ⟨fun b h => (h.elim id id).elim, fun _ h => h.elim, ⟨none, 0, rfl, .inl ⟨rfl, rfl, rfl, fun _ h => h⟩⟩, rfl, rfl⟩
    · rename_i κ
      split at hf
      · rename_i t' xs ver hκ
        split at hf
        · rename_i ys hc
          obtain ⟨hw, rfl⟩ := castW_some hc
          obtain ⟨rfl, rfl, rfl⟩ := inj3 (Option.some.inj hf)
          obtain ⟨h1, h2, h3⟩ := rowO H hκ
          obtain ⟨φ', η, k1, k2, k3⟩ := Ow.weaken (t := .sl t') (u := .sl t) hw h1
          refine ⟨[⟨key, .live (.row t (cvtL (Ty.weak_eqv hw) xs) 0), m.ρ κ, φ', η, some κ⟩], rfl, rfl, fun e he => ?_, .inr (.inr (.inl ⟨_, List.mem_singleton_self _, rfl, hx.2⟩))⟩
          rw [List.mem_singleton.1 he]
          refine ⟨fun b h => ⟨κ, rfl, (k2 b).2 h⟩, k3, k1.more fun b h => h.imp id fun h => ⟨_, List.mem_singleton_self _, h⟩, ?_, ?_⟩
          · rw [len_cvtL]; exact h2
          · rw [← nc_eqv (Ty.weak_eqv hw)]; exact h3
        · cases hf
      · cases hf
    · rename_i κ lo hi
      split at hf
      · rename_i t' xs ver hκ
        split at hf
        · rename_i ys hc
          obtain ⟨hw, rfl⟩ := castW_some hc
          obtain ⟨rfl, rfl, rfl⟩ := inj3 (Option.some.inj hf)
          obtain ⟨h1, h2, h3⟩ := rowO H hκ
          obtain ⟨_, hlo, hhi, A', hcut, hv⟩ := hx
          rw [h3] at hcut
          obtain ⟨ψ, h4, h5⟩ := Ow.sub h1 hlo (by rw [← h2]; exact hhi) hcut
          obtain ⟨φ', η, k1, k2, k3⟩ := Ow.weaken (t := .sl t') (u := .sl t) hw h4
          have hd := cvtL_drop (Ty.D_eqv (Ty.weak_eqv hw)) xs lo (hi - lo)
          have k1' : Ow m.w (fun b => m.fz b ∨ η b) (.sl t) [.slice A' (hi - lo) ((m.ρ κ).c - lo)] (cvtL (Ty.weak_eqv hw) ((xs.drop lo).take (hi - lo))) φ' := k1
          rw [show cvtL (Ty.weak_eqv hw) ((xs.drop lo).take (hi - lo)) = ((cvtL (Ty.weak_eqv hw) xs).drop lo).take (hi - lo) from hd.symm] at k1'
          refine ⟨[⟨key, .live (.row t (((cvtL (Ty.weak_eqv hw) xs).drop lo).take (hi - lo)) 0), ⟨0, A', hi - lo, (m.ρ κ).c - lo, t.nc⟩, φ', η, some κ⟩], rfl, rfl, fun e he => ?_, .inr (.inr (.inl ⟨_, List.mem_singleton_self _, rfl, hv⟩))⟩
          rw [List.mem_singleton.1 he]
          refine ⟨fun b h => ⟨κ, rfl, h5 b ((k2 b).2 h)⟩, k3, k1'.more fun b h => h.imp id fun h => ⟨_, List.mem_singleton_self _, h⟩, ?_, rfl⟩
          show hi - lo = List.length (((cvtL (Ty.weak_eqv hw) xs).drop lo).take (hi - lo))
          have h6 : List.length (cvtL (Ty.weak_eqv hw) xs) = (m.ρ κ).n := by rw [len_cvtL]; exact h2.symm
          rw [List.length_take, List.length_drop]
          show hi - lo = min (hi - lo) (List.length (cvtL (Ty.weak_eqv hw) xs) - lo)
          omega
        · cases hf
      · cases hf
    · cases hf
  | lst t =>
    have bare : ∀ e ∈ ([⟨key, .gone, ⟨0, none, 0, 0, 0⟩, fun _ => False, fun _ => False, none⟩] : List En), EnOk m ids [⟨key, .gone, ⟨0, none, 0, 0, 0⟩, fun _ => False, fun _ => False, none⟩] e := fun e he => by
      rw [List.mem_singleton.1 he]
      exact ⟨fun b h => (h.elim id id).elim, fun _ h => h.elim, fun _ h => h⟩
    have own : ∀ {κ : Nat} {A : Option Addr} {n c : Nat} {t' : Ty} {xs : List t'.D} {ψ : Nat → Prop} {ys : List t.D} (he : t'.eqv t = true), v = .slice A n c → Ow m.w m.fz (.sl t') [.slice A n c] xs ψ → (∀ b, ψ b → m.φ κ b) → ys = cvtL he xs →
        ∃ Z : List En, Z.map En.p = [(key, .gone)] ∧ srcs Z = [κ] ∧ (∀ e ∈ Z, EnOk m ids Z e) ∧ CellOk m ids Z (.lst t ys) v := fun {κ A n c t' xs ψ ys} he hv ho hψ hy => by
      refine ⟨[⟨key, .gone, ⟨0, none, 0, 0, 0⟩, fun _ => False, ψ, some κ⟩], rfl, rfl, fun e he => ?_, .inr (.inr (.inr ⟨t, ys, rfl, ?_⟩))⟩
      · rw [List.mem_singleton.1 he]
        exact ⟨fun b h => ⟨κ, rfl, hψ b (h.elim False.elim id)⟩, fun _ h => h.elim, fun _ h => h⟩
      · rw [hv, hy]
        exact Rd.cvt (t := .sl t') (u := .sl t) he (ho.rd (fun _ h => .inl h) fun b h => .inr ⟨_, List.mem_singleton_self _, h⟩)
    simp only [formT] at hf
    split at hf
    · obtain ⟨rfl, rfl, rfl⟩ := inj3 (Option.some.inj hf)
      have hv : v = .slice none 0 0 := hx
      exact ⟨[⟨key, .gone, ⟨0, none, 0, 0, 0⟩, fun _ => False, fun _ => False, none⟩], rfl, rfl, bare, .inr (.inr (.inr ⟨t, [], rfl, none, 0, by rw [hv]; rfl, Nat.le_refl _, fun h => absurd h (by simp)⟩))⟩
    · rename_i t' xs
      split at hf
      · rename_i ys hc
        obtain ⟨he, rfl⟩ := castE_some hc
        obtain ⟨rfl, rfl, rfl⟩ := inj3 (Option.some.inj hf)
        exact ⟨[⟨key, .gone, ⟨0, none, 0, 0, 0⟩, fun _ => False, fun _ => False, none⟩], rfl, rfl, bare, .inr (.inr (.inr ⟨t, _, rfl, Rd.mono (fun b h => ⟨.inl h, rfl⟩) (Rd.cvt (t := .sl t') (u := .sl t) he hx)⟩))⟩
      · cases hf
    · rename_i κ
      split at hf
      · rename_i t' xs ver hκ
        split at hf
        · rename_i ys hc
          obtain ⟨he, rfl⟩ := castE_some hc
          obtain ⟨rfl, rfl, rfl⟩ := inj3 (Option.some.inj hf)
          obtain ⟨h1, h2, h3⟩ := rowO H hκ
          exact own he hx.2 h1 (fun _ h => h) rfl
        · cases hf
      · rename_i t' xs hκ
        split at hf
        · rename_i ys hc
          obtain ⟨he, rfl⟩ := castE_some hc
          obtain ⟨rfl, rfl, rfl⟩ := inj3 (Option.some.inj hf)
          have hv : v = slV (m.ρ κ) := hx.2
          exact ⟨[⟨key, .gone, ⟨0, none, 0, 0, 0⟩, fun _ => False, fun _ => False, none⟩], rfl, rfl, bare, .inr (.inr (.inr ⟨t, _, rfl, Rd.mono (fun b h => ⟨.inl h, rfl⟩) (by rw [hv]; exact Rd.cvt (t := .sl t') (u := .sl t) he (H.res κ _ hκ).1)⟩))⟩
        · cases hf
      · cases hf
    · rename_i κ lo hi
      split at hf
      · rename_i t' xs ver hκ
        split at hf
        · rename_i ys hc
          obtain ⟨he, rfl⟩ := castE_some hc
          obtain ⟨rfl, rfl, rfl⟩ := inj3 (Option.some.inj hf)
          obtain ⟨h1, h2, h3⟩ := rowO H hκ
          obtain ⟨_, hlo, hhi, A', hcut, hv⟩ := hx
          rw [h3] at hcut
          obtain ⟨ψ, h4, h5⟩ := Ow.sub h1 hlo (by rw [← h2]; exact hhi) hcut
          exact own he hv h4 h5 (cvtL_drop (Ty.D_eqv he) xs lo (hi - lo))
        · cases hf
      · rename_i t' xs hκ
        split at hf
        · rename_i ys hc
          obtain ⟨he, rfl⟩ := castE_some hc
          obtain ⟨rfl, rfl, rfl⟩ := inj3 (Option.some.inj hf)
          obtain ⟨h1, h2, h3, _⟩ := H.res κ _ hκ
          obtain ⟨_, hlo, hhi, A', hcut, hv⟩ := hx
          rw [h3] at hcut
          have h4 := Rd.cvt (t := .sl t') (u := .sl t) he (h1.sub hlo (by rw [← h2]; exact hhi) hcut)
          refine ⟨[⟨key, .gone, ⟨0, none, 0, 0, 0⟩, fun _ => False, fun _ => False, none⟩], rfl, rfl, bare, .inr (.inr (.inr ⟨t, _, rfl, Rd.mono (fun b h => ⟨.inl h, rfl⟩) ?_⟩))⟩
          rw [hv, show ((cvtL he xs).drop lo).take (hi - lo) = cvtL he ((xs.drop lo).take (hi - lo)) from cvtL_drop (Ty.D_eqv he) xs lo (hi - lo)]
          exact h4
        · cases hf
      · cases hf
    · cases hf
def PN (m : M) (ids : List Nat) (Z : List En) (p : PV) (v : Value) : Prop :=
  p = .un ∨ (pvIn ids p = true ∧ m.PR p v) ∨ (∃ x, p = .sv x ∧ CellOk m ids Z x v) ∨ ∃ (xs : List SV) (vs : Array Value), p = .c (.a xs) ∧ v = .agg vs ∧ All2 (CellOk m ids Z) xs vs.toList
theorem PN.mono {ids : List Nat} {Z Z' : List En} (h : ∀ e ∈ Z, e ∈ Z') {p : PV} {v : Value} (hc : PN m ids Z p v) : PN m ids Z' p v := by
  rcases hc with hc | hc | ⟨x, he, hc⟩ | ⟨xs, vs, h1, h2, h3⟩
  · exact .inl hc
  · exact .inr (.inl hc)
  · exact .inr (.inr (.inl ⟨x, he, hc.mono h⟩))
  · exact .inr (.inr (.inr ⟨xs, vs, h1, h2, All2.mono (fun _ _ k => k.mono h) h3⟩))
theorem CellOk.pn {ids : List Nat} {Z : List En} {x : SV} {v : Value} (hc : CellOk m ids Z x v) : PN m ids Z (.sv x) v := .inr (.inr (.inl ⟨x, rfl, hc⟩))
theorem set_self {α : Type} (l : List α) (i : Nat) (d : α) : l.set i (l.getD i d) = l := by
  by_cases h : i < l.length
  · rw [List.getD_eq_getElem?_getD, List.getElem?_eq_getElem h, Option.getD_some]; exact List.set_getElem_self h
  · exact List.set_eq_of_length_le (by omega)
theorem ens_append {ids : List Nat} {Z Z1 : List En} (h : ∀ e ∈ Z, EnOk m ids Z e) (h1 : ∀ e ∈ Z1, EnOk m ids Z1 e) : ∀ e ∈ Z ++ Z1, EnOk m ids (Z ++ Z1) e := fun e he => by
  rcases List.mem_append.1 he with he | he
  · exact (h e he).mono fun _ h => List.mem_append_left _ h
  · exact (h1 e he).mono fun _ h => List.mem_append_right _ h
theorem slots_ok (H : HR m) {ids : List Nat} {tmps : List PV} {vs : List Value} (ht : All2 m.PR tmps vs) : ∀ {l : List (Nat × Form)} {out out' : List PV} {u u' : Upd} {ks ks' : List Nat} {Z : List En}, Z.map En.p = u → srcs Z = ks → (∀ e ∈ Z, EnOk m ids Z e) → All2 (PN m ids Z) out vs →
    normSlots m.h ids tmps l out u ks = some (out', u', ks') → ∃ Z' : List En, Z'.map En.p = u' ∧ srcs Z' = ks' ∧ (∀ e ∈ Z', EnOk m ids Z' e) ∧ All2 (PN m ids Z') out' vs
  | [], out, out', u, u', ks, ks', Z, hu, hk, hZ, ho, hn => by
    obtain ⟨rfl, rfl, rfl⟩ := inj3 (Option.some.inj hn)
    exact ⟨Z, hu, hk, hZ, ho⟩
  | (s, f) :: l, out, out', u, u', ks, ks', Z, hu, hk, hZ, ho, hn => by
    have hp := getD_pr ht s
    have other : ∀ y : PV, tmps.getD s .un = y → (bif !isRow f && pvIn ids y then normSlots m.h ids tmps l (out.set s y) u ks else none) = some (out', u', ks') → ∃ Z' : List En, Z'.map En.p = u' ∧ srcs Z' = ks' ∧ (∀ e ∈ Z', EnOk m ids Z' e) ∧ All2 (PN m ids Z') out' vs := fun y hy h => by
      cases hb : !isRow f && pvIn ids y with
      | false => rw [hb] at h; cases h
      | true =>
        rw [hb] at h
        simp only [Bool.and_eq_true] at hb
        rw [hy] at hp
        have ho' := All2.set s ho (show PN m ids Z y (vs.getD s undef) from .inr (.inl ⟨hb.2, hp⟩))
        rw [set_self] at ho'
        exact slots_ok H ht hu hk hZ ho' h
    simp only [normSlots] at hn
    split at hn
    · rename_i x hx
      rw [hx] at hp
      split at hn
      · rename_i y v k hf
        obtain ⟨Z1, h1, h2, h3, h4⟩ := form_ok H (ids := ids) (show m.SR x (vs.getD s undef) from hp) hf
        have ho' := All2.set s (All2.mono (fun _ _ h => h.mono fun _ h => List.mem_append_left Z1 h) ho) (show PN m ids (Z ++ Z1) (.sv y) (vs.getD s undef) from (h4.mono fun _ h => List.mem_append_right Z h).pn)
        rw [set_self] at ho'
        exact slots_ok H ht (by rw [List.map_append, hu, h1]) (by rw [srcs_append, hk, h2]) (ens_append hZ h3) ho' hn
      · cases hn
    · exact other _ rfl hn
theorem cells_ok (H : HR m) {ids : List Nat} {κ : Nat} {cs : List SV} {vs : List Value} (ht : All2 m.SR cs vs) : ∀ {l : List (Nat × Form)} {out out' : List SV} {u u' : Upd} {ks ks' : List Nat} {Z : List En}, Z.map En.p = u → srcs Z = ks → (∀ e ∈ Z, EnOk m ids Z e) → All2 (CellOk m ids Z) out vs →
    normCells m.h ids κ cs l out u ks = some (out', u', ks') → ∃ Z' : List En, Z'.map En.p = u' ∧ srcs Z' = ks' ∧ (∀ e ∈ Z', EnOk m ids Z' e) ∧ All2 (CellOk m ids Z') out' vs ∧ ∀ e ∈ Z, e ∈ Z'
  | [], out, out', u, u', ks, ks', Z, hu, hk, hZ, ho, hn => by
    obtain ⟨rfl, rfl, rfl⟩ := inj3 (Option.some.inj hn)
    exact ⟨Z, hu, hk, hZ, ho, fun _ h => h⟩
  | (c, f) :: l, out, out', u, u', ks, ks', Z, hu, hk, hZ, ho, hn => by
    have hp : m.SR (cs.getD c .undef) (vs.getD c undef) := by
      rw [List.getD_eq_getElem?_getD, List.getD_eq_getElem?_getD]
      have hl := ht.len
      by_cases h : c < cs.length
      · rw [List.getElem?_eq_getElem h, List.getElem?_eq_getElem (by omega)]
        exact All2.get ht c h (by omega)
      · rw [List.getElem?_eq_none (by omega)]
        trivial
    simp only [normCells] at hn
    split at hn
    · rename_i y v k hf
      obtain ⟨Z1, h1, h2, h3, h4⟩ := form_ok H (ids := ids) hp hf
      have ho' := All2.set c (All2.mono (fun _ _ h => h.mono fun _ h => List.mem_append_left Z1 h) ho) (show CellOk m ids (Z ++ Z1) y (vs.getD c undef) from h4.mono fun _ h => List.mem_append_right Z h)
      rw [set_self] at ho'
      obtain ⟨Z', k1, k2, k3, k4, k5⟩ := cells_ok H ht (by rw [List.map_append, hu, h1]) (by rw [srcs_append, hk, h2]) (ens_append hZ h3) ho' hn
      exact ⟨Z', k1, k2, k3, k4, fun e he => k5 e (List.mem_append_left _ he)⟩
    · cases hn
theorem all2_rep {ids : List Nat} {Z : List En} : ∀ (vs : List Value), All2 (CellOk m ids Z) (List.replicate vs.length .undef) vs
  | [] => trivial
  | _ :: vs => ⟨.inl rfl, all2_rep vs⟩
theorem aggs_ok (H : HR m) {ids : List Nat} {tmps : List PV} {vs : List Value} (ht : All2 m.PR tmps vs) : ∀ {l : List (Nat × List (Nat × Form))} {out out' : List PV} {u u' : Upd} {ks ks' : List Nat} {Z : List En}, Z.map En.p = u → srcs Z = ks → (∀ e ∈ Z, EnOk m ids Z e) → All2 (PN m ids Z) out vs →
    normAggs m.h ids tmps l out u ks = some (out', u', ks') → ∃ Z' : List En, Z'.map En.p = u' ∧ srcs Z' = ks' ∧ (∀ e ∈ Z', EnOk m ids Z' e) ∧ All2 (PN m ids Z') out' vs
  | [], out, out', u, u', ks, ks', Z, hu, hk, hZ, ho, hn => by
    obtain ⟨rfl, rfl, rfl⟩ := inj3 (Option.some.inj hn)
    exact ⟨Z, hu, hk, hZ, ho⟩
  | (s, fs) :: l, out, out', u, u', ks, ks', Z, hu, hk, hZ, ho, hn => by
    have hp := getD_pr ht s
    simp only [normAggs] at hn
    split at hn
    · rename_i cs hx
      rw [hx] at hp
      obtain ⟨ws, hw, hall⟩ := hp
      split at hn
      · rename_i cs' u1 ks1 hc
        have hrep : All2 (CellOk m ids Z) (List.replicate cs.length .undef) ws.toList := by rw [hall.len]; exact all2_rep _
        obtain ⟨Z1, h1, h2, h3, h4, h5⟩ := cells_ok H hall hu hk hZ hrep hc
        have ho' := All2.set s (All2.mono (fun _ _ h => h.mono h5) ho) (show PN m ids Z1 (.c (.a cs')) (vs.getD s undef) from .inr (.inr (.inr ⟨cs', ws, rfl, hw, h4⟩)))
        rw [set_self] at ho'
        exact aggs_ok H ht h1 h2 h3 ho' hn
      · cases hn
    · cases hn
theorem all2_in {ids : List Nat} {Z : List En} : ∀ {cs : List SV} {vs : List Value}, All2 m.SR cs vs → cs.all (svIn ids) = true → All2 (CellOk m ids Z) cs vs
  | [], [], _, _ => trivial
  | c :: cs, v :: vs, h, hb => by
    simp only [List.all_cons, Bool.and_eq_true] at hb
    exact ⟨.inr (.inl ⟨hb.1, h.1⟩), all2_in h.2 hb.2⟩
theorem boxes_ok (H : HR m) {ids : List Nat} : ∀ {l : List (Nat × List (Nat × Form))} {u u' : Upd} {ks ks' : List Nat} {Z : List En}, Z.map En.p = u → srcs Z = ks → (∀ e ∈ Z, EnOk m ids Z e) → normBoxes m.h ids l u ks = some (u', ks') →
    ∃ Z' : List En, Z'.map En.p = u' ∧ srcs Z' = ks' ∧ (∀ e ∈ Z', EnOk m ids Z' e) ∧ (∀ e ∈ Z, e ∈ Z') ∧ ∀ κ ∈ l.map (·.1), (m.h κ).used ∧ ∃ e ∈ Z', e.key = κ ∧ e.l = m.ρ κ
  | [], u, u', ks, ks', Z, hu, hk, hZ, hn => by
    obtain ⟨rfl, rfl⟩ := Prod.mk.inj (Option.some.inj hn)
    exact ⟨Z, hu, hk, hZ, fun _ h => h, fun κ h => by cases h⟩
  | (κ, fs) :: l, u, u', ks, ks', Z, hu, hk, hZ, hn => by
    have add : ∀ {Z1 : List En} {u1 : Upd} {ks1 : List Nat} (s : Slot), (m.h κ).used → Z1.map En.p = u1 → srcs Z1 = ks1 → (∀ e ∈ Z1, EnOk m ids Z1 e) → (∀ e ∈ Z, e ∈ Z1) → EnOk m ids Z1 ⟨κ, s, m.ρ κ, m.φ κ, fun _ => False, some κ⟩ → normBoxes m.h ids l (u1 ++ [(κ, s)]) (ks1 ++ [κ]) = some (u', ks') →
        ∃ Z' : List En, Z'.map En.p = u' ∧ srcs Z' = ks' ∧ (∀ e ∈ Z', EnOk m ids Z' e) ∧ (∀ e ∈ Z, e ∈ Z') ∧ ∀ κ' ∈ ((κ, fs) :: l).map (·.1), (m.h κ').used ∧ ∃ e ∈ Z', e.key = κ' ∧ e.l = m.ρ κ' := by
      intro Z1 u1 ks1 s hused h1 h2 h3 h4 h5 h6
      obtain ⟨Z', k1, k2, k3, k4, k5⟩ := boxes_ok (Z := Z1 ++ [⟨κ, s, m.ρ κ, m.φ κ, fun _ => False, some κ⟩]) H (by rw [List.map_append, h1]; rfl) (by rw [srcs_append, h2]; rfl) (fun e he => by
        rcases List.mem_append.1 he with he | he
        · exact (h3 e he).mono fun _ h => List.mem_append_left _ h
        · rw [List.mem_singleton.1 he]; exact h5.mono fun _ h => List.mem_append_left _ h) h6
      refine ⟨Z', k1, k2, k3, fun e he => k4 e (List.mem_append_left _ (h4 e he)), fun κ' hκ' => ?_⟩
      rcases List.mem_cons.1 hκ' with rfl | hκ'
      · exact ⟨hused, _, k4 _ (List.mem_append_right _ (List.mem_singleton_self _)), rfl, rfl⟩
      · exact k5 κ' hκ'
    simp only [normBoxes] at hn
    split at hn
    · rename_i cs hκ
      obtain ⟨c, ty, fr, h1, h2, h3, h4⟩ := H.res κ _ hκ
      split at hn
      · rename_i cs' u1 ks1 hc
        obtain ⟨Z1, k1, k2, k3, k4, k5⟩ := cells_ok H (ids := ids) h3 hu hk hZ (by rw [show cs.length = c.toList.length from h3.len]; exact all2_rep _) hc
        exact add (.live (.box cs')) (by rw [hκ]; trivial) k1 k2 k3 k5 ⟨fun b hb => ⟨κ, rfl, hb.elim id False.elim⟩, fun _ _ h => h, c, ty, fr, h1, h2, k4, h4⟩ hn
      · cases hn
    · rename_i cs hκ
      obtain ⟨c, ty, fr, h1, h2, h3, h4⟩ := H.res κ _ hκ
      cases hb : cs.all (svIn ids) with
      | false => rw [hb] at hn; cases hn
      | true =>
        rw [hb] at hn
        exact add (.live (.cbox cs)) (by rw [hκ]; trivial) hu hk hZ (fun _ h => h) ⟨fun b hb => ⟨κ, rfl, hb.elim id False.elim⟩, fun _ _ h => h, c, ty, fr, h1, h2, all2_in h3 hb, h4⟩ hn
    · rename_i t xs ver hκ
      exact add (.live (.row t xs 0)) (by rw [hκ]; trivial) hu hk hZ (fun _ h => h) ⟨fun b hb => ⟨κ, rfl, hb.elim id False.elim⟩, fun _ _ h => h, (H.res κ _ hκ).1.more fun _ h => .inl h, (H.res κ _ hκ).2⟩ hn
    · rename_i a t es hκ
      exact add (.live (.mp a t es)) (by rw [hκ]; trivial) hu hk hZ (fun _ h => h) ⟨fun b hb => ⟨κ, rfl, hb.elim id False.elim⟩, fun _ _ h => h, H.res κ _ hκ⟩ hn
    · cases hn
end
end Go.Den
namespace Go.Den
open Go

/-! ## 46. Loop heads: the state told anew -/
def lookE : List En → Nat → Option En
  | [], _ => none
  | e :: r, κ => if e.key = κ then some e else lookE r κ
theorem lookE_mem : ∀ {Z : List En} {κ : Nat} {e : En}, lookE Z κ = some e → e ∈ Z ∧ e.key = κ
  | x :: Z, κ, e, h => by
    simp only [lookE] at h
    split at h
    · rename_i hk
      have := Option.some.inj h
      subst this
      exact ⟨by simp, hk⟩
    · exact ⟨List.mem_cons_of_mem _ (lookE_mem h).1, (lookE_mem h).2⟩
theorem lookE_of : ∀ {Z : List En} {e : En}, (Z.map En.key).Nodup → e ∈ Z → lookE Z e.key = some e
  | x :: Z, e, hn, he => by
    obtain ⟨h1, h2⟩ := List.nodup_cons.1 hn
    simp only [lookE]
    rcases List.mem_cons.1 he with rfl | he
    · rw [if_pos rfl]
    · rw [if_neg fun h => h1 (by rw [h]; exact List.mem_map.2 ⟨e, he, rfl⟩)]
      exact lookE_of h2 he
theorem upd_lookE : ∀ {Z : List En} {h : Heap} {κ : Nat}, (Z.map En.key).Nodup → h.upd (Z.map En.p) κ = match lookE Z κ with
    | some e => e.s
    | none => h κ
  | [], h, κ, _ => rfl
  | x :: Z, h, κ, hn => by
    obtain ⟨h1, h2⟩ := List.nodup_cons.1 hn
    have hk : keysOf (Z.map En.p) = Z.map En.key := by simp [keysOf, En.p, Function.comp_def]
    show (h.set x.key x.s).upd (Z.map En.p) κ = _
    simp only [lookE]
    by_cases e : x.key = κ
    · rw [if_pos e, Heap.upd_ne _ _ _ (by rw [hk, ← e]; exact h1), ← e, Heap.set_eq]
    · rw [if_neg e, upd_lookE h2]
      cases lookE Z κ with
      | some y => rfl
      | none => exact Heap.set_ne _ _ (Ne.symm e)
theorem mem_srcs : ∀ {Z : List En} {e : En} {κ : Nat}, e ∈ Z → e.src = some κ → κ ∈ srcs Z
  | x :: Z, e, κ, he, hs => by
    simp only [srcs]
    rcases List.mem_cons.1 he with rfl | he
    · rw [hs]; simp
    · have := mem_srcs he hs
      cases x.src with
      | none => exact this
      | some k => exact List.mem_cons_of_mem _ this
theorem src_inj : ∀ {Z : List En} {e e' : En} {κ : Nat}, (srcs Z).Nodup → e ∈ Z → e' ∈ Z → e.src = some κ → e'.src = some κ → e = e'
  | x :: Z, e, e', κ, hn, he, he', hs, hs' => by
    have hx : ∀ y, y ∈ Z → y.src = some κ → x.src = some κ → False := fun y hy h1 h2 => by
      simp only [srcs, h2] at hn
      exact (List.nodup_cons.1 hn).1 (mem_srcs hy h1)
    have hn' : (srcs Z).Nodup := by
      simp only [srcs] at hn
      cases hxs : x.src with
      | none => rw [hxs] at hn; exact hn
      | some k => rw [hxs] at hn; exact (List.nodup_cons.1 hn).2
    rcases List.mem_cons.1 he with h1 | h1 <;> rcases List.mem_cons.1 he' with h2 | h2
    · rw [h1, h2]
    · exact (hx e' h2 hs' (h1 ▸ hs)).elim
    · exact (hx e h1 hs (h2 ▸ hs')).elim
    · exact src_inj hn' h1 h2 hs hs'
noncomputable def M.anew (m : M) (Z : List En) : M :=
  { m with h := Heap.upd (fun _ => .free) (Z.map En.p), ρ := fun κ => match lookE Z κ with | some e => e.l | none => m.ρ κ, φ := fun κ => match lookE Z κ with | some e => e.ψ | none => fun _ => False, χ := fun _ => False, fz := FZ m Z }
section
variable {m : M}
theorem anew_ok (H : HR m) {ids : List Nat} {Z : List En} (hk : (Z.map En.key).Nodup) (hs : (srcs Z).Nodup) (hZ : ∀ e ∈ Z, EnOk m ids Z e) (hid : ∀ κ ∈ ids, ∃ e ∈ Z, e.key = κ ∧ e.l = m.ρ κ) :
    HR (m.anew Z) ∧ (∀ O : List Nat, (∀ κ ∈ O, κ ∈ ids) → Fr O m (m.anew Z)) ∧ ∀ x v, CellOk m ids Z x v → (m.anew Z).SR x v := by
  have hh : ∀ e ∈ Z, (m.anew Z).h e.key = e.s ∧ (m.anew Z).ρ e.key = e.l ∧ (m.anew Z).φ e.key = e.ψ := fun e he => by
    have hl := lookE_of hk he
    refine ⟨?_, ?_, ?_⟩
    · show Heap.upd (fun _ => .free) (Z.map En.p) e.key = _
      rw [upd_lookE hk, hl]
    · show (match lookE Z e.key with | some e => e.l | none => m.ρ e.key) = _
      rw [hl]
    · show (match lookE Z e.key with | some e => e.ψ | none => fun _ => False) = _
      rw [hl]
  have hlive : ∀ e ∈ Z, e.s.used := fun e he => by
    have := (hZ e he).2.2
    cases hs : e.s with
    | free => rw [hs] at this; exact this
    | gone => trivial
    | live r => trivial
  have hids : ∀ κ, ids.any (Nat.beq κ) = true → ((m.anew Z).h κ).used ∧ (m.anew Z).ρ κ = m.ρ κ := fun κ h => by
    obtain ⟨y, hy, e⟩ := List.any_eq_true.1 h
    have := Nat.eq_of_beq_eq_true e
    subst this
    obtain ⟨e, he, h1, h2⟩ := hid κ hy
    obtain ⟨h3, h4, _⟩ := hh e he
    rw [h1] at h3 h4
    exact ⟨by rw [h3]; exact hlive e he, by rw [h4, h2]⟩
  have hsr : ∀ x v, CellOk m ids Z x v → (m.anew Z).SR x v := by
    intro x v hc
    rcases hc with rfl | ⟨hb, hx⟩ | ⟨e, he, rfl, hv⟩ | ⟨t, xs, rfl, hr⟩
    · trivial
    · cases x <;> simp only [svIn] at hb <;> simp only [M.SR, Den.SR] at hx ⊢
      case own κ => exact ⟨(hids κ hb).1, by rw [(hids κ hb).2]; exact hx.2⟩
      case sub κ lo hi => exact ⟨(hids κ hb).1, hx.2.1, by rw [(hids κ hb).2]; exact hx.2.2⟩
      case ptr κ off => exact ⟨(hids κ hb).1, by rw [(hids κ hb).2]; exact hx.2⟩
      case rptr κ i off => exact ⟨(hids κ hb).1, by rw [(hids κ hb).2]; exact hx.2⟩
      case clo f ks =>
        have hall := List.all_eq_true.1 hb
        refine ⟨fun κ hκ => (hids κ (hall κ hκ)).1, ?_⟩
        rw [hx.2]
        congr 1
        have : ks.map (fun κ => Value.pointer (some ⟨(m.ρ κ).b, 0, none⟩)) = ks.map (fun κ => Value.pointer (some ⟨((m.anew Z).ρ κ).b, 0, none⟩)) := List.map_congr_left fun κ hκ => by rw [(hids κ (hall κ hκ)).2]
        rw [this]
      case mref κ => exact ⟨(hids κ hb).1, by rw [(hids κ hb).2]; exact hx.2⟩
      case mkeys g κ =>
        obtain ⟨_, bk, g1, g2, g3⟩ := hx
        exact ⟨(hids κ hb).1, bk, g1, .inl g2, by rw [(hids κ hb).2]; exact g3⟩
      case view => cases hb
      case vptr => cases hb
      case lst t xs => exact Rd.mono (fun b h => ⟨.inl h, rfl⟩) hx
      case lptr t xs i off =>
        obtain ⟨g1, b, o, vs, g2, g3, g4, g5⟩ := hx
        exact ⟨g1, b, o, vs, .inl g2, g3, g4, Rd.mono (fun b h => ⟨.inl h, rfl⟩) g5⟩
      all_goals exact hx
    · obtain ⟨h1, h2, _⟩ := hh e he
      refine ⟨by rw [h1]; exact hlive e he, ?_⟩
      rw [h2]; exact hv
    · exact hr
  have hφ : ∀ κ b, (m.anew Z).φ κ b → ∃ e ∈ Z, e.key = κ ∧ e.ψ b ∧ ∃ k, e.src = some k ∧ m.φ k b := fun κ b hb => by
    have hb : (match lookE Z κ with | some e => e.ψ | none => fun _ => False) b := hb
    cases hl : lookE Z κ with
    | none => rw [hl] at hb; exact hb.elim
    | some e =>
      rw [hl] at hb
      obtain ⟨he, hk⟩ := lookE_mem hl
      exact ⟨e, he, hk, hb, (hZ e he).1 b (.inl hb)⟩
  refine ⟨?_, ?_, hsr⟩
  · exact {
      res := fun κ r hr => by
        have hr' : Heap.upd (fun _ => .free) (Z.map En.p) κ = .live r := hr
        rw [upd_lookE hk] at hr'
        cases hl : lookE Z κ with
        | none => rw [hl] at hr'; cases hr'
        | some e =>
          rw [hl] at hr'
          obtain ⟨he, rfl⟩ := lookE_mem hl
          obtain ⟨h1, h2, h3⟩ := hh e he
          have hok := (hZ e he).2.2
          rw [show e.s = .live r from hr'] at hok
          rw [h3]
          cases r with
          | row t xs v => exact ⟨by rw [h2]; exact hok.1, by rw [h2]; exact hok.2.1, by rw [h2]; exact hok.2.2⟩
          | lent t xs => exact ⟨by rw [h2]; exact hok.1, by rw [h2]; exact hok.2.1, by rw [h2]; exact hok.2.2.1, hok.2.2.2⟩
          | mp a t es =>
            obtain ⟨ents, clock, k1, k2, k3, k4⟩ := hok
            exact ⟨ents, clock, by rw [h2]; exact k1, k2, k3, by rw [h2]; exact k4⟩
          | box cs =>
            obtain ⟨c, ty, fr, k1, k2, k3, k4⟩ := hok
            exact ⟨c, ty, fr, by rw [h2]; exact k1, k2, All2.mono hsr k3, by rw [h2]; exact k4⟩
          | cbox cs =>
            obtain ⟨c, ty, fr, k1, k2, k3, k4⟩ := hok
            exact ⟨c, ty, fr, by rw [h2]; exact k1, by rw [h2]; exact .inl k2, All2.mono hsr k3, k4⟩
      dead := fun κ hd b hb => by
        obtain ⟨e, he, rfl, hψ, _⟩ := hφ κ b hb
        have hok := (hZ e he).2.2
        obtain ⟨h1, _, _⟩ := hh e he
        cases hs : e.s with
        | free => rw [hs] at hok; exact hok
        | gone => rw [hs] at hok; exact hok b hψ
        | live r => exact hd r (h1.trans hs)
      disj := fun κ κ' b hne hb hb' => by
        obtain ⟨e, he, rfl, _, k, hk1, hk2⟩ := hφ κ b hb
        obtain ⟨e', he', rfl, _, k', hk1', hk2'⟩ := hφ κ' b hb'
        have : k = k' := Classical.byContradiction fun h => H.disj k k' b h hk2 hk2'
        subst this
        exact hne (by rw [src_inj hs he he' hk1 hk1'])
      loose := fun κ b _ h => h
      fzφ := fun κ b hb hf => by
        obtain ⟨e, he, rfl, hψ, k, hk1, hk2⟩ := hφ κ b hb
        rcases hf with hf | ⟨e', he', hf⟩
        · exact H.fzφ k b hk2 hf
        · obtain ⟨k', hk1', hk2'⟩ := (hZ e' he').1 b (.inr hf)
          have : k = k' := Classical.byContradiction fun h => H.disj k k' b h hk2 hk2'
          subst this
          have := src_inj hs he he' hk1 hk1'
          subst this
          exact (hZ e he).2.1 b hψ hf
      fzχ := fun b h => h.elim
      ltf := fun b hb => by
        rcases hb with hb | ⟨e', he', hf⟩
        · exact H.ltf b hb
        · obtain ⟨k', hk1', hk2'⟩ := (hZ e' he').1 b (.inr hf)
          exact H.ltφ hk2'
      ltχ := fun b h => h.elim
      glob := fun b o h => ⟨(H.glob b o h).1, .inl (H.glob b o h).2⟩ }
  · exact fun O hO => ⟨fun κ hκ _ => hids κ (List.any_eq_true.2 ⟨κ, hO κ hκ, Nat.beq_refl κ⟩), fun b hb => ⟨.inl hb, rfl⟩, (fun b hb => hb.imp id fun ⟨e', he', hf⟩ => by
      obtain ⟨k', _, hk2'⟩ := (hZ e' he').1 b (.inr hf)
      exact .inl (.inr ⟨k', hk2'⟩)), fun b hb => .inl (by
      rcases hb with hb | ⟨κ, hb⟩
      · exact hb.elim
      · obtain ⟨e, he, rfl, _, k, _, hk2⟩ := hφ κ b hb
        exact .inr ⟨k, hk2⟩), rfl, fun _ _ _ => rfl, Nat.le_refl _, rfl, rfl, rfl⟩
end
theorem cvs_ok {m m1 : M} {ids : List Nat} {Z : List En} (hsr : ∀ x v, CellOk m ids Z x v → m1.SR x v) : ∀ {xs : List CV} {ws : List Value}, All2 m.CR xs ws → xs.all (cvIn ids) = true → All2 m1.CR xs ws
  | [], [], _, _ => trivial
  | x :: xs, w :: ws, hall, hin => by
    simp only [List.all_cons, Bool.and_eq_true] at hin
    refine ⟨?_, cvs_ok hsr hall.2 hin.2⟩
    cases x with
    | s x => exact hsr x w (.inr (.inl ⟨hin.1, hall.1⟩))
    | a cs =>
      obtain ⟨vs, rfl, hall'⟩ := hall.1
      exact ⟨vs, rfl, All2.mono hsr (all2_in hall' hin.1)⟩
theorem normF_ok (O : List Nat) (Hn : Nat → Hint) : NormOk O (normF O Hn) := by
  intro bid σ σ1 a m hn S
  unfold normF at hn
  cases hbig : Nat.ble 2000000 bid with
  | true =>
    rw [hbig] at hn
    simp only [cond_true] at hn
    split at hn
    · cases hn
    · cases hn
      exact ⟨m, S, Fr.refl m, rfl⟩
  | false =>
  rw [hbig] at hn
  simp only [cond_false] at hn
  obtain ⟨hO, hn⟩ : O.all (fun κ => ((Hn bid).boxes.map (·.1)).any (Nat.beq κ)) = true ∧ normSt Hn bid σ = some σ1 := by
    cases hb : O.all (fun κ => ((Hn bid).boxes.map (·.1)).any (Nat.beq κ)) with
    | false => rw [hb] at hn; cases hn
    | true => rw [hb] at hn; exact ⟨rfl, hn⟩
  unfold normSt at hn
  split at hn
  · cases hn
  rename_i tmps u ks h1
  split at hn
  · cases hn
  rename_i tmps2 u2 ks2 h12
  split at hn
  · cases hn
  rename_i u' ks' h2
  cases hb : nodupB ks' && nodupB (keysOf u') with
  | false => rw [hb] at hn; cases hn
  | true =>
    rw [hb] at hn
    simp only [cond_true, Option.some.injEq] at hn
    simp only [Bool.and_eq_true] at hb
    rw [← S.h] at h1 h12 h2
    have hrep : All2 (PN m ((Hn bid).boxes.map (·.1)) []) (List.replicate σ.tmps.length .un) a.tmps.toList := by
      rw [S.tmps.len]
      have : ∀ vs : List Value, All2 (PN m ((Hn bid).boxes.map (·.1)) []) (List.replicate vs.length .un) vs := by
        intro vs
        induction vs with
        | nil => trivial
        | cons v vs ih => exact ⟨.inl rfl, ih⟩
      exact this _
    obtain ⟨Z1, a1, a2, a3, a4⟩ := slots_ok S.hr (ids := (Hn bid).boxes.map (·.1)) S.tmps (Z := []) rfl rfl (fun e h => by cases h) hrep h1
    obtain ⟨Z2, a1, a2, a3, a4⟩ := aggs_ok S.hr S.tmps a1 a2 a3 a4 h12
    obtain ⟨Z, b1, b2, b3, b4, b5⟩ := boxes_ok S.hr a1 a2 a3 h2
    have hkeys : (Z.map En.key).Nodup := by
      have := nodup_of hb.2
      rw [← b1] at this
      simpa [keysOf, En.p, Function.comp_def] using this
    obtain ⟨H1, F1, hsr⟩ := anew_ok S.hr hkeys (by rw [b2]; exact nodup_of hb.1) b3 fun κ hκ => (b5 κ hκ).2
    refine ⟨m.anew Z, ?_, F1 O fun κ hκ => ?_, rfl⟩
    case refine_2 =>
      obtain ⟨j, hj, he⟩ := List.any_eq_true.1 (List.all_eq_true.1 hO κ hκ)
      rwa [Nat.eq_of_beq_eq_true he]
    subst hn
    refine ⟨by show Heap.upd _ _ = _; rw [b1], ?_, H1, fun _ h => h, S.defers⟩
    refine All2.mono (fun p v h => ?_) (All2.mono (fun _ _ h => h.mono b4) a4)
    rcases h with rfl | ⟨hin, hp⟩ | ⟨x, rfl, hc⟩ | ⟨xs, ws, rfl, rfl, hall⟩
    · trivial
    · cases p with
      | c x =>
        cases x with
        | s x => exact hsr x v (.inr (.inl ⟨hin, hp⟩))
        | a cs =>
          obtain ⟨vs, rfl, hall⟩ := hp
          exact ⟨vs, rfl, All2.mono hsr (all2_in hall hin)⟩
      | tup xs =>
        obtain ⟨vs, rfl, hall⟩ := hp
        refine ⟨vs, rfl, ?_⟩
        exact cvs_ok hsr hall hin
    · exact hsr x v hc
    · exact ⟨ws, rfl, All2.mono hsr hall⟩
end Go.Den
namespace Go.Den
open Go

/-! ## 47. Functions: the parameters -/
theorem encO_end : ∀ (t : Ty) (j : Nat) (x : t.D), (encO t j x).2.2 = j + t.leaves
  | .int _, j, x => rfl
  | .bool, j, x => rfl
  | .str, j, x => rfl
  | .one, j, x => rfl
  | .ls _, j, x => rfl
  | .sl _, j, x => rfl
  | .pr a b, j, x => by
    show (encO b (encO a j x.1).2.2 x.2).2.2 = _
    rw [encO_end b, encO_end a]
    show j + a.leaves + b.leaves = j + (a.leaves + b.leaves)
    omega
/-- Nothing is there as yet but blocks of one's own. -/
def M.bare (w : World) (fz χ : Nat → Prop) (gl : Nat → Obj → Prop) : M := { h := fun _ => .free, ρ := fun _ => ⟨0, none, 0, 0, 0⟩, φ := fun _ _ => False, χ := χ, fz := fz, gl := gl, w := w }
theorem bare_hr {w : World} {fz χ : Nat → Prop} {gl : Nat → Obj → Prop} (h1 : ∀ b, χ b → ¬ fz b) (h2 : ∀ b, fz b → b < w.heap.size) (h3 : ∀ b, χ b → b < w.heap.size) (h4 : ∀ b o, gl b o → w.heap[b]? = some o ∧ fz b) : HR (M.bare w fz χ gl) where
  res := fun κ r h => by cases h
  dead := fun κ _ b h => h
  disj := fun _ _ _ _ h => h.elim
  loose := fun _ _ h => h.elim
  fzφ := fun _ _ h => h.elim
  fzχ := h1
  ltf := h2
  ltχ := h3
  glob := h4
section
variable {m : M}
/-- A variable that is read. -/
theorem cbox_in (H : HR m) {t : Ty} {κ : Nat} {x : t.D} {v : Value} (hκ : m.h κ = .free) (hb : BoxR m.w m.fz t v x) (j : Nat) (hj : j ≤ κ) :
    ∃ m', Step m m' [(κ, .live (.cbox (encL t x)))] j (κ + 1) ∧ (∀ b, m'.χ b ↔ m.χ b) ∧ m'.SR (.ptr κ 0) v := by
  obtain ⟨b, c, e, fr, rfl, h1, h2, h3⟩ := hb
  let l : Loc := ⟨b, none, 0, 0, 0⟩
  have hψ : ∀ b : Nat, False → m.χ b := fun _ h => h.elim
  have hres : ResR (m.take κ (.cbox (encL t x)) l fun _ => False) κ (.cbox (encL t x)) fun _ => False := by
    refine ⟨c, e, fr, ?_, ?_, All2.mono (fun _ _ h => (take_ext (r := .cbox (encL t x)) (l := l) hκ hψ).sr h) (encL_sr h3), fun _ h => h⟩
    · show m.w.heap[(fset m.ρ κ l κ).b]? = _
      rw [fset_eq]; exact h1
    · show m.fz (fset m.ρ κ l κ).b
      rw [fset_eq]; exact h2
  refine ⟨m.take κ (.cbox (encL t x)) l fun _ => False, ⟨take_hr H hκ hψ hres, take_ext hκ hψ, rfl, rfl, rfl, fun _ h => h.1, by omega⟩, fun b => ⟨fun h => h.1, fun h => ⟨h, fun h => h⟩⟩, ?_, ?_⟩
  · show (m.h.set κ _ κ).used
    rw [Heap.set_eq]; trivial
  · show _ = Value.pointer (some ⟨(fset m.ρ κ l κ).b, 0, none⟩)
    rw [fset_eq]
theorem cboxP_in (H : HR m) {κ κ0 br : Nat} {v0 : Value} (hκ : m.h κ = .free) (hh : HoldsP m.w br v0) (hf : m.fz br) (hs : m.SR (.ptr κ0 0) v0) (j : Nat) (hj : j ≤ κ) :
    ∃ m', Step m m' [(κ, .live (.cbox [.ptr κ0 0]))] j (κ + 1) ∧ (∀ b, m'.χ b ↔ m.χ b) ∧ m'.SR (.ptr κ 0) (.pointer (some ⟨br, 0, none⟩)) := by
  obtain ⟨c, e, fr, h1, h2⟩ := hh
  let l : Loc := ⟨br, none, 0, 0, 0⟩
  have hψ : ∀ b : Nat, False → m.χ b := fun _ h => h.elim
  have hall : All2 m.SR [.ptr κ0 0] c.toList := by rw [h2]; exact ⟨hs, trivial⟩
  have hres : ResR (m.take κ (.cbox [.ptr κ0 0]) l fun _ => False) κ (.cbox [.ptr κ0 0]) fun _ => False := by
    refine ⟨c, e, fr, ?_, ?_, All2.mono (fun _ _ h => (take_ext (r := .cbox [.ptr κ0 0]) (l := l) hκ hψ).sr h) hall, fun _ h => h⟩
    · show m.w.heap[(fset m.ρ κ l κ).b]? = _
      rw [fset_eq]; exact h1
    · show m.fz (fset m.ρ κ l κ).b
      rw [fset_eq]; exact hf
  refine ⟨m.take κ (.cbox [.ptr κ0 0]) l fun _ => False, ⟨take_hr H hκ hψ hres, take_ext hκ hψ, rfl, rfl, rfl, fun _ h => h.1, by omega⟩, fun b => ⟨fun h => h.1, fun h => ⟨h, fun h => h⟩⟩, ?_, ?_⟩
  · show (m.h.set κ _ κ).used
    rw [Heap.set_eq]; trivial
  · show _ = Value.pointer (some ⟨(fset m.ρ κ l κ).b, 0, none⟩)
    rw [fset_eq]
theorem Step.as {m' : M} {u : Upd} {j j' : Nat} (s : Step m m' u j j') (i i' : Nat) (h : i ≤ i') : Step m m' u i i' := ⟨s.hr, s.ext, s.h, s.w, s.fz, s.χ, h⟩
theorem Step.free {m' : M} {u : Upd} {j j' : Nat} (s : Step m m' u j j') {k : Nat} (hk : k ∉ keysOf u) (h : m.h k = .free) : m'.h k = .free := by
  rw [s.h, Heap.upd_ne _ _ _ hk]; exact h
theorem encO_in (H : HR m) {t : Ty} {j : Nat} {x : t.D} {vs : List Value} {φ : Nat → Prop} (ho : Ow m.w m.fz t vs x φ) (hφ : ∀ b, φ b → m.χ b) (hf : ∀ k, j ≤ k → k < j + t.leaves → m.h k = .free) :
    ∃ m', Step m m' (encO t j x).2.1 j (j + t.leaves) ∧ (∀ b, m'.χ b ↔ m.χ b ∧ ¬ φ b) ∧ (∀ k ∈ keysOf (encO t j x).2.1, j ≤ k ∧ k < j + t.leaves) ∧ All2 m'.SR (encO t j x).1 vs := by
  rcases he : encO t j x with ⟨cs, u, j'⟩
  have hj : j' = j + t.leaves := by have := encO_end t j x; rw [he] at this; exact this
  subst hj
  have hk := encO_keys t j x
  rw [he] at hk
  obtain ⟨m', s, h1, h2⟩ := encO_free H ho hφ he hf
  exact ⟨m', s, h1, hk, h2⟩
theorem boxIn_in (H : HR m) {t : Ty} {κ : Nat} {x : t.D} {v : Value} {φ : Nat → Prop} (hb : BoxO m.w m.fz t v x φ) (hφ : ∀ b, φ b → m.χ b) (hf : ∀ k, κ ≤ k → k < κ + 1 + t.leaves → m.h k = .free) :
    ∃ m', Step m m' (boxIn t κ x (κ + 1)).1 κ (κ + 1 + t.leaves) ∧ (∀ b, m'.χ b ↔ m.χ b ∧ ¬ φ b) ∧ (∀ k ∈ keysOf (boxIn t κ x (κ + 1)).1, κ ≤ k ∧ k < κ + 1 + t.leaves) ∧ m'.SR (.ptr κ 0) v := by
  have hj : (boxIn t κ x (κ + 1)).2 = κ + 1 + t.leaves := by
    have := encO_end t (κ + 1) x
    rcases he : encO t (κ + 1) x with ⟨cs, u, j'⟩
    rw [he] at this
    simp only [boxIn, he]; exact this
  have hk := (boxIn_keys t κ x (κ + 1)).2
  rw [hj] at hk
  obtain ⟨m', s, h1, h2⟩ := boxIn_new H (hf κ (Nat.le_refl _) (by omega)) (Nat.lt_succ_self κ) hb hφ (j := κ + 1) (fun k h1 h2 => hf k (by omega) (by omega))
  refine ⟨m', s.as _ _ (by omega), h1, fun k h => ?_, h2⟩
  rcases hk k h with h | h <;> omega
theorem caps_in : ∀ {caps : List (Ty × Bool)} {vs : List Value} {x : CapsD caps} {φ : Nat → Prop} {κ : Nat} {m : M}, HR m → CapsO m.w m.fz caps vs x φ → (∀ b, φ b → m.χ b) → caps.all (fun c => Nat.ble c.1.leaves 6) = true →
    (∀ k, κ ≤ k → k < κ + 8 * caps.length → m.h k = .free) →
    ∃ m', Step m m' (parIn.capIn κ caps x) κ (κ + 8 * caps.length) ∧ (∀ b, m'.χ b ↔ m.χ b ∧ ¬ φ b) ∧ (∀ k ∈ keysOf (parIn.capIn κ caps x), κ ≤ k ∧ k < κ + 8 * caps.length) ∧
      (∀ k ∈ capKeys κ caps, (m'.h k).used) ∧ vs = (capKeys κ caps).map fun k => Value.pointer (some ⟨(m'.ρ k).b, 0, none⟩)
  | [], vs, x, φ, κ, m, H, ho, hφ, hc, hf => by
    obtain ⟨rfl, hn⟩ := ho
    exact ⟨m, Step.refl H _, fun b => ⟨fun h => ⟨h, hn b⟩, fun h => h.1⟩, fun k h => (by cases h), fun k h => (by cases h), rfl⟩
  | (t, true) :: cs, vs, x, φ, κ, m, H, ho, hφ, hc, hf => by
    obtain ⟨v, r, φ1, φ2, rfl, h1, h2, h3⟩ := ho
    simp only [List.all_cons, Bool.and_eq_true] at hc
    have ht := Nat.le_of_ble_eq_true hc.1
    simp only [List.length_cons] at hf ⊢
    obtain ⟨m1, s1, x1, k1, p1⟩ := boxIn_in H h1 (fun b h => hφ b ((h3.2 b).2 (.inl h))) (κ := κ) fun k h h' => hf k h (by omega)
    obtain ⟨m2, s2, x2, k2, u2, p2⟩ := caps_in (caps := cs) (κ := κ + 8) s1.hr (by rw [s1.w, s1.fz]; exact h2) (fun b h => (x1 b).2 ⟨hφ b ((h3.2 b).2 (.inr h)), fun h' => h3.1 b h' h⟩) hc.2 fun k h h' =>
      s1.free (fun hk => by have := k1 k hk; omega) (hf k (by omega) (by omega))
    refine ⟨m2, (s1.as κ (κ + 8) (by omega)).trans (s2.as (κ + 8) (κ + 8 * (cs.length + 1)) (by omega)), fun b => ?_, fun k hk => ?_, fun k hk => ?_, ?_⟩
    · rw [x2, x1, h3.2]
      exact ⟨fun h => ⟨h.1.1, fun h' => h'.elim h.1.2 h.2⟩, fun h => ⟨⟨h.1, fun h' => h.2 (.inl h')⟩, fun h' => h.2 (.inr h')⟩⟩
    · have hk : k ∈ keysOf ((boxIn t κ x.1 (κ + 1)).1 ++ parIn.capIn (κ + 8) cs x.2) := hk
      rw [keysOf_append] at hk
      rcases List.mem_append.1 hk with hk | hk
      · have := k1 k hk; omega
      · have := k2 k hk; omega
    · rcases List.mem_cons.1 hk with rfl | hk
      · exact (s2.ext.used _ p1.1).1
      · exact u2 k hk
    · show v :: r = Value.pointer (some ⟨(m2.ρ κ).b, 0, none⟩) :: (capKeys (κ + 8) cs).map _
      rw [← p2, (s2.ext.used _ p1.1).2, ← p1.2]
  | (t, false) :: cs, vs, x, φ, κ, m, H, ho, hφ, hc, hf => by
    obtain ⟨v, r, rfl, h1, h2⟩ := ho
    simp only [List.all_cons, Bool.and_eq_true] at hc
    simp only [List.length_cons] at hf ⊢
    obtain ⟨m1, s1, x1, p1⟩ := cbox_in H (hf κ (Nat.le_refl _) (by omega)) h1 κ (Nat.le_refl _)
    obtain ⟨m2, s2, x2, k2, u2, p2⟩ := caps_in (caps := cs) (κ := κ + 8) s1.hr (by rw [s1.w, s1.fz]; exact h2) (fun b h => (x1 b).2 (hφ b h)) hc.2 fun k h h' =>
      s1.free (fun hk => by simp only [keysOf, List.map_cons, List.map_nil, List.mem_singleton] at hk; omega) (hf k (by omega) (by omega))
    refine ⟨m2, (s1.as κ (κ + 8) (by omega)).trans (s2.as (κ + 8) (κ + 8 * (cs.length + 1)) (by omega)), fun b => ?_, fun k hk => ?_, fun k hk => ?_, ?_⟩
    · rw [x2, x1]
    · rcases List.mem_cons.1 hk with rfl | hk
      · exact ⟨Nat.le_refl _, by omega⟩
      · have := k2 k hk; omega
    · rcases List.mem_cons.1 hk with rfl | hk
      · exact (s2.ext.used _ p1.1).1
      · exact u2 k hk
    · show v :: r = Value.pointer (some ⟨(m2.ρ κ).b, 0, none⟩) :: (capKeys (κ + 8) cs).map _
      rw [← p2, (s2.ext.used _ p1.1).2, ← p1.2]
/-- What a parameter's own things are, for the end. -/
def OutR1 (m : M) (i : Nat) : (p : Par) → p.D → Value → Prop
  | .mut t, x, v => All2 m.SR (encO t (outKey i) x).1 v.cells.toList
  | .ptr t, x, v => m.SR (.ptr (outKey i) 0) v
  | .clo f caps, x, v => m.SR (.clo f (capKeys (outKey i) caps)) v
  | .pptr t, x, v => ∃ br v0, v = .pointer (some ⟨br, 0, none⟩) ∧ m.SR (.ptr (outKey i) 0) v0 ∧ HoldsP m.w br v0 ∧ m.fz br
  | .rclo f caps, x, v => m.SR (.clo (f / 2) (rput f (outKey i) (capKeys (outKey i + 8) caps))) v
  | .val _, _, _ => True
  | .own _, _, _ => True
  | .cptr _, _, _ => True
def OutR (m : M) : Nat → (ps : List Par) → ArgsD ps → List Value → Prop
  | _, [], _, _ => True
  | i, p :: ps, x, v :: vs => OutR1 m i p x.1 v ∧ OutR m (i + 1) ps x.2 vs
  | _, _ :: _, _, [] => False
theorem OutR1.ext {m m' : M} (E : Ext m m') {i : Nat} {p : Par} {x : p.D} {v : Value} (h : OutR1 m i p x v) : OutR1 m' i p x v := by
  cases p with
  | «mut» t => exact All2.mono (fun _ _ h => E.sr h) h
  | ptr t => exact E.sr (x := .ptr (outKey i) 0) h
  | clo f caps => exact E.sr (x := .clo f (capKeys (outKey i) caps)) h
  | rclo f caps => exact E.sr (x := .clo (f / 2) (rput f (outKey i) (capKeys (outKey i + 8) caps))) h
  | pptr t =>
    obtain ⟨br, v0, e, h1, ⟨c, e', fr, h2, h3⟩, h4⟩ := h
    exact ⟨br, v0, e, E.sr (x := .ptr (outKey i) 0) h1, ⟨c, e', fr, by rw [(E.fz br h4).2]; exact h2, h3⟩, (E.fz br h4).1⟩
  | val t => trivial
  | own t => trivial
  | cptr t => trivial
/-- One parameter. -/
theorem par_in (H : HR m) {agg : Bool} {p : Par} {v : Value} {x : p.D} {φ : Nat → Prop} {i : Nat} (ho : ArgO m.w m.fz agg p v x φ) (hφ : ∀ b, φ b → m.χ b) (hp : parB p = true) (hf : ∀ k, outKey i ≤ k → k < outKey i + 64 → m.h k = .free) (hl : ∀ f caps, p = .rclo f caps → ∃ v0 br g r, v = .func g #[] (rput f (.pointer (some ⟨br, 0, none⟩)) r).toArray ∧ HoldsP m.w br v0 ∧ m.SR (.ptr (outKey (i - 1)) 0) v0) :
    ∃ m', Step m m' (parIn agg i p x).2 (outKey i) (outKey i + 64) ∧ (∀ b, m'.χ b ↔ m.χ b ∧ ¬ φ b) ∧ (∀ k ∈ keysOf (parIn agg i p x).2, outKey i ≤ k ∧ k < outKey i + 64) ∧ m'.PR (parIn agg i p x).1 v ∧ OutR1 m' i p x v := by
  cases p with
  | val t =>
    obtain ⟨h1, h2, h3⟩ := ho
    exact ⟨m, (Step.refl H 0).as _ _ (by omega), fun b => ⟨fun h => ⟨h, h3 b⟩, fun h => h.1⟩, fun k h => (by cases h), mkCV_cr h1 (encL_sr h2), trivial⟩
  | own t =>
    obtain ⟨h1, h2⟩ := ho
    have ht : t.leaves ≤ 60 := Nat.le_of_ble_eq_true hp
    obtain ⟨m', s, x1, k1, p1⟩ := encO_in H h2 hφ (j := outKey i) fun k h h' => hf k h (by omega)
    exact ⟨m', s.as _ _ (by omega), x1, fun k h => ⟨(k1 k h).1, by have := (k1 k h).2; omega⟩, mkCV_cr h1 p1, trivial⟩
  | «mut» t =>
    obtain ⟨h1, h2⟩ := ho
    have ht : t.leaves ≤ 60 := Nat.le_of_ble_eq_true hp
    obtain ⟨m', s, x1, k1, p1⟩ := encO_in H h2 hφ (j := outKey i) fun k h h' => hf k h (by omega)
    exact ⟨m', s.as _ _ (by omega), x1, fun k h => ⟨(k1 k h).1, by have := (k1 k h).2; omega⟩, mkCV_cr h1 p1, p1⟩
  | ptr t =>
    have ht : t.leaves ≤ 60 := Nat.le_of_ble_eq_true hp
    obtain ⟨m', s, x1, k1, p1⟩ := boxIn_in H ho hφ (κ := outKey i) fun k h h' => hf k h (by omega)
    exact ⟨m', s.as _ _ (by omega), x1, fun k h => ⟨(k1 k h).1, by have := (k1 k h).2; omega⟩, p1, p1⟩
  | cptr t =>
    obtain ⟨h1, h2⟩ := ho
    obtain ⟨m', s, x1, p1⟩ := cbox_in H (hf (outKey i) (Nat.le_refl _) (by omega)) h1 (outKey i) (Nat.le_refl _)
    refine ⟨m', s.as _ _ (by omega), fun b => ⟨fun h => ⟨(x1 b).1 h, h2 b⟩, fun h => (x1 b).2 h.1⟩, fun k h => ?_, p1, trivial⟩
    have h : k ∈ [outKey i] := h
    simp only [List.mem_singleton] at h
    omega
  | clo f caps =>
    obtain ⟨ps, rfl, h1⟩ := ho
    have hp : (Nat.ble caps.length 8 && caps.all fun c => Nat.ble c.1.leaves 6) = true := hp
    simp only [Bool.and_eq_true] at hp
    have hl := Nat.le_of_ble_eq_true hp.1
    obtain ⟨m', s, x1, k1, u1, p1⟩ := caps_in (κ := outKey i) H h1 hφ hp.2 fun k h h' => hf k h (by omega)
    exact ⟨m', s.as _ _ (by omega), x1, fun k h => ⟨(k1 k h).1, by have := (k1 k h).2; omega⟩, ⟨u1, by rw [p1]⟩, u1, by rw [p1]⟩
  | pptr t =>
    obtain ⟨br, v0, rfl, hh, hfz, hb⟩ := ho
    have ht : t.leaves ≤ 18 := Nat.le_of_ble_eq_true hp
    obtain ⟨m1, s1, x1, k1, p1⟩ := boxIn_in H hb hφ (κ := outKey i) fun k h h' => hf k h (by omega)
    obtain ⟨m2, s2, x2, p2⟩ := cboxP_in s1.hr (κ := outKey i + 20) (κ0 := outKey i) (br := br) (v0 := v0) (s1.free (fun hk => by have := k1 _ hk; omega) (hf _ (by omega) (by omega))) (by rw [s1.w]; exact hh) (by rw [s1.fz]; exact hfz) p1 (outKey i + 20) (Nat.le_refl _)
    refine ⟨m2, (s1.as (outKey i) (outKey i + 20) (by omega)).trans (s2.as _ _ (by omega)), fun b => by rw [x2, x1], fun k hk => ?_, p2, br, v0, rfl, s2.ext.sr (x := .ptr (outKey i) 0) p1, by rw [s2.w, s1.w]; exact hh, by rw [s2.fz, s1.fz]; exact hfz⟩
    have hk : k ∈ keysOf ((boxIn t (outKey i) x (outKey i + 1)).1 ++ [(outKey i + 20, .live (.cbox [.ptr (outKey i) 0]))]) := hk
    rw [keysOf_append] at hk
    rcases List.mem_append.1 hk with hk | hk
    · have := k1 k hk; omega
    · simp only [keysOf, List.map_cons, List.map_nil, List.mem_singleton] at hk; omega
  | rclo f caps =>
    obtain ⟨br, ps, rfl, hfz, h1⟩ := ho
    obtain ⟨v0, br', g, r, e, hh, hsr⟩ := hl f caps rfl
    have hbr : br' = br := by
      injection e with _ _ e
      have := (rput_inj (show rput f _ _ = rput f _ _ from congrArg Array.toList e)).1
      simp only [Value.pointer.injEq, Option.some.injEq, Addr.mk.injEq, and_true] at this
      exact this.symm
    subst hbr
    have hp : (Nat.ble caps.length 7 && caps.all fun c => Nat.ble c.1.leaves 6) = true := hp
    simp only [Bool.and_eq_true] at hp
    have hlc := Nat.le_of_ble_eq_true hp.1
    obtain ⟨m1, s1, x1, p1⟩ := cboxP_in H (κ := outKey i) (κ0 := outKey (i - 1)) (hf _ (Nat.le_refl _) (by omega)) hh hfz hsr (outKey i) (Nat.le_refl _)
    have hk1 : ∀ k ∈ keysOf [(outKey i, Slot.live (.cbox [.ptr (outKey (i - 1)) 0]))], k = outKey i := fun k hk => by
      simpa only [keysOf, List.map_cons, List.map_nil, List.mem_singleton] using hk
    obtain ⟨m2, s2, x2, k2, u2, p2⟩ := caps_in (κ := outKey i + 8) s1.hr (by rw [s1.w, s1.fz]; exact h1) (fun b h => (x1 b).2 (hφ b h)) hp.2 fun k h h' => s1.free (fun hk => by have := hk1 k hk; omega) (hf k (by omega) (by omega))
    have hsr2 : m2.SR (.clo (f / 2) (rput f (outKey i) (capKeys (outKey i + 8) caps))) (.func (.func (f / 2)) #[] (rput f (.pointer (some ⟨br', 0, none⟩)) ps).toArray) := by
      have q1 := s2.ext.sr (x := .ptr (outKey i) 0) p1
      refine ⟨fun κ hκ => ?_, ?_⟩
      · rcases mem_rput.1 hκ with rfl | hκ
        · exact q1.1
        · exact u2 κ hκ
      · rw [rput_map, ← p2, ← show Value.pointer (some ⟨br', 0, none⟩) = _ from q1.2]
    refine ⟨m2, (s1.as (outKey i) (outKey i + 8) (by omega)).trans (s2.as _ _ (by omega)), fun b => by rw [x2, x1], fun k hk => ?_, hsr2, hsr2⟩
    have hk : k ∈ keysOf ([(outKey i, Slot.live (.cbox [.ptr (outKey (i - 1)) 0]))] ++ parIn.capIn (outKey i + 8) caps x) := hk
    rw [keysOf_append] at hk
    rcases List.mem_append.1 hk with hk | hk
    · have := hk1 k hk; omega
    · have := k2 k hk; omega
theorem outKey_succ (i : Nat) : outKey (i + 1) = outKey i + 64 := by unfold outKey; omega
theorem pars_in {P : Program} : ∀ {ps : List Par} {ts : List TypeId} {vs : List Value} {x : ArgsD ps} {φ : Nat → Prop} {i : Nat} {m : M} {pv : Option Value}, HR m → ArgsO P m.w m.fz ts ps vs x φ → (∀ b, φ b → m.χ b) → ps.all parB = true → (∀ k, outKey i ≤ k → m.h k = .free) → LinkO m.w pv ps vs → (∀ v0, pv = some v0 → m.SR (.ptr (outKey (i - 1)) 0) v0) →
    ∃ m', Step m m' (parsIn P i ts ps x).2 (outKey i) (outKey (i + ps.length)) ∧ (∀ b, m'.χ b ↔ m.χ b ∧ ¬ φ b) ∧ All2 m'.PR (parsIn P i ts ps x).1 vs ∧ OutR m' i ps x vs
  | [], ts, vs, x, φ, i, m, pv, H, ho, hφ, hp, hf, hL, hpv => by
    have ho : vs = [] ∧ Nil φ := by cases ts <;> exact ho
    obtain ⟨rfl, hn⟩ := ho
    have e : parsIn P i ts [] x = ([], []) := by cases ts <;> rfl
    rw [e]
    exact ⟨m, Step.refl H _, fun b => ⟨fun h => ⟨h, hn b⟩, fun h => h.1⟩, trivial, trivial⟩
  | p :: ps, ts, vs, x, φ, i, m, pv, H, ho, hφ, hp, hf, hL, hpv => by
    have ho : ∃ v r φ1 φ2, vs = v :: r ∧ ArgO m.w m.fz (headAgg P ts) p v x.1 φ1 ∧ ArgsO P m.w m.fz ts.tail ps r x.2 φ2 ∧ Two φ φ1 φ2 := by cases ts <;> exact ho
    obtain ⟨v, r, φ1, φ2, rfl, h1, h2, h3⟩ := ho
    simp only [List.all_cons, Bool.and_eq_true] at hp
    obtain ⟨m1, s1, x1, k1, p1, o1⟩ := par_in H h1 (fun b h => hφ b ((h3.2 b).2 (.inl h))) hp.1 (i := i) (fun k h _ => hf k h) (fun f caps e => by
      subst e
      obtain ⟨v0, br, g, r0, rest, e1, e2, e3, _⟩ := hL
      injection e2 with e2 e4
      exact ⟨v0, br, g, r0, e2, e3, hpv v0 e1⟩)
    have hL' : ∃ pv', LinkO m1.w pv' ps r ∧ ∀ v0, pv' = some v0 → m1.SR (.ptr (outKey (i + 1 - 1)) 0) v0 := by
      rw [s1.w]
      cases p with
      | rclo f caps =>
        obtain ⟨v0, br, g, r0, rest, e1, e2, e3, e4⟩ := hL
        injection e2 with _ e5
        subst e5
        exact ⟨none, e4, fun _ e => by cases e⟩
      | ptr t => exact ⟨some v, hL, fun v0 e => by cases e; exact o1⟩
      | val t => exact ⟨none, hL, fun _ e => by cases e⟩
      | own t => exact ⟨none, hL, fun _ e => by cases e⟩
      | «mut» t => exact ⟨none, hL, fun _ e => by cases e⟩
      | cptr t => exact ⟨none, hL, fun _ e => by cases e⟩
      | clo f caps => exact ⟨none, hL, fun _ e => by cases e⟩
      | pptr t => exact ⟨none, hL, fun _ e => by cases e⟩
    obtain ⟨pv', hL1, hL2⟩ := hL'
    obtain ⟨m2, s2, x2, p2, o2⟩ := pars_in (ps := ps) (i := i + 1) s1.hr (by rw [s1.w, s1.fz]; exact h2) (fun b h => (x1 b).2 ⟨hφ b ((h3.2 b).2 (.inr h)), fun h' => h3.1 b h' h⟩) hp.2 (fun k h =>
      s1.free (fun hk => by have := k1 k hk; rw [outKey_succ] at h; omega) (hf k (by rw [outKey_succ] at h; omega))) hL1 hL2
    have e : parsIn P i ts (p :: ps) x = ((parIn (headAgg P ts) i p x.1).1 :: (parsIn P (i + 1) ts.tail ps x.2).1, (parIn (headAgg P ts) i p x.1).2 ++ (parsIn P (i + 1) ts.tail ps x.2).2) := by cases ts <;> rfl
    rw [e]
    refine ⟨m2, (s1.as (outKey i) (outKey (i + 1)) (by rw [outKey_succ]; omega)).trans (s2.as _ (outKey (i + (ps.length + 1))) (by unfold outKey; omega)), fun b => ?_, ⟨s2.ext.pr p1, p2⟩, o1.ext s2.ext, o2⟩
    rw [x2, x1, h3.2]
    exact ⟨fun h => ⟨h.1.1, fun h' => h'.elim h.1.2 h.2⟩, fun h => ⟨⟨h.1, fun h' => h.2 (.inl h')⟩, fun h' => h.2 (.inr h')⟩⟩
end
end Go.Den
namespace Go.Den
open Go

/-! ## 48. Functions: what comes back -/
section
variable {P : Program} {V : Nat → Sig} {F : Tr.Fs V} {m : M}
theorem load_cr (H : HR m) {t : TypeId} {a : SV} {x : Value} {v : PV} {u : Upd} {rd : List Nat} (hx : m.SR a x) (hr : (loadT (V := V) P t a).run F m.h = some ((v, u), rd)) :
    ∃ b off val, x = .pointer (some ⟨b, off, none⟩) ∧ (loadVar t ⟨b, off, none⟩).run P m.w = .ok val m.w ∧ m.PR v val := by
  obtain ⟨hk, hr⟩ := cond_no hr
  obtain ⟨d, hd⟩ := okT_some hk
  obtain ⟨cs, r1, r2, h1, h2, _⟩ := Tr.bind_some hr
  obtain ⟨b, off, vs, rfl, hcl, hall⟩ := cellsAt_at H hx h1
  have hlen := hall.len
  rcases Tr.cond_some h2 with ⟨hag, h2⟩ | ⟨hag, h2⟩
  · obtain ⟨hsz, h2⟩ := cond_no h2
    obtain ⟨rfl, rfl, _⟩ := ret2_some h2
    have hsz := Nat.le_of_ble_eq_true hsz
    refine ⟨b, off, .agg (vs.take (szB P t)).toArray, rfl, ?_, ⟨_, rfl, by simpa using hall.take _⟩⟩
    simp only [loadVar, Sem.run_bind, run_aggB hd, hag, Result.andThen_ok, if_true, run_szB hd, run_loadCells hcl _ (by omega : szB P t ≤ vs.length), Sem.run_pure]
  · match cs, vs, hall, h2 with
    | c :: cs, y :: vs, hall, h2 =>
      obtain ⟨rfl, rfl, _⟩ := val_some h2
      refine ⟨b, off, y, rfl, ?_, hall.1⟩
      have := hcl 0 (by simp)
      simp only [Nat.add_zero, List.getElem_cons_zero] at this
      simp only [loadVar, Sem.run_bind, run_aggB hd, hag, Result.andThen_ok, Bool.false_eq_true, if_false, run_load, this]
    | [], _, _, h2 => exact (Tr.no_some h2).elim
/-- A result variable's value. -/
def resStep (tmps : Array Value) : ResultVar → Sem Value
  | .tmp t => pure (tmps.getD t undef)
  | .cell a t => do loadVar t (← asAddr (tmps.getD a undef))
theorem tmps_getD (tmps : Array Value) (t : Nat) : tmps.toList.getD t undef = tmps.getD t undef := by
  rw [List.getD_eq_getElem?_getD, Array.getElem?_toList, Array.getD_eq_getD_getElem?]
theorem resVal_ok {σ : St} {a : Act} (S : Sim σ a m) {x : ResultVar} {y : CV} {rd : List Nat} (hr : (resVal (V := V) P σ x).run F m.h = some (y, rd)) :
    ∃ v, (resStep a.tmps x).run P m.w = .ok v m.w ∧ m.CR y v := by
  cases x with
  | tmp t =>
    have hp := getD_pr S.tmps t
    rw [tmps_getD] at hp
    simp only [resVal] at hr
    split at hr
    · rename_i z hz
      rw [hz] at hp
      obtain ⟨_, hr⟩ := cond_no hr
      obtain ⟨rfl, _⟩ := Tr.ret_some hr
      exact ⟨_, rfl, hp⟩
    · exact (Tr.no_some hr).elim
  | cell c t =>
    have hp := getD_pr S.tmps c
    rw [tmps_getD] at hp
    simp only [resVal] at hr
    split at hr
    · rename_i z hz
      rw [hz] at hp
      obtain ⟨⟨e, u⟩, r1, r2, h1, h2, _⟩ := Tr.bind_some hr
      obtain ⟨b, off, val, e1, e2, e3⟩ := load_cr S.hr hp h1
      simp only at h2
      split at h2
      · rename_i w
        obtain ⟨_, h2⟩ := cond_no h2
        obtain ⟨rfl, _⟩ := Tr.ret_some h2
        refine ⟨val, ?_, e3⟩
        simp only [resStep, e1, asAddr, pure_bind]
        exact e2
      · exact (Tr.no_some h2).elim
    · exact (Tr.no_some hr).elim
theorem results_of {fn : Func} {tmps : Array Value} {w : World} {vs : List Value} (h : (fn.results.toList.mapM (resStep tmps)).run P w = .ok vs w) : (results fn tmps).run P w = .ok (packed vs) w := by
  have e : results fn tmps = (do
      let vs ← fn.results.mapM (resStep tmps)
      pure (if h : vs.size = 1 then vs[0] else .tuple vs) : Sem Value) := rfl
  rw [e, ← Array.toArray_toList (xs := fn.results), List.mapM_toArray]
  simp only [Sem.run_bind, Sem.run_map, h, Result.andThen_ok, Sem.run_pure]
  congr 1
  match vs with
  | [] => rfl
  | [v] => rfl
  | v :: w :: r => simp [packed]
theorem ret1_ok (H : HR m) {agg : Bool} {r : RTy} {y : CV} {v : Value} {x : r.D} {u : Upd} {ks rd : List Nat} (hc : m.CR y v) (hr : (retT1 (V := V) agg r y).run F m.h = some ((x, u, ks), rd)) (hn : (keysOf u).Nodup) {S : Nat → Prop} (hS : ∀ b, m.seen ks b → S b) :
    ∃ φ η : Nat → Prop, ResO1 m.w (fun b => S b ∨ η b) agg r v x φ ∧ Ups m η u ∧ (∀ b, φ b ∨ η b → ∃ κ ∈ keysOf u, m.φ κ b) ∧ ∀ b, φ b → ¬ η b := by
  have hfz : ∀ b, m.fz b → S b := fun b hb => hS b (.inl hb)
  cases r with
  | own t =>
    obtain ⟨hk, hr⟩ := cond_no hr
    obtain ⟨hok, hsh⟩ := shapeB_ok hk hc
    obtain ⟨⟨z, rest, u'⟩, r1, r2, h1, h2, _⟩ := Tr.bind_some hr
    match rest, h2 with
    | [], h2 =>
      obtain ⟨e, _⟩ := Tr.ret_some h2
      obtain ⟨rfl, rfl, rfl⟩ := inj3 e
      obtain ⟨v1, v2, ψ, η, e1, k1, k2, k3, k4, k5⟩ := decO_ow H (CR.cells hok hc).1 h1 (of_nodup hn)
      have : v2 = [] := by match v2, k2 with | [], _ => rfl
      rw [this, List.append_nil] at e1
      rw [← e1] at k1
      exact ⟨ψ, η, ⟨hsh, k1.more fun b h => h.imp (hfz b) id⟩, k3, k4, k5⟩
    | _ :: _, h2 => exact (Tr.no_some h2).elim
  | lst t =>
    obtain ⟨hk, hr⟩ := cond_no hr
    obtain ⟨hok, hsh⟩ := shapeB_ok hk hc
    obtain ⟨⟨z, rest⟩, r1, r2, h1, h2, _⟩ := Tr.bind_some hr
    match rest, h2 with
    | [], h2 =>
      obtain ⟨e, _⟩ := Tr.ret_some h2
      obtain ⟨rfl, rfl, rfl⟩ := inj3 e
      obtain ⟨v1, v2, e1, k1, _, k2⟩ := decR_rdK H (ks := keysIn (cvCells y)) (fun _ h => h) (CR.cells hok hc).1 h1
      have : v2 = [] := by match v2, k2 with | [], _ => rfl
      rw [this, List.append_nil] at e1
      rw [← e1] at k1
      exact ⟨fun _ => False, fun _ => False, ⟨hsh, Rd.mono (fun b hb => ⟨.inl (hS b hb), rfl⟩) k1, fun _ h => h⟩, fun p hp => (by cases hp), (fun _ h => (h.elim id id).elim), fun _ h => h.elim⟩
    | _ :: _, h2 => exact (Tr.no_some h2).elim
  | ptr t =>
    match y, hc, hr with
    | .s (.ptr κ 0), hc, hr =>
      obtain ⟨⟨z, u'⟩, r1, r2, h1, h2, _⟩ := Tr.bind_some hr
      obtain ⟨e, _⟩ := Tr.ret_some h2
      obtain ⟨rfl, rfl, rfl⟩ := inj3 e
      obtain ⟨_, φ, η, k1, k2, k3, g1, g2⟩ := boxT_ok H h1 hn
      refine ⟨φ, η, ?_, k2, (fun b h => h.elim (k3 b) (g1 b)), g2⟩
      rw [show v = _ from hc.2]; exact BoxO.re (fun _ b h => h.imp (hfz b) id) k1
    | .s (.ptr κ (o + 1)), hc, hr => exact (Tr.no_some hr).elim
    | .s (.int _ _), hc, hr | .s (.bool _), hc, hr | .s (.str _), hc, hr | .s (.lst _ _), hc, hr | .s (.own _), hc, hr | .s (.sub _ _ _), hc, hr | .s (.view _ _ _ _), hc, hr | .s (.rptr _ _ _), hc, hr | .s (.lptr _ _ _ _), hc, hr | .s (.vptr _ _ _ _ _ _), hc, hr | .s (.clo _ _), hc, hr | .s .nils, hc, hr | .s .nilp, hc, hr | .s .nilf, hc, hr | .s (.err _), hc, hr | .s .undef, hc, hr | .a _, hc, hr => exact (Tr.no_some hr).elim
  | optr t =>
    match y, hc, hr with
    | .s (.ptr κ 0), hc, hr =>
      obtain ⟨⟨z, u'⟩, r1, r2, h1, h2, _⟩ := Tr.bind_some hr
      obtain ⟨e, _⟩ := Tr.ret_some h2
      obtain ⟨rfl, rfl, rfl⟩ := inj3 e
      obtain ⟨_, φ, η, k1, k2, k3, g1, g2⟩ := boxT_ok H h1 hn
      refine ⟨φ, η, ?_, k2, (fun b h => h.elim (k3 b) (g1 b)), g2⟩
      show BoxO m.w _ t v z φ
      rw [show v = _ from hc.2]; exact BoxO.re (fun _ b h => h.imp (hfz b) id) k1
    | .s .nilp, hc, hr =>
      obtain ⟨e, _⟩ := Tr.ret_some hr
      obtain ⟨rfl, rfl, rfl⟩ := inj3 e
      exact ⟨fun _ => False, fun _ => False, ⟨hc, fun _ h => h⟩, fun p hp => (by cases hp), (fun _ h => (h.elim id id).elim), fun _ h => h.elim⟩
    | .s (.ptr κ (o + 1)), hc, hr => exact (Tr.no_some hr).elim
    | .s (.int _ _), hc, hr | .s (.bool _), hc, hr | .s (.str _), hc, hr | .s (.lst _ _), hc, hr | .s (.own _), hc, hr | .s (.sub _ _ _), hc, hr | .s (.view _ _ _ _), hc, hr | .s (.rptr _ _ _), hc, hr | .s (.lptr _ _ _ _), hc, hr | .s (.vptr _ _ _ _ _ _), hc, hr | .s (.clo _ _), hc, hr | .s .nils, hc, hr | .s .nilf, hc, hr | .s (.err _), hc, hr | .s .undef, hc, hr | .a _, hc, hr => exact (Tr.no_some hr).elim
  | err =>
    match y, hc, hr with
    | .s (.err b), hc, hr =>
      obtain ⟨e, _⟩ := Tr.ret_some hr
      obtain ⟨rfl, rfl, rfl⟩ := inj3 e
      exact ⟨fun _ => False, fun _ => False, ⟨hc, fun _ h => h⟩, fun p hp => (by cases hp), (fun _ h => (h.elim id id).elim), fun _ h => h.elim⟩
    | .s (.ptr _ _), hc, hr | .s (.int _ _), hc, hr | .s (.bool _), hc, hr | .s (.str _), hc, hr | .s (.lst _ _), hc, hr | .s (.own _), hc, hr | .s (.sub _ _ _), hc, hr | .s (.view _ _ _ _), hc, hr | .s (.rptr _ _ _), hc, hr | .s (.lptr _ _ _ _), hc, hr | .s (.vptr _ _ _ _ _ _), hc, hr | .s (.clo _ _), hc, hr | .s .nils, hc, hr | .s .nilp, hc, hr | .s .nilf, hc, hr | .s .undef, hc, hr | .a _, hc, hr => exact (Tr.no_some hr).elim
/-- Things of unlike keys are apart. -/
theorem keys_apart (H : HR m) {u v : Upd} {φ1 φ2 : Nat → Prop} (hn : (keysOf u ++ keysOf v).Nodup) (h1 : ∀ b, φ1 b → ∃ κ ∈ keysOf u, m.φ κ b) (h2 : ∀ b, φ2 b → ∃ κ ∈ keysOf v, m.φ κ b) : ∀ b, φ1 b → ¬ φ2 b := fun b hb hb' => by
  obtain ⟨κ, hκ, h⟩ := h1 b hb
  obtain ⟨κ', hκ', h'⟩ := h2 b hb'
  have : κ = κ' := Classical.byContradiction fun e => H.disj κ κ' b e h h'
  exact (List.nodup_append.1 hn).2.2 κ hκ κ' hκ' this
theorem keys_both {u v : Upd} {φ1 φ2 : Nat → Prop} (h1 : ∀ b, φ1 b → ∃ κ ∈ keysOf u, m.φ κ b) (h2 : ∀ b, φ2 b → ∃ κ ∈ keysOf v, m.φ κ b) : ∀ b, φ1 b ∨ φ2 b → ∃ κ ∈ keysOf (u ++ v), m.φ κ b := fun b hb => by
  rw [keysOf_append]
  rcases hb with hb | hb
  · obtain ⟨κ, hκ, h⟩ := h1 b hb; exact ⟨κ, List.mem_append_left _ hκ, h⟩
  · obtain ⟨κ, hκ, h⟩ := h2 b hb; exact ⟨κ, List.mem_append_right _ hκ, h⟩
theorem ret_ok {σ : St} {a : Act} (S : Sim σ a m) : ∀ {rs : List RTy} {ts : List TypeId} {xs : List ResultVar} {x : ResD rs} {u : Upd} {ks rd : List Nat}, (retT (V := V) P σ rs ts xs).run F m.h = some ((x, u, ks), rd) → (keysOf u).Nodup → ∀ {fz : Nat → Prop}, (∀ b, m.seen ks b → fz b) →
    ∃ vs, ∃ φ η : Nat → Prop, (xs.mapM (resStep a.tmps)).run P m.w = .ok vs m.w ∧ ResO P m.w (fun b => fz b ∨ η b) rs ts vs x φ ∧ Ups m η u ∧ (∀ b, φ b ∨ η b → ∃ κ ∈ keysOf u, m.φ κ b) ∧ ∀ b, φ b → ¬ η b
  | [], [], [], x, u, ks, rd, hr, hn, fz, hf => by
    obtain ⟨e, _⟩ := Tr.ret_some hr
    obtain ⟨rfl, rfl, rfl⟩ := inj3 e
    exact ⟨[], fun _ => False, fun _ => False, rfl, ⟨rfl, rfl, fun _ h => h⟩, fun p hp => (by cases hp), (fun _ h => (h.elim id id).elim), fun _ h => h.elim⟩
  | [r], [t], [y], x, u, ks, rd, hr, hn, fz, hf => by
    obtain ⟨c, r1, r2, h1, h2, _⟩ := Tr.bind_some hr
    obtain ⟨v, e1, e2⟩ := resVal_ok S h1
    obtain ⟨φ, η, k1, k2, k3, k4⟩ := ret1_ok S.hr e2 h2 hn hf
    refine ⟨[v], φ, η, ?_, ⟨t, v, rfl, rfl, k1⟩, k2, k3, k4⟩
    simp only [List.mapM_cons, List.mapM_nil, Sem.run_bind, e1, Result.andThen_ok, Sem.run_pure]
  | r :: s :: rs, t :: ts, y :: ys, x, u, ks, rd, hr, hn, fz, hf => by
    obtain ⟨c, r1, r2, h1, h2, _⟩ := Tr.bind_some hr
    obtain ⟨⟨x1, u1, ks1⟩, r3, r4, h3, h4, _⟩ := Tr.bind_some h2
    obtain ⟨⟨x2, u2, ks2⟩, r5, r6, h5, h6, _⟩ := Tr.bind_some h4
    obtain ⟨e, _⟩ := Tr.ret_some h6
    obtain ⟨rfl, rfl, rfl⟩ := inj3 e
    simp only at hn hf ⊢
    rw [keysOf_append] at hn
    obtain ⟨hn1, hn2, _⟩ := List.nodup_append.1 hn
    obtain ⟨v, e1, e2⟩ := resVal_ok S h1
    obtain ⟨φ1, η1, k1, k2, k3, k4⟩ := ret1_ok S.hr e2 h3 hn1 fun b hb => hf b (mono_seen (fun κ h => List.mem_append_left _ h) b hb)
    obtain ⟨vs, φ2, η2, q0, q1, q2, q3, q4⟩ := ret_ok S h5 hn2 fun b hb => hf b (mono_seen (fun κ h => List.mem_append_right _ h) b hb)
    have cross := keys_apart (φ1 := fun b => φ1 b ∨ η1 b) (φ2 := fun b => φ2 b ∨ η2 b) S.hr hn k3 q3
    refine ⟨v :: vs, fun b => φ1 b ∨ φ2 b, fun b => η1 b ∨ η2 b, ?_, ⟨t, ts, v, vs, φ1, φ2, rfl, rfl, k1.re fun _ b h => h.imp id .inl, q1.re fun _ b h => h.imp id .inr, (fun b h h' => cross b (.inl h) (.inl h')), fun _ => Iff.rfl⟩, k2.append q2, (fun b hb => keys_both k3 q3 b ?_), fun b hb hb' => ?_⟩
    rotate_left
    · rcases hb with (h | h) | (h | h)
      · exact .inl (.inl h)
      · exact .inr (.inl h)
      · exact .inl (.inr h)
      · exact .inr (.inr h)
    · rcases hb with hb | hb <;> rcases hb' with hb' | hb'
      · exact k4 b hb hb'
      · exact cross b (.inl hb) (.inr hb')
      · exact cross b (.inr hb') (.inl hb)
      · exact q4 b hb hb'
    rw [List.mapM_cons]
    simp only [Sem.run_bind, e1, Result.andThen_ok, q0, Sem.run_pure]
  | [], [], _ :: _, _, _, _, _, hr, _, _, _ => (Tr.no_some hr).elim
  | [], _ :: _, _, _, _, _, _, hr, _, _, _ => (Tr.no_some hr).elim
  | [r], [], _, _, _, _, _, hr, _, _, _ => (Tr.no_some hr).elim
  | [r], [t], [], _, _, _, _, hr, _, _, _ => (Tr.no_some hr).elim
  | [r], [t], _ :: _ :: _, _, _, _, _, hr, _, _, _ => (Tr.no_some hr).elim
  | [r], _ :: _ :: _, _, _, _, _, _, hr, _, _, _ => (Tr.no_some hr).elim
  | r :: s :: rs, [], _, _, _, _, _, hr, _, _, _ => (Tr.no_some hr).elim
  | r :: s :: rs, t :: ts, [], _, _, _, _, hr, _, _, _ => (Tr.no_some hr).elim

/-! ### what the arguments that are written hold -/
theorem seqK_mem : ∀ {n j k : Nat}, k ∈ seqK n j ↔ j ≤ k ∧ k < j + n
  | 0, j, k => ⟨fun h => (by cases h), fun h => (by omega)⟩
  | n + 1, j, k => by
    simp only [seqK, List.mem_cons, seqK_mem (n := n)]
    omega
theorem decL_ok (H : HR m) {m0 : M} : ∀ {t : Ty} {j : Nat} {x y : t.D} {u : Upd} {j' : Nat} {rd : List Nat} {vs : List Value}, All2 m0.SR (encO t j x).1 vs → (∀ k ∈ seqK t.leaves j, m.ρ k = m0.ρ k) → (decL (V := V) t j).run F m.h = some ((y, u, j'), rd) →
    j' = j + t.leaves ∧ (∀ k ∈ keysOf u, j ≤ k ∧ k < j + t.leaves) ∧ ∃ φ, OwL m.w m.fz t vs y φ ∧ Ups m (fun _ => False) u ∧ ∀ b, φ b → ∃ κ ∈ keysOf u, m.φ κ b
  | .int k, j, x, y, u, j', rd, vs, ha, hρ, hr => by
    obtain ⟨e, _⟩ := Tr.ret_some hr
    obtain ⟨rfl, rfl, rfl⟩ := inj3 e
    exact ⟨rfl, fun k h => (by cases h), fun _ => False, ⟨ha.len.symm, fun _ h => h⟩, fun p hp => (by cases hp), fun _ h => h.elim⟩
  | .bool, j, x, y, u, j', rd, vs, ha, hρ, hr => by
    obtain ⟨e, _⟩ := Tr.ret_some hr
    obtain ⟨rfl, rfl, rfl⟩ := inj3 e
    exact ⟨rfl, fun k h => (by cases h), fun _ => False, ⟨ha.len.symm, fun _ h => h⟩, fun p hp => (by cases hp), fun _ h => h.elim⟩
  | .str, j, x, y, u, j', rd, vs, ha, hρ, hr => by
    obtain ⟨e, _⟩ := Tr.ret_some hr
    obtain ⟨rfl, rfl, rfl⟩ := inj3 e
    exact ⟨rfl, fun k h => (by cases h), fun _ => False, ⟨ha.len.symm, fun _ h => h⟩, fun p hp => (by cases hp), fun _ h => h.elim⟩
  | .one, j, x, y, u, j', rd, vs, ha, hρ, hr => by
    obtain ⟨e, _⟩ := Tr.ret_some hr
    obtain ⟨rfl, rfl, rfl⟩ := inj3 e
    exact ⟨rfl, fun k h => (by cases h), fun _ => False, ⟨ha.len.symm, fun _ h => h⟩, fun p hp => (by cases hp), fun _ h => h.elim⟩
  | .ls t, j, x, y, u, j', rd, vs, ha, hρ, hr => (Tr.no_some hr).elim
  | .sl t, j, x, y, u, j', rd, vs, ha, hρ, hr => by
    obtain ⟨t', xs, ver, r, hκ, h1, _⟩ := look_row (f := fun t' xs _ => (Tr.ofOpt (castL t' t xs)).bind fun ys => .ret (ys, [(j, .gone)], j + 1)) (fun _ _ _ => rfl) (fun s hs => by rcases s with _ | _ | (_ | _ | ⟨t, xs, v'⟩) <;> first | rfl | exact absurd rfl (hs t xs v')) hr
    obtain ⟨ys, r1, r2, h2, h3, _⟩ := Tr.bind_some h1
    obtain ⟨h2, _⟩ := Tr.ofOpt_some h2
    obtain ⟨e, rfl⟩ := castL_some h2
    subst e
    obtain ⟨e, _⟩ := Tr.ret_some h3
    obtain ⟨rfl, rfl, rfl⟩ := inj3 e
    match vs, ha with
    | [v], ha =>
      have hv : v = slV (m0.ρ j) := ha.1.2
      refine ⟨rfl, fun k h => ?_, m.φ j, ?_, fun p hp => ?_, fun b hb => ⟨j, by simp [keysOf], hb⟩⟩
      · simp only [keysOf, List.map_cons, List.map_nil, List.mem_singleton] at h
        simp only [Ty.leaves]; omega
      · rw [hv, ← hρ j (seqK_mem.2 ⟨Nat.le_refl _, by simp only [Ty.leaves]; omega⟩)]
        exact (H.res j _ hκ).1
      · simp only [List.mem_singleton] at hp
        subst hp
        exact ⟨.inl rfl, _, hκ⟩
  | .pr a b, j, x, y, u, j', rd, vs, ha, hρ, hr => by
    obtain ⟨⟨y1, u1, j1⟩, r1, r2, h1, h2, _⟩ := Tr.bind_some hr
    obtain ⟨⟨y2, u2, j2⟩, r3, r4, h3, h4, _⟩ := Tr.bind_some h2
    obtain ⟨e, _⟩ := Tr.ret_some h4
    obtain ⟨rfl, rfl, rfl⟩ := inj3 e
    have he : (encO (.pr a b) j x).1 = (encO a j x.1).1 ++ (encO b (encO a j x.1).2.2 x.2).1 := rfl
    rw [he] at ha
    obtain ⟨va, vb, rfl, ha1, ha2⟩ := All2.split ha
    have hl : (Ty.pr a b).leaves = a.leaves + b.leaves := rfl
    rw [hl] at hρ ⊢
    obtain ⟨e1, b1, φ1, k1, k2, k3⟩ := decL_ok H ha1 (fun k hk => hρ k (seqK_mem.2 (by have := seqK_mem.1 hk; omega))) h1
    subst e1
    have ej : (encO a j x.1).2.2 = j + a.leaves := encO_end a j x.1
    rw [ej] at ha2
    obtain ⟨e2, b2, φ2, q1, q2, q3⟩ := decL_ok H ha2 (fun k hk => hρ k (seqK_mem.2 (by have := seqK_mem.1 hk; omega))) h3
    refine ⟨by show j' = _; omega, fun k hk => ?_, fun i => φ1 i ∨ φ2 i, ⟨va, vb, φ1, φ2, rfl, k1, q1, ?_, fun _ => Iff.rfl⟩, (k2.append q2).more (fun _ h => h.elim id id), keys_both k3 q3⟩
    · rw [keysOf_append] at hk
      rcases List.mem_append.1 hk with hk | hk
      · have := b1 k hk; omega
      · have := b2 k hk; omega
    · intro i hi hi'
      obtain ⟨κ, hκ, h⟩ := k3 i hi
      obtain ⟨κ', hκ', h'⟩ := q3 i hi'
      have h5 := b1 κ hκ
      have h6 := b2 κ' hκ'
      exact H.disj κ κ' i (by omega) h h'
theorem capOut_fin (H : HR m) {m0 : M} : ∀ {caps : List (Ty × Bool)} {κ : Nat} {y : CapOutD caps} {u : Upd} {rd : List Nat}, (∀ k ∈ capOuts κ caps, m.ρ k = m0.ρ k) → (capOut (V := V) κ caps).run F m.h = some ((y, u), rd) → (keysOf u).Nodup →
    ∃ φ η : Nat → Prop, CapsOut m.w (fun b => m.fz b ∨ η b) caps ((capKeys κ caps).map fun k => Value.pointer (some ⟨(m0.ρ k).b, 0, none⟩)) y φ ∧ Ups m η u ∧ (∀ b, φ b ∨ η b → ∃ κ ∈ keysOf u, m.φ κ b) ∧ ∀ b, φ b → ¬ η b
  | [], κ, y, u, rd, hρ, hr, hn => by
    obtain ⟨e, _⟩ := Tr.ret_some hr
    obtain ⟨rfl, rfl⟩ := Prod.mk.inj e
    exact ⟨fun _ => False, fun _ => False, fun _ h => h, fun p hp => (by cases hp), (fun _ h => (h.elim id id).elim), fun _ h => h.elim⟩
  | (t, true) :: cs, κ, y, u, rd, hρ, hr, hn => by
    obtain ⟨⟨x1, u1⟩, r1, r2, h1, h2, _⟩ := Tr.bind_some hr
    obtain ⟨⟨x2, u2⟩, r3, r4, h3, h4, _⟩ := Tr.bind_some h2
    obtain ⟨e, _⟩ := Tr.ret_some h4
    obtain ⟨rfl, rfl⟩ := Prod.mk.inj e
    simp only at hn ⊢
    rw [keysOf_append] at hn
    obtain ⟨hn1, hn2, _⟩ := List.nodup_append.1 hn
    obtain ⟨_, φ1, η1, k1, k2, k3, g1, k4⟩ := boxT_ok H h1 hn1
    have k3' : ∀ b, φ1 b ∨ η1 b → ∃ κ ∈ keysOf u1, m.φ κ b := fun b h => h.elim (k3 b) (g1 b)
    obtain ⟨φ2, η2, q1, q2, q3, q4⟩ := capOut_fin H (κ := κ + 8) (fun k hk => hρ k (List.mem_cons_of_mem _ hk)) h3 hn2
    have cross := keys_apart (φ1 := fun b => φ1 b ∨ η1 b) (φ2 := fun b => φ2 b ∨ η2 b) H hn k3' q3
    have both : ∀ b, (φ1 b ∨ φ2 b) ∨ (η1 b ∨ η2 b) → ∃ κ ∈ keysOf (u1 ++ u2), m.φ κ b := fun b hb => keys_both k3' q3 b (by
      rcases hb with (h | h) | (h | h)
      · exact .inl (.inl h)
      · exact .inr (.inl h)
      · exact .inl (.inr h)
      · exact .inr (.inr h))
    have apart : ∀ b, φ1 b ∨ φ2 b → ¬ (η1 b ∨ η2 b) := fun b hb hb' => by
      rcases hb with hb | hb <;> rcases hb' with hb' | hb'
      · exact k4 b hb hb'
      · exact cross b (.inl hb) (.inr hb')
      · exact cross b (.inr hb') (.inl hb)
      · exact q4 b hb hb'
    refine ⟨fun b => φ1 b ∨ φ2 b, fun b => η1 b ∨ η2 b, ⟨_, _, φ1, φ2, rfl, ?_, q1.re fun _ b h => h.imp id .inr, (fun b h h' => cross b (.inl h) (.inl h')), fun _ => Iff.rfl⟩, k2.append q2, both, apart⟩
    show BoxO m.w _ t (Value.pointer (some ⟨(m0.ρ κ).b, 0, none⟩)) x1 φ1
    rw [← hρ κ (List.mem_cons_self ..)]; exact BoxO.re (fun _ b h => h.imp id .inl) k1
  | (t, false) :: cs, κ, y, u, rd, hρ, hr, hn => capOut_fin H (caps := cs) (κ := κ + 8) (fun k hk => hρ k hk) hr hn
theorem outs_ok (H : HR m) {m0 : M} : ∀ {ps : List Par} {x : ArgsD ps} {i : Nat} {vs : List Value} {y : OutsD ps} {u : Upd} {rd : List Nat}, OutR m0 i ps x vs → (∀ b, m0.fz b → m.w.heap[b]? = m0.w.heap[b]?) → (∀ k ∈ outsK i ps, m.ρ k = m0.ρ k) → (outs (V := V) i ps).run F m.h = some ((y, u), rd) → (keysOf u).Nodup →
    ∃ φ η : Nat → Prop, OutsO m.w (fun b => m.fz b ∨ η b) ps vs y φ ∧ Ups m η u ∧ (∀ b, φ b ∨ η b → ∃ κ ∈ keysOf u, m.φ κ b) ∧ ∀ b, φ b → ¬ η b
  | [], x, i, vs, y, u, rd, ha, hz, hρ, hr, hn => by
    obtain ⟨e, _⟩ := Tr.ret_some hr
    obtain ⟨rfl, rfl⟩ := Prod.mk.inj e
    exact ⟨fun _ => False, fun _ => False, fun _ h => h, fun p hp => (by cases hp), (fun _ h => (h.elim id id).elim), fun _ h => h.elim⟩
  | p :: ps, x, i, [], y, u, rd, ha, hz, hρ, hr, hn => ha.elim
  | p :: ps, x, i, v :: vs, y, u, rd, ⟨ha1, ha2⟩, hz, hρ, hr, hn => by
      cases p with
      | val t => exact outs_ok (ps := ps) (i := i + 1) H ha2 hz hρ hr hn
      | own t => exact outs_ok (ps := ps) (i := i + 1) H ha2 hz hρ hr hn
      | cptr t => exact outs_ok (ps := ps) (i := i + 1) H ha2 hz hρ hr hn
      | «mut» t =>
        obtain ⟨⟨x1, u1, j1⟩, r1, r2, h1, h2, _⟩ := Tr.bind_some hr
        obtain ⟨⟨x2, u2⟩, r3, r4, h3, h4, _⟩ := Tr.bind_some h2
        obtain ⟨e, _⟩ := Tr.ret_some h4
        obtain ⟨rfl, rfl⟩ := Prod.mk.inj e
        simp only at hn ⊢
        rw [keysOf_append] at hn
        obtain ⟨hn1, hn2, _⟩ := List.nodup_append.1 hn
        obtain ⟨_, _, φ1, k1, k2, k3⟩ := decL_ok H ha1 (fun k hk => hρ k (List.mem_append_left _ hk)) h1
        let η1 : Nat → Prop := fun _ => False
        have k4 : ∀ b, φ1 b → ¬ η1 b := fun _ _ h => h
        have k3' : ∀ b, φ1 b ∨ η1 b → ∃ κ ∈ keysOf u1, m.φ κ b := fun b h => h.elim (k3 b) False.elim
        obtain ⟨φ2, η2, q1, q2, q3, q4⟩ := outs_ok H ha2 hz (fun k hk => hρ k (List.mem_append_right _ hk)) h3 hn2
        have cross := keys_apart (φ1 := fun b => φ1 b ∨ η1 b) (φ2 := fun b => φ2 b ∨ η2 b) H hn k3' q3
        have both : ∀ b, (φ1 b ∨ φ2 b) ∨ (η1 b ∨ η2 b) → ∃ κ ∈ keysOf (u1 ++ u2), m.φ κ b := fun b hb => keys_both k3' q3 b (by
          rcases hb with (h | h) | (h | h)
          · exact .inl (.inl h)
          · exact .inr (.inl h)
          · exact .inl (.inr h)
          · exact .inr (.inr h))
        have apart : ∀ b, φ1 b ∨ φ2 b → ¬ (η1 b ∨ η2 b) := fun b hb hb' => by
          rcases hb with hb | hb <;> rcases hb' with hb' | hb'
          · exact k4 b hb hb'
          · exact cross b (.inl hb) (.inr hb')
          · exact cross b (.inr hb') (.inl hb)
          · exact q4 b hb hb'
        exact ⟨fun b => φ1 b ∨ φ2 b, fun b => η1 b ∨ η2 b, ⟨_, _, φ1, φ2, rfl, k1.re fun _ b h => .inl h, q1.re fun _ b h => h.imp id .inr, (fun b h h' => cross b (.inl h) (.inl h')), fun _ => Iff.rfl⟩, k2.append q2, both, apart⟩
      | ptr t =>
        obtain ⟨⟨x1, u1⟩, r1, r2, h1, h2, _⟩ := Tr.bind_some hr
        obtain ⟨⟨x2, u2⟩, r3, r4, h3, h4, _⟩ := Tr.bind_some h2
        obtain ⟨e, _⟩ := Tr.ret_some h4
        obtain ⟨rfl, rfl⟩ := Prod.mk.inj e
        simp only at hn ⊢
        rw [keysOf_append] at hn
        obtain ⟨hn1, hn2, _⟩ := List.nodup_append.1 hn
        obtain ⟨_, φ1, η1, k1, k2, k3, g1, k4⟩ := boxT_ok H h1 hn1
        have k3' : ∀ b, φ1 b ∨ η1 b → ∃ κ ∈ keysOf u1, m.φ κ b := fun b h => h.elim (k3 b) (g1 b)
        obtain ⟨φ2, η2, q1, q2, q3, q4⟩ := outs_ok H ha2 hz (fun k hk => hρ k (List.mem_cons_of_mem _ hk)) h3 hn2
        have cross := keys_apart (φ1 := fun b => φ1 b ∨ η1 b) (φ2 := fun b => φ2 b ∨ η2 b) H hn k3' q3
        have both : ∀ b, (φ1 b ∨ φ2 b) ∨ (η1 b ∨ η2 b) → ∃ κ ∈ keysOf (u1 ++ u2), m.φ κ b := fun b hb => keys_both k3' q3 b (by
          rcases hb with (h | h) | (h | h)
          · exact .inl (.inl h)
          · exact .inr (.inl h)
          · exact .inl (.inr h)
          · exact .inr (.inr h))
        have apart : ∀ b, φ1 b ∨ φ2 b → ¬ (η1 b ∨ η2 b) := fun b hb hb' => by
          rcases hb with hb | hb <;> rcases hb' with hb' | hb'
          · exact k4 b hb hb'
          · exact cross b (.inl hb) (.inr hb')
          · exact cross b (.inr hb') (.inl hb)
          · exact q4 b hb hb'
        refine ⟨fun b => φ1 b ∨ φ2 b, fun b => η1 b ∨ η2 b, ⟨_, _, φ1, φ2, rfl, ?_, q1.re fun _ b h => h.imp id .inr, (fun b h h' => cross b (.inl h) (.inl h')), fun _ => Iff.rfl⟩, k2.append q2, both, apart⟩
        rw [show v = _ from ha1.2, ← hρ (outKey i) (List.mem_cons_self ..)]; exact BoxO.re (fun _ b h => h.imp id .inl) k1
      | clo f caps =>
        obtain ⟨⟨x1, u1⟩, r1, r2, h1, h2, _⟩ := Tr.bind_some hr
        obtain ⟨⟨x2, u2⟩, r3, r4, h3, h4, _⟩ := Tr.bind_some h2
        obtain ⟨e, _⟩ := Tr.ret_some h4
        obtain ⟨rfl, rfl⟩ := Prod.mk.inj e
        simp only at hn ⊢
        rw [keysOf_append] at hn
        obtain ⟨hn1, hn2, _⟩ := List.nodup_append.1 hn
        obtain ⟨φ1, η1, k1, k2, k3', k4⟩ := capOut_fin H (m0 := m0) (fun k hk => hρ k (List.mem_append_left _ hk)) h1 hn1
        obtain ⟨φ2, η2, q1, q2, q3, q4⟩ := outs_ok H ha2 hz (fun k hk => hρ k (List.mem_append_right _ hk)) h3 hn2
        have cross := keys_apart (φ1 := fun b => φ1 b ∨ η1 b) (φ2 := fun b => φ2 b ∨ η2 b) H hn k3' q3
        have both : ∀ b, (φ1 b ∨ φ2 b) ∨ (η1 b ∨ η2 b) → ∃ κ ∈ keysOf (u1 ++ u2), m.φ κ b := fun b hb => keys_both k3' q3 b (by
          rcases hb with (h | h) | (h | h)
          · exact .inl (.inl h)
          · exact .inr (.inl h)
          · exact .inl (.inr h)
          · exact .inr (.inr h))
        have apart : ∀ b, φ1 b ∨ φ2 b → ¬ (η1 b ∨ η2 b) := fun b hb hb' => by
          rcases hb with hb | hb <;> rcases hb' with hb' | hb'
          · exact k4 b hb hb'
          · exact cross b (.inl hb) (.inr hb')
          · exact cross b (.inr hb') (.inl hb)
          · exact q4 b hb hb'
        exact ⟨fun b => φ1 b ∨ φ2 b, fun b => η1 b ∨ η2 b, ⟨_, _, φ1, φ2, by rw [show v = _ from ha1.2], k1.re fun _ b h => h.imp id .inl, q1.re fun _ b h => h.imp id .inr, (fun b h h' => cross b (.inl h) (.inl h')), fun _ => Iff.rfl⟩, k2.append q2, both, apart⟩
      | pptr t =>
        obtain ⟨⟨x1, u1⟩, r1, r2, h1, h2, _⟩ := Tr.bind_some hr
        obtain ⟨⟨x2, u2⟩, r3, r4, h3, h4, _⟩ := Tr.bind_some h2
        obtain ⟨e, _⟩ := Tr.ret_some h4
        obtain ⟨rfl, rfl⟩ := Prod.mk.inj e
        simp only at hn ⊢
        rw [keysOf_append] at hn
        obtain ⟨hn1, hn2, _⟩ := List.nodup_append.1 hn
        obtain ⟨_, φ1, η1, k1, k2, k3, g1, k4⟩ := boxT_ok H h1 hn1
        have k3' : ∀ b, φ1 b ∨ η1 b → ∃ κ ∈ keysOf u1, m.φ κ b := fun b h => h.elim (k3 b) (g1 b)
        obtain ⟨φ2, η2, q1, q2, q3, q4⟩ := outs_ok H ha2 hz (fun k hk => hρ k (List.mem_cons_of_mem _ hk)) h3 hn2
        have cross := keys_apart (φ1 := fun b => φ1 b ∨ η1 b) (φ2 := fun b => φ2 b ∨ η2 b) H hn k3' q3
        have both : ∀ b, (φ1 b ∨ φ2 b) ∨ (η1 b ∨ η2 b) → ∃ κ ∈ keysOf (u1 ++ u2), m.φ κ b := fun b hb => keys_both k3' q3 b (by
          rcases hb with (h | h) | (h | h)
          · exact .inl (.inl h)
          · exact .inr (.inl h)
          · exact .inl (.inr h)
          · exact .inr (.inr h))
        have apart : ∀ b, φ1 b ∨ φ2 b → ¬ (η1 b ∨ η2 b) := fun b hb hb' => by
          rcases hb with hb | hb <;> rcases hb' with hb' | hb'
          · exact k4 b hb hb'
          · exact cross b (.inl hb) (.inr hb')
          · exact cross b (.inr hb') (.inl hb)
          · exact q4 b hb hb'
        obtain ⟨br, v0, e0, e1, ⟨cc, ee, ff, e2, e3⟩, e4⟩ := ha1
        refine ⟨fun b => φ1 b ∨ φ2 b, fun b => η1 b ∨ η2 b, ⟨br, v0, _, φ1, φ2, by rw [e0], ⟨cc, ee, ff, by rw [hz br e4]; exact e2, e3⟩, ?_, q1.re fun _ b h => h.imp id .inr, (fun b h h' => cross b (.inl h) (.inl h')), fun _ => Iff.rfl⟩, k2.append q2, both, apart⟩
        rw [show v0 = _ from e1.2, ← hρ (outKey i) (List.mem_cons_self ..)]; exact BoxO.re (fun _ b h => h.imp id .inl) k1
      | rclo f caps =>
        obtain ⟨⟨x1, u1⟩, r1, r2, h1, h2, _⟩ := Tr.bind_some hr
        obtain ⟨⟨x2, u2⟩, r3, r4, h3, h4, _⟩ := Tr.bind_some h2
        obtain ⟨e, _⟩ := Tr.ret_some h4
        obtain ⟨rfl, rfl⟩ := Prod.mk.inj e
        simp only at hn ⊢
        rw [keysOf_append] at hn
        obtain ⟨hn1, hn2, _⟩ := List.nodup_append.1 hn
        obtain ⟨φ1, η1, k1, k2, k3', k4⟩ := capOut_fin H (m0 := m0) (fun k hk => hρ k (List.mem_append_left _ hk)) h1 hn1
        obtain ⟨φ2, η2, q1, q2, q3, q4⟩ := outs_ok H ha2 hz (fun k hk => hρ k (List.mem_append_right _ hk)) h3 hn2
        have cross := keys_apart (φ1 := fun b => φ1 b ∨ η1 b) (φ2 := fun b => φ2 b ∨ η2 b) H hn k3' q3
        have both : ∀ b, (φ1 b ∨ φ2 b) ∨ (η1 b ∨ η2 b) → ∃ κ ∈ keysOf (u1 ++ u2), m.φ κ b := fun b hb => keys_both k3' q3 b (by
          rcases hb with (h | h) | (h | h)
          · exact .inl (.inl h)
          · exact .inr (.inl h)
          · exact .inl (.inr h)
          · exact .inr (.inr h))
        have apart : ∀ b, φ1 b ∨ φ2 b → ¬ (η1 b ∨ η2 b) := fun b hb hb' => by
          rcases hb with hb | hb <;> rcases hb' with hb' | hb'
          · exact k4 b hb hb'
          · exact cross b (.inl hb) (.inr hb')
          · exact cross b (.inr hb') (.inl hb)
          · exact q4 b hb hb'
        exact ⟨fun b => φ1 b ∨ φ2 b, fun b => η1 b ∨ η2 b, ⟨_, _, _, φ1, φ2, by rw [show v = _ from ha1.2, rput_map], k1.re fun _ b h => h.imp id .inl, q1.re fun _ b h => h.imp id .inr, (fun b h h' => cross b (.inl h) (.inl h')), fun _ => Iff.rfl⟩, k2.append q2, both, apart⟩
end
end Go.Den
namespace Go.Den
open Go

/-! ## 49. Functions are sound -/
section
variable {P : Program} {V : Nat → Sig} {F : Tr.Fs V}
theorem BoxO.lt {w : World} {fz : Nat → Prop} {t : Ty} {v : Value} {x : t.D} {φ : Nat → Prop} (h : BoxO w fz t v x φ) : ∀ b, φ b → b < w.heap.size := fun b hb => by
  obtain ⟨b0, c, e, fr, ψ, _, h2, _, h4, _, h6⟩ := h
  rcases (h6 b).1 hb with rfl | h
  · exact (Array.getElem?_eq_some_iff.1 h2).1
  · exact h4.lt b h
theorem CapsO.lt {w : World} {fz : Nat → Prop} : ∀ {caps : List (Ty × Bool)} {vs : List Value} {x : CapsD caps} {φ : Nat → Prop}, CapsO w fz caps vs x φ → ∀ b, φ b → b < w.heap.size
  | [], _, _, _, h, b, hb => (h.2 b hb).elim
  | (_, true) :: _, _, _, _, ⟨_, _, _, _, _, h1, h2, h3⟩, b, hb => ((h3.2 b).1 hb).elim (h1.lt b) (CapsO.lt h2 b)
  | (_, false) :: _, _, _, _, ⟨_, _, _, _, h2⟩, b, hb => CapsO.lt h2 b hb
theorem ArgO.lt {w : World} {fz : Nat → Prop} {agg : Bool} {p : Par} {v : Value} {x : p.D} {φ : Nat → Prop} (h : ArgO w fz agg p v x φ) : ∀ b, φ b → b < w.heap.size := by
  cases p with
  | val t => exact fun b hb => (h.2.2 b hb).elim
  | own t => exact h.2.lt
  | «mut» t => exact h.2.lt
  | ptr t => exact BoxO.lt h
  | cptr t => exact fun b hb => (h.2 b hb).elim
  | clo f caps =>
    obtain ⟨ps, _, h⟩ := h
    exact h.lt
  | pptr t =>
    obtain ⟨br, v0, _, _, _, h⟩ := h
    exact BoxO.lt h
  | rclo f caps =>
    obtain ⟨br, ps, _, _, h⟩ := h
    exact h.lt
theorem ArgsO.lt {w : World} {fz : Nat → Prop} : ∀ {ps : List Par} {ts : List TypeId} {vs : List Value} {x : ArgsD ps} {φ : Nat → Prop}, ArgsO P w fz ts ps vs x φ → ∀ b, φ b → b < w.heap.size
  | [], ts, vs, _, φ, h, b, hb => by
    have h : vs = [] ∧ Nil φ := by cases ts <;> exact h
    exact (h.2 b hb).elim
  | p :: ps, ts, vs, x, φ, h, b, hb => by
    have h : ∃ v r φ1 φ2, vs = v :: r ∧ ArgO w fz (headAgg P ts) p v x.1 φ1 ∧ ArgsO P w fz ts.tail ps r x.2 φ2 ∧ Two φ φ1 φ2 := by cases ts <;> exact h
    obtain ⟨v, r, φ1, φ2, rfl, h1, h2, h3⟩ := h
    exact ((h3.2 b).1 hb).elim (h1.lt b) (ArgsO.lt h2 b)
theorem encO_used {m : M} : ∀ {t : Ty} {j : Nat} {x : t.D} {vs : List Value}, All2 m.SR (encO t j x).1 vs → ∀ k ∈ seqK t.leaves j, (m.h k).used
  | .int _, j, x, vs, ha, k, hk => by cases hk
  | .bool, j, x, vs, ha, k, hk => by cases hk
  | .str, j, x, vs, ha, k, hk => by cases hk
  | .one, j, x, vs, ha, k, hk => by cases hk
  | .ls _, j, x, vs, ha, k, hk => by cases hk
  | .sl t, j, x, vs, ha, k, hk => by
    have hk := seqK_mem.1 hk
    simp only [Ty.leaves] at hk
    have : k = j := by omega
    subst this
    match vs, ha with
    | [v], ha => exact ha.1.1
  | .pr a b, j, x, vs, ha, k, hk => by
    have he : (encO (.pr a b) j x).1 = (encO a j x.1).1 ++ (encO b (encO a j x.1).2.2 x.2).1 := rfl
    rw [he, encO_end a j x.1] at ha
    obtain ⟨va, vb, rfl, ha1, ha2⟩ := All2.split ha
    have hk := seqK_mem.1 hk
    have hl : (Ty.pr a b).leaves = a.leaves + b.leaves := rfl
    rw [hl] at hk
    by_cases h : k < j + a.leaves
    · exact encO_used ha1 k (seqK_mem.2 ⟨hk.1, h⟩)
    · exact encO_used ha2 k (seqK_mem.2 ⟨by omega, by omega⟩)
theorem outs_used {m : M} : ∀ {ps : List Par} {x : ArgsD ps} {i : Nat} {vs : List Value}, OutR m i ps x vs → ∀ k ∈ outsK i ps, (m.h k).used
  | [], x, i, vs, ha, k, hk => by cases hk
  | p :: ps, x, i, [], ha, k, hk => ha.elim
  | p :: ps, x, i, v :: vs, ⟨ha1, ha2⟩, k, hk => by
      cases p with
      | val t => exact outs_used (ps := ps) (i := i + 1) ha2 k hk
      | own t => exact outs_used (ps := ps) (i := i + 1) ha2 k hk
      | cptr t => exact outs_used (ps := ps) (i := i + 1) ha2 k hk
      | «mut» t =>
        rcases List.mem_append.1 hk with hk | hk
        · exact encO_used ha1 k hk
        · exact outs_used ha2 k hk
      | ptr t =>
        rcases List.mem_cons.1 hk with rfl | hk
        · exact ha1.1
        · exact outs_used ha2 k hk
      | clo f caps =>
        rcases List.mem_append.1 hk with hk | hk
        · have sub : ∀ (caps : List (Ty × Bool)) (κ : Nat), ∀ k ∈ capOuts κ caps, k ∈ capKeys κ caps := by
            intro caps
            induction caps with
            | nil => intro κ k hk; cases hk
            | cons c cs ih =>
              obtain ⟨t, b⟩ := c
              intro κ k hk
              cases b with
              | true =>
                rcases List.mem_cons.1 hk with rfl | hk
                · exact List.mem_cons_self ..
                · exact List.mem_cons_of_mem _ (ih _ k hk)
              | false => exact List.mem_cons_of_mem _ (ih _ k hk)
          exact ha1.1 k (sub caps _ k hk)
        · exact outs_used ha2 k hk
      | pptr t =>
        obtain ⟨br, v0, e0, e1, _⟩ := ha1
        rcases List.mem_cons.1 hk with rfl | hk
        · exact e1.1
        · exact outs_used ha2 k hk
      | rclo f caps =>
        rcases List.mem_append.1 hk with hk | hk
        · have sub : ∀ (caps : List (Ty × Bool)) (κ : Nat), ∀ k ∈ capOuts κ caps, k ∈ capKeys κ caps := by
            intro caps
            induction caps with
            | nil => intro κ k hk; cases hk
            | cons c cs ih =>
              obtain ⟨t, b⟩ := c
              intro κ k hk
              cases b with
              | true =>
                rcases List.mem_cons.1 hk with rfl | hk
                · exact List.mem_cons_self ..
                · exact List.mem_cons_of_mem _ (ih _ k hk)
              | false => exact List.mem_cons_of_mem _ (ih _ k hk)
          exact ha1.1 k (mem_rput.2 (.inr (sub caps _ k hk)))
        · exact outs_used ha2 k hk
/-- What the end gives. -/
theorem fin_ok {s : Sig} {fn : Func} {x : ArgsD s.pars} {vals : List Value} {w : World} {fz φ : Nat → Prop} {gl : Nat → Obj → Prop} {m0 m : M} {σ : St} {a : Act} {r : s.RetD} {rd : List Nat}
    (h0 : OutR m0 0 s.pars x vals) (hF : Fr (outsK 0 s.pars) m0 m) (hB : Fr [] (M.bare w fz φ gl) m) (S : Sim σ a m) (hr : (finT (V := V) P fn s σ).run F σ.heap = some (r, rd)) :
    ∃ v, (results fn a.tmps).run P m.w = .ok v m.w ∧ Post P s fn.resultTypes.toList w fz φ vals r v m.w := by
  rw [← S.h] at hr
  obtain ⟨⟨x1, u1, ks⟩, r1, r2, h1, h2, _⟩ := Tr.bind_some hr
  obtain ⟨⟨x2, u2⟩, r3, r4, h3, h4, _⟩ := Tr.bind_some h2
  obtain ⟨hk, h4⟩ := cond_no h4
  obtain ⟨rfl, _⟩ := Tr.ret_some h4
  simp only [Bool.and_eq_true] at hk
  obtain ⟨hk1, hk2⟩ := hk
  have hn := nodup_of hk1
  obtain ⟨hn1, hn2, _⟩ := List.nodup_append.1 hn
  let K := keysOf u1 ++ keysOf u2
  have hks : ∀ κ ∈ ks, κ ∉ K := fun κ hκ hK => by
    have := List.all_eq_true.1 hk2 κ hκ
    simp only [Bool.not_eq_true'] at this
    have h' : K.any (Nat.beq κ) = true := List.any_eq_true.2 ⟨κ, hK, Nat.beq_refl κ⟩
    rw [show (keysOf u1 ++ keysOf u2).any (Nat.beq κ) = true from h'] at this
    cases this
  let fz0 : Nat → Prop := fun b => m.fz b ∨ ∃ κ, κ ∉ K ∧ m.φ κ b
  obtain ⟨vs, φr, ηr, e1, k1, k2, k3', k4⟩ := ret_ok S h1 hn1 (fz := fz0) fun b hb => hb.imp id fun ⟨κ, hκ, h⟩ => ⟨κ, hks κ hκ, h⟩
  have hu := outs_used h0
  obtain ⟨φo, ηo, q1, q2, q3', q4⟩ := outs_ok (m0 := m0) S.hr h0 (fun b hb => (hF.fz b hb).2) (fun k hk => (hF.out k hk (hu k hk)).2) h3 hn2
  let fz' : Nat → Prop := fun b => fz0 b ∨ (ηr b ∨ ηo b)
  have k3 : ∀ b, φr b → ∃ κ ∈ keysOf u1, m.φ κ b := fun b h => k3' b (.inl h)
  have q3 : ∀ b, φo b → ∃ κ ∈ keysOf u2, m.φ κ b := fun b h => q3' b (.inl h)
  have cross := keys_apart (φ1 := fun b => φr b ∨ ηr b) (φ2 := fun b => φo b ∨ ηo b) S.hr hn k3' q3'
  have apart : ∀ b, φr b ∨ φo b → ¬ (ηr b ∨ ηo b) := fun b hb hb' => by
    rcases hb with hb | hb <;> rcases hb' with hb' | hb'
    · exact k4 b hb hb'
    · exact cross b (.inl hb) (.inr hb')
    · exact cross b (.inr hb') (.inl hb)
    · exact q4 b hb hb'
  have hηk : ∀ b, ηr b ∨ ηo b → ∃ κ, m.φ κ b := fun b hb => by
    rcases hb with hb | hb
    · obtain ⟨κ, _, h⟩ := k3' b (.inr hb); exact ⟨κ, h⟩
    · obtain ⟨κ, _, h⟩ := q3' b (.inr hb); exact ⟨κ, h⟩
  have k1 : ResO P m.w fz' s.res fn.resultTypes.toList vs x1 φr := k1.re fun _ b h => h.imp id .inl
  have q1 : OutsO m.w fz' s.pars vals x2 φo := q1.re fun _ b h => h.elim (fun h => .inl (.inl h)) fun h => .inr (.inr h)
  refine ⟨packed vs, results_of e1, ⟨⟨vs, fz', φr, φo, fun b => φr b ∨ φo b, rfl, k1, q1, ⟨keys_apart S.hr hn k3 q3, fun _ => Iff.rfl⟩, fun b hb => ?_, fun b hb => .inl (.inl (hB.fz b hb).1), fun b hb => ?_, fun b hb hf => ?_, fun b hb => ?_, fun b hb => ?_⟩, fun b hb hn' => hB.keep b hb ?_, hB.size, hB.os, hB.tape, hB.output⟩⟩
  · obtain ⟨κ, _, h⟩ := keys_both k3 q3 b hb
    rcases hB.orig b (.inr ⟨κ, h⟩) with (h | ⟨_, h⟩) | h
    · exact .inl h
    · exact h.elim
    · exact .inr h
  · have hb : m.fz b ∨ ∃ κ, m.φ κ b := hb.elim (fun h => h.imp id fun ⟨κ, _, h⟩ => ⟨κ, h⟩) fun h => .inr (hηk b h)
    rcases hb with hb | ⟨κ, hb⟩
    · rcases hB.fzo b hb with h | (h | ⟨_, h⟩) | h
      · exact .inl h
      · exact .inr (.inl h)
      · exact h.elim
      · exact .inr (.inr h)
    · rcases hB.orig b (.inr ⟨κ, hb⟩) with (h | ⟨_, h⟩) | h
      · exact .inr (.inl h)
      · exact h.elim
      · exact .inr (.inr h)
  · obtain ⟨κ, hκ, h⟩ := keys_both k3 q3 b hb
    rcases hf with (hf | ⟨κ', hκ', h'⟩) | hf
    rotate_right
    · exact apart b hb hf
    · exact S.hr.fzφ κ b h hf
    · exact S.hr.disj κ κ' b (fun e => hκ' (by rw [keysOf_append] at hκ; exact e ▸ hκ)) h h'
  · rcases hb with (hb | ⟨κ, _, hb⟩) | hb
    · exact S.hr.ltf b hb
    · exact S.hr.ltφ hb
    · obtain ⟨κ, h⟩ := hηk b hb; exact S.hr.ltφ h
  · obtain ⟨κ, _, h⟩ := keys_both k3 q3 b hb
    exact S.hr.ltφ h
  · rintro (h | ⟨_, h⟩)
    · exact hn' h
    · exact h.elim
theorem callFunc_body {f : FuncId} {fn : Func} {c : Code} {args : Array Value} {w : World} (hf : P.funcs[f]? = some fn) (hb : fn.body = some c) (hn : (fn.name == "runtime.NumGoroutine") = false) : (callFunc f args).run P w = .ok (.enter f args) w := by
  unfold callFunc
  simp only [Sem.run_bind, run_program, Result.andThen_ok, hf, hn, hb, Option.isNone_some, Bool.false_eq_true, if_false, Sem.run_pure]
end
/-- No function of the program is the machine's own counter. -/
def noCount (P : Program) : Prop := ∀ (f : Nat) (fn : Func), P.funcs[f]? = some fn → (fn.name == "runtime.NumGoroutine") = false
theorem denF_call (X : Cx) (gl : Nat → Obj → Prop) (hm : X.P.follows .mixedOrders = true) (hc : noCount X.P) (hM : MapsV X.P X.V) (hE : ∀ v f, X.ext v = some f → ∀ x r, f x = some r → CallOk X.P X.V gl v x r) : ∀ k v x r, denF X k v x = some r → CallOk X.P X.V gl v x r
  | 0, v, x, r, h => by cases h
  | k + 1, v, x, r, h => by
    have h : (match X.ext v with
      | some f => f x
      | none => match X.P.funcs[(X.V v).fn]? with
        | some fn => match fn.body with
          | some c => bif (X.V v).pars.all parB then denBody X (denF X k) v (loopOp _) k fn c x else none
          | none => none
        | none => none) = some r := h
    split at h
    · rename_i f hf
      exact hE v f hf x r h
    · split at h
      · rename_i fn hfn
        split at h
        · rename_i c hb
          cases hpb : (X.V v).pars.all parB with
          | false => rw [hpb] at h; cases h
          | true =>
            rw [hpb] at h
            intro fn' w fz φ vals hfn' hargs hφ hlt hgl hlk
            rw [hfn] at hfn'
            cases hfn'
            refine .inr ⟨callFunc_body hfn hb (hc _ _ hfn), calls_of_wp hfn hb ?_⟩
            have hφlt : ∀ b, φ b → b < w.heap.size := ArgsO.lt hargs
            have H0 : HR (M.bare w fz φ gl) := bare_hr hφ hlt hφlt hgl
            obtain ⟨m0, s0, x0, p0, o0⟩ := pars_in (P := X.P) (ps := (X.V v).pars) (i := 0) H0 hargs (fun b h => h) hpb (fun _ _ => rfl) hlk (fun _ e => by cases e)
            have h : den X.P X.cands (denF X k) (loopOp _) k (normF (outsK 0 (X.V v).pars) (X.hint v)) c 0 (finK X (denF X k) v fn)
                { tmps := (parsIn X.P 0 fn.params.toList (X.V v).pars x).1 ++ List.replicate (fn.ntmps - (parsIn X.P 0 fn.params.toList (X.V v).pars x).1.length) (.tup []), heap := Heap.upd (fun _ => .free) (parsIn X.P 0 fn.params.toList (X.V v).pars x).2 } = some r := h
            have hw0 : m0.w = w := s0.w
            have hrep : ∀ n, All2 m0.PR (List.replicate n (.tup [])) (List.replicate n undef) := fun n => by
              induction n with
              | zero => trivial
              | succ n ih => exact ⟨⟨#[], rfl, trivial⟩, ih⟩
            have S0 : Sim { tmps := (parsIn X.P 0 fn.params.toList (X.V v).pars x).1 ++ List.replicate (fn.ntmps - (parsIn X.P 0 fn.params.toList (X.V v).pars x).1.length) (.tup []), heap := Heap.upd (fun _ => .free) (parsIn X.P 0 fn.params.toList (X.V v).pars x).2 }
                { tmps := vals.toArray ++ Array.replicate (fn.ntmps - vals.toArray.size) undef, defers := [] } m0 := {
              h := s0.h
              tmps := by
                have e : vals.toArray.size = (parsIn X.P 0 fn.params.toList (X.V v).pars x).1.length := by rw [p0.len]; simp
                rw [e]
                simp only [Array.toList_append, Array.toList_replicate]
                exact All2.append p0 (hrep _)
              hr := s0.hr
              χ := fun b hb => ((x0 b).1 hb).2 ((x0 b).1 hb).1
              defers := rfl }
            subst hw0
            refine den_ok (O := outsK 0 (X.V v).pars) hm (normF_ok _ _) c (by rw [s0.ext.gl]; exact ⟨denF_call X gl hm hc hM hE k, hM⟩) S0 h fun e σ' a' m' he S' hFr => ?_
            have hB : Fr [] (M.bare m0.w fz φ gl) m' := s0.ext.fr.trans ⟨fun κ h => (by cases h), hFr.fz, hFr.fzo, hFr.orig, hFr.gl, hFr.keep, hFr.size, hFr.os, hFr.tape, hFr.output⟩
            have fin : (finT (V := X.V) X.P fn (X.V v) σ').cps (denF X k) σ'.heap (fun r _ => some r) [] = some r → a'.defers = [] ∧ ∃ val, (results fn a'.tmps).run X.P m'.w = .ok val m'.w ∧ ∃ v', Ending.returned val = .returned v' ∧ Post X.P (X.V v) fn.resultTypes.toList m0.w fz φ vals r v' m'.w := fun hk => by
              rw [Tr.cps_eq] at hk
              obtain ⟨⟨r', rd⟩, hk1, hk2⟩ := Option.bind_eq_some_iff.1 hk
              cases hk2
              obtain ⟨val, e1, e2⟩ := fin_ok o0 hFr hB S' hk1
              exact ⟨S'.defers, val, e1, val, rfl, e2⟩
            cases e with
            | normal => exact fin he
            | ret => exact fin he
            | exit id => cases he
        · cases h
      · cases h
end Go.Den
namespace Go.Den
open Go

/-! ## 50. Without fuel: limits -/
section
variable {α β R : Type}
open Classical in
/-- The value, if there is one. -/
noncomputable def limO (f : Nat → Option α) : Option α := if h : ∃ k r, f k = some r then f h.choose else none
def LeO (a b : Option α) : Prop := ∀ r, a = some r → b = some r
theorem LeO.refl (a : Option α) : LeO a a := fun _ h => h
/-- From some place on. -/
def Ev (f : Nat → Option α) (r : α) : Prop := ∃ k0, ∀ k, k0 ≤ k → f k = some r
theorem Ev.of_eq {f : Nat → Option α} {r : α} (h : ∀ k, f k = some r) : Ev f r := ⟨0, fun k _ => h k⟩
theorem Ev.and {f : Nat → Option α} {g : Nat → Option β} {h : Nat → Option R} {a : α} {b : β} {r : R} (hf : Ev f a) (hg : Ev g b) (hr : ∀ k, f k = some a → g k = some b → h k = some r) : Ev h r := by
  obtain ⟨i, hi⟩ := hf
  obtain ⟨j, hj⟩ := hg
  exact ⟨max i j, fun k hk => hr k (hi k (by omega)) (hj k (by omega))⟩
theorem Ev.mono {f : Nat → Option α} {h : Nat → Option R} {a : α} {r : R} (hf : Ev f a) (hr : ∀ k, f k = some a → h k = some r) : Ev h r := by
  obtain ⟨i, hi⟩ := hf
  exact ⟨i, fun k hk => hr k (hi k hk)⟩
theorem limO_some {f : Nat → Option α} {r : α} (h : limO f = some r) : ∃ k, f k = some r := by
  unfold limO at h
  split at h
  · exact ⟨_, h⟩
  · cases h
def MonoN (f : Nat → Option α) : Prop := ∀ k, LeO (f k) (f (k + 1))
theorem MonoN.le {f : Nat → Option α} (hf : MonoN f) {i j : Nat} (h : i ≤ j) : LeO (f i) (f j) := by
  induction h with
  | refl => exact LeO.refl _
  | step _ ih => exact fun r hr => hf _ r (ih r hr)
theorem limO_of {f : Nat → Option α} (hf : MonoN f) {k : Nat} {r : α} (h : f k = some r) : limO f = some r := by
  have hx : ∃ k r, f k = some r := ⟨k, r, h⟩
  obtain ⟨s, hs⟩ := hx.choose_spec
  have e : limO f = f hx.choose := by unfold limO; rw [dif_pos hx]
  rw [e, hs]
  have h1 := hf.le (Nat.le_max_left k hx.choose) r h
  have h2 := hf.le (Nat.le_max_right k hx.choose) s hs
  rw [h1] at h2
  exact h2.symm
end
section
variable {V : Nat → Sig} {α R : Type}
def FLe (F F' : Tr.Fs V) : Prop := ∀ v x, LeO (F v x) (F' v x)
def KLe (K K' : Ex → St → Option R) : Prop := ∀ e σ, LeO (K e σ) (K' e σ)
def FCont (Fi : Tr.Fs V) (F : Nat → Tr.Fs V) : Prop := ∀ v x r, Fi v x = some r → Ev (fun k => F k v x) r
def KCont (Ki : Ex → St → Option R) (K : Nat → Ex → St → Option R) : Prop := ∀ e σ r, Ki e σ = some r → Ev (fun k => K k e σ) r
theorem cps_mono {F F' : Tr.Fs V} {h : Heap} (hF : FLe F F') {K K' : α → List Nat → Option R} (hK : ∀ a rd, LeO (K a rd) (K' a rd)) : ∀ (t : Tr V α) (rd : List Nat), LeO (t.cps F h K rd) (t.cps F' h K' rd)
  | .ret a, rd => hK a rd
  | .no, _ => fun r h => by cases h
  | .grd b t, rd => fun r hr => by
    cases b with
    | true => exact cps_mono hF hK t rd r hr
    | false => cases hr
  | .ite b t e, rd => fun r hr => by
    cases b with
    | true => exact cps_mono hF hK t rd r hr
    | false => exact cps_mono hF hK e rd r hr
  | .look κ f, rd => cps_mono hF hK (f (h κ)) (κ :: rd)
  | .call v x f, rd => fun r hr => by
    obtain ⟨s, h1, h2⟩ := Option.bind_eq_some_iff.1 hr
    exact Option.bind_eq_some_iff.2 ⟨s, hF v x s h1, cps_mono hF hK (f s) rd r h2⟩
  | .opt _ x n s, rd => fun r hr => by
    cases x with
    | none => exact cps_mono hF hK n rd r hr
    | some y => exact cps_mono hF hK (s y) rd r hr
theorem cps_cont {Fi : Tr.Fs V} {F : Nat → Tr.Fs V} {h : Heap} (hF : FCont Fi F) {Ki : α → List Nat → Option R} {K : Nat → α → List Nat → Option R} (hK : ∀ a rd r, Ki a rd = some r → Ev (fun k => K k a rd) r) :
    ∀ (t : Tr V α) (rd : List Nat) (r : R), t.cps Fi h Ki rd = some r → Ev (fun k => t.cps (F k) h (K k) rd) r
  | .ret a, rd, r, hr => hK a rd r hr
  | .no, _, r, hr => by cases hr
  | .grd b t, rd, r, hr => by
    cases b with
    | true => exact cps_cont hF hK t rd r hr
    | false => cases hr
  | .ite b t e, rd, r, hr => by
    cases b with
    | true => exact cps_cont hF hK t rd r hr
    | false => exact cps_cont hF hK e rd r hr
  | .look κ f, rd, r, hr => cps_cont hF hK (f (h κ)) (κ :: rd) r hr
  | .call v x f, rd, r, hr => by
    obtain ⟨s, h1, h2⟩ := Option.bind_eq_some_iff.1 hr
    exact (hF v x s h1).and (cps_cont hF hK (f s) rd r h2) fun k e1 e2 => Option.bind_eq_some_iff.2 ⟨s, e1, e2⟩
  | .opt _ x n s, rd, r, hr => by
    cases x with
    | none => exact cps_cont hF hK n rd r hr
    | some y => exact cps_cont hF hK (s y) rd r hr
variable {P : Program} {cands : Nat → List Nat}
theorem denOps_mono {F F' : Tr.Fs V} (hF : FLe F F') (rid : Nat) (all : List Oper) : ∀ (l : List Oper) (i : Nat) (σ : St) (fs : List Foot) {K K' : St → List Foot → Option R}, (∀ σ fs, LeO (K σ fs) (K' σ fs)) → LeO (denOps P cands F rid all l i σ fs K) (denOps P cands F' rid all l i σ fs K')
  | [], i, σ, fs, K, K', hK => hK σ fs
  | o :: l, i, σ, fs, K, K', hK => fun r hr => by
    have go : ∀ σ : St, LeO ((opT (V := V) P cands (16 * (64 * rid + i)) (evalP σ.tmps) o.op).cps F σ.heap (fun e rd => denOps P cands F rid all l (i + 1) { (σ.put o.dst e.1) with heap := σ.heap.upd e.2 } (fs ++ [⟨keysOf e.2, rd⟩]) K) [])
        ((opT (V := V) P cands (16 * (64 * rid + i)) (evalP σ.tmps) o.op).cps F' σ.heap (fun e rd => denOps P cands F' rid all l (i + 1) { (σ.put o.dst e.1) with heap := σ.heap.upd e.2 } (fs ++ [⟨keysOf e.2, rd⟩]) K') []) := fun σ =>
      cps_mono hF (fun a rd => denOps_mono hF rid all l (i + 1) _ _ hK) _ _
    have skip : ∀ σ : St, LeO (denOps P cands F rid all l (i + 1) (σ.put o.dst (.tup [])) (fs ++ [⟨[], []⟩]) K) (denOps P cands F' rid all l (i + 1) (σ.put o.dst (.tup [])) (fs ++ [⟨[], []⟩]) K') := fun σ => denOps_mono hF rid all l (i + 1) _ _ hK
    simp only [denOps] at hr ⊢
    split at hr
    · exact go σ r hr
    · rename_i j want hg
      split at hr
      · cases hr
      · rename_i g hs
        split at hr
        · rename_i b hb
          cases b <;> cases want <;> simp only [cond_true, cond_false] at hr ⊢
          · exact go _ r hr
          · exact skip _ r hr
          · exact skip _ r hr
          · exact go _ r hr
        · exact skip _ r hr
        · cases hr
theorem denOps_cont {Fi : Tr.Fs V} {F : Nat → Tr.Fs V} (hF : FCont Fi F) (rid : Nat) (all : List Oper) : ∀ (l : List Oper) (i : Nat) (σ : St) (fs : List Foot) {Ki : St → List Foot → Option R} {K : Nat → St → List Foot → Option R}, (∀ σ fs r, Ki σ fs = some r → Ev (fun k => K k σ fs) r) → ∀ r, denOps P cands Fi rid all l i σ fs Ki = some r → Ev (fun k => denOps P cands (F k) rid all l i σ fs (K k)) r
  | [], i, σ, fs, Ki, K, hK, r, hr => hK σ fs r hr
  | o :: l, i, σ, fs, Ki, K, hK, r, hr => by
    have go : ∀ σ : St, (opT (V := V) P cands (16 * (64 * rid + i)) (evalP σ.tmps) o.op).cps Fi σ.heap (fun e rd => denOps P cands Fi rid all l (i + 1) { (σ.put o.dst e.1) with heap := σ.heap.upd e.2 } (fs ++ [⟨keysOf e.2, rd⟩]) Ki) [] = some r →
        Ev (fun k => (opT (V := V) P cands (16 * (64 * rid + i)) (evalP σ.tmps) o.op).cps (F k) σ.heap (fun e rd => denOps P cands (F k) rid all l (i + 1) { (σ.put o.dst e.1) with heap := σ.heap.upd e.2 } (fs ++ [⟨keysOf e.2, rd⟩]) (K k)) []) r := fun σ h =>
      cps_cont hF (fun a rd r hr => denOps_cont hF rid all l (i + 1) _ _ hK r hr) _ _ r h
    have skip : ∀ σ : St, denOps P cands Fi rid all l (i + 1) (σ.put o.dst (.tup [])) (fs ++ [⟨[], []⟩]) Ki = some r → Ev (fun k => denOps P cands (F k) rid all l (i + 1) (σ.put o.dst (.tup [])) (fs ++ [⟨[], []⟩]) (K k)) r := fun σ h => denOps_cont hF rid all l (i + 1) _ _ hK r h
    simp only [denOps] at hr ⊢
    split at hr
    · exact go σ hr
    · rename_i j want hg
      split at hr
      · cases hr
      · rename_i g hs
        split at hr
        · rename_i b hb
          cases b <;> cases want <;> simp only [cond_true, cond_false] at hr ⊢
          · exact go _ hr
          · exact skip _ hr
          · exact skip _ hr
          · exact go _ hr
        · exact skip _ hr
        · cases hr

/-! ### loops -/
abbrev Body (R : Type) := (Ex → St → Option R) → St → Option R
def BLe (B B' : Body R) : Prop := ∀ K K' σ, KLe K K' → LeO (B K σ) (B' K' σ)
def BCont (Bi : Body R) (B : Nat → Body R) : Prop := ∀ Ki K, KCont Ki K → ∀ σ r, Bi Ki σ = some r → Ev (fun k => B k (K k) σ) r
def LLe (N : Nat → Nat → Prop) (L L' : LoopOp R) : Prop := ∀ bid (l l' : LoopI R) n n' σ, N n n' → l.norm = l'.norm → BLe l.body l'.body → BLe l'.body l'.body → KLe l.K l'.K → LeO (L bid l n σ) (L' bid l' n' σ)
def LCont (Li : LoopOp R) (L : Nat → LoopOp R) (n : Nat → Nat) : Prop := ∀ bid (li : LoopI R) (l : Nat → LoopI R) ni σ r, (∀ k, (l k).norm = li.norm) → BCont li.body (fun k => (l k).body) → (∀ k, BLe (l k).body (l k).body) → KCont li.K (fun k => (l k).K) → Li bid li ni σ = some r → Ev (fun k => L k bid (l k) (n k) σ) r
/-- A loop without fuel. -/
noncomputable def loopInf (R : Type) : LoopOp R := fun _ l _ σ => limO fun n => denLoop l.body l.norm l.K n σ
theorem KLe.refl (K : Ex → St → Option R) : KLe K K := fun _ _ => LeO.refl _
theorem denLoop_mono {B B' : Body R} {norm : St → Option St} {K K' : Ex → St → Option R} (hB : BLe B B') (hK : KLe K K') : ∀ (n n' : Nat) (σ : Option St), n ≤ n' → LeO (denLoop B norm K n σ) (denLoop B' norm K' n' σ)
  | 0, _, _, _ => fun r h => by cases h
  | n + 1, 0, _, h => by omega
  | n + 1, n' + 1, none, _ => fun r h => by cases h
  | n + 1, n' + 1, some σ, h => hB _ _ σ fun e σ' => by
    cases e with
    | normal => exact denLoop_mono hB hK n n' (norm σ') (by omega)
    | exit id => exact hK _ _
    | ret => exact hK _ _
theorem denLoop_monoN {B : Body R} {norm : St → Option St} {K : Ex → St → Option R} (hB : BLe B B) (σ : Option St) : MonoN fun n => denLoop B norm K n σ := fun n => denLoop_mono hB (KLe.refl K) n (n + 1) σ (by omega)
theorem loopOp_le : LLe (· ≤ ·) (loopOp R) (loopOp R) := fun bid l l' n n' σ hn he hB _ hK => by
  show LeO (denLoop l.body l.norm l.K n σ) (denLoop l'.body l'.norm l'.K n' σ)
  rw [he]
  exact denLoop_mono hB hK n n' σ hn
theorem loopOp_inf : LLe (fun _ _ => True) (loopOp R) (loopInf R) := fun bid l l' n n' σ hn he hB hB' hK r hr => by
  refine limO_of (denLoop_monoN hB' σ) (k := n) ?_
  have hr : denLoop l.body l.norm l.K n σ = some r := hr
  rw [he] at hr
  exact denLoop_mono hB hK n n σ (Nat.le_refl _) r hr
theorem loopInf_le : LLe (fun _ _ => True) (loopInf R) (loopInf R) := fun bid l l' n n' σ hn he hB hB' hK r hr => by
  obtain ⟨k, hk⟩ := limO_some hr
  refine limO_of (denLoop_monoN hB' σ) (k := k) ?_
  rw [he] at hk
  exact denLoop_mono hB hK k k σ (Nat.le_refl _) r hk
theorem denLoop_cont {Bi : Body R} {B : Nat → Body R} {norm : St → Option St} {Ki : Ex → St → Option R} {K : Nat → Ex → St → Option R} (hB : BCont Bi B) (hK : KCont Ki K) {r : R} : ∀ (n : Nat) (σ : Option St) (m : Nat → Nat), (∃ k1, ∀ k, k1 ≤ k → n ≤ m k) → denLoop Bi norm Ki n σ = some r → Ev (fun k => denLoop (B k) norm (K k) (m k) σ) r
  | 0, _, _, _, h => by cases h
  | n + 1, none, _, _, h => by cases h
  | n + 1, some σ, m, ⟨k1, hm⟩, h => by
    have hc : KCont (fun e σ' => match e with
        | .normal => denLoop Bi norm Ki n (norm σ')
        | e => Ki e σ') (fun k e σ' => match e with
        | .normal => denLoop (B k) norm (K k) (m k - 1) (norm σ')
        | e => K k e σ') := fun e σ' s hs => by
      cases e with
      | normal =>
        have : s = r ∨ True := .inr trivial
        exact denLoop_cont hB hK (r := s) n (norm σ') (fun k => m k - 1) ⟨k1, fun k hk => by have := hm k hk; omega⟩ hs
      | exit id => exact hK _ _ _ hs
      | ret => exact hK _ _ _ hs
    obtain ⟨k0, h0⟩ := hB _ _ hc σ r h
    refine ⟨max k0 k1, fun k hk => ?_⟩
    have h1 := h0 k (by omega)
    have h2 := hm k (by omega)
    obtain ⟨j, hj⟩ : ∃ j, m k = j + 1 := ⟨m k - 1, by omega⟩
    show denLoop (B k) norm (K k) (m k) (some σ) = some r
    simp only [hj, Nat.add_sub_cancel] at h1 ⊢
    exact h1
theorem loopOp_cont {n : Nat → Nat} (hn : ∀ i, ∃ k1, ∀ k, k1 ≤ k → i ≤ n k) : LCont (loopInf R) (fun _ => loopOp R) n := fun bid li l ni σ r he hB _ hK h => by
  obtain ⟨i, hi⟩ := limO_some h
  refine (denLoop_cont (norm := li.norm) hB hK i σ n (hn i) hi).mono fun k hk => ?_
  show denLoop (l k).body (l k).norm (l k).K (n k) σ = some r
  rw [he k]; exact hk
theorem loopInf_cont {n : Nat → Nat} : LCont (loopInf R) (fun _ => loopInf R) n := fun bid li l ni σ r he hB hM hK h => by
  obtain ⟨i, hi⟩ := limO_some h
  refine (denLoop_cont (norm := li.norm) hB hK i σ (fun _ => i) ⟨0, fun _ _ => Nat.le_refl _⟩ hi).mono fun k hk => ?_
  refine limO_of (denLoop_monoN (hM k) σ) (k := i) ?_
  rw [he k]; exact hk
theorem den_mono {norm : Nat → St → Option St} : ∀ (c : Code) {F F' : Tr.Fs V} {N N' : Nat → Nat → Prop} {L L' : LoopOp R} {k k' : Nat} (bid : Nat) (K K' : Ex → St → Option R) (σ : St), FLe F F' → LLe N L L' → N k k' → LLe N' L' L' → N' k' k' → KLe K K' →
    LeO (den P cands F L k norm c bid K σ) (den P cands F' L' k' norm c bid K' σ)
  | .skip, F, F', N, N', L, L', k, k', bid, K, K', σ, hF, hL, hN, hL', hN', hK => hK .normal σ
  | .region rid ops draw, F, F', N, N', L, L', k, k', bid, K, K', σ, hF, hL, hN, hL', hN', hK => denOps_mono hF rid _ _ 0 σ [] fun σ' fs r hr => by
    revert hr
    cases (!draw || (Region.lexB .any ops && footsOk ops fs)) with
    | true => exact hK .normal σ' r
    | false => exact fun h => by cases h
  | .seq a b, F, F', N, N', L, L', k, k', bid, K, K', σ, hF, hL, hN, hL', hN', hK => den_mono a bid _ _ σ hF hL hN hL' hN' fun e σ' => by
    cases e with
    | normal =>
      show LeO (seqN L k norm (joinB norm a) (fun σ'' => den P cands F L k norm b bid K σ'') K σ') (seqN L' k' norm (joinB norm a) (fun σ'' => den P cands F' L' k' norm b bid K' σ'') K' σ')
      rcases joinB norm a with _ | J
      · exact den_mono b bid _ _ σ' hF hL hN hL' hN' hK
      · exact hL J _ _ k k' (norm J σ') hN rfl (fun _ _ σ'' _ => den_mono b bid _ _ σ'' hF hL hN hL' hN' hK) (fun _ _ σ'' _ => LeO.refl _) hK
    | exit id => exact hK _ _
    | ret => exact hK _ _
  | .cond c x y, F, F', N, N', L, L', k, k', bid, K, K', σ, hF, hL, hN, hL', hN', hK => fun r hr => by
    simp only [den] at hr ⊢
    split at hr
    · rename_i t _
      cases t with
      | true => exact den_mono x bid _ _ _ hF hL hN hL' hN' hK r hr
      | false => exact den_mono y bid _ _ _ hF hL hN hL' hN' hK r hr
    · cases hr
  | .block id body, F, F', N, N', L, L', k, k', bid, K, K', σ, hF, hL, hN, hL', hN', hK => den_mono body id _ _ σ hF hL hN hL' hN' fun e σ' => by
    cases e with
    | normal => exact hK _ _
    | ret => exact hK _ _
    | exit j =>
      intro r hr
      revert hr
      show (bif Nat.beq j id then K .normal σ' else K (.exit j) σ') = some r → (bif Nat.beq j id then K' .normal σ' else K' (.exit j) σ') = some r
      cases Nat.beq j id with
      | true => exact hK _ _ r
      | false => exact hK _ _ r
  | .loop body, F, F', N, N', L, L', k, k', bid, K, K', σ, hF, hL, hN, hL', hN', hK => hL bid _ _ k k' (norm bid σ) hN rfl (fun K1 K2 σ' h => den_mono body bid _ _ σ' hF hL hN hL' hN' h) (fun K1 K2 σ' h => den_mono body bid _ _ σ' (fun v x => LeO.refl _) hL' hN' hL' hN' h) hK
  | .exit id, F, F', N, N', L, L', k, k', bid, K, K', σ, hF, hL, hN, hL', hN', hK => hK _ σ
  | .ret, F, F', N, N', L, L', k, k', bid, K, K', σ, hF, hL, hN, hL', hN', hK => hK _ σ
  | .label _, _, _, _, _, _, _, _, _, _, _, _, _, _, _, _, _, _, _ => fun r h => by cases h
  | .goto _, _, _, _, _, _, _, _, _, _, _, _, _, _, _, _, _, _, _ => fun r h => by cases h
  | .scope _, _, _, _, _, _, _, _, _, _, _, _, _, _, _, _, _, _, _ => fun r h => by cases h
  | .rangeFunc _ _ _ _, _, _, _, _, _, _, _, _, _, _, _, _, _, _, _, _, _, _ => fun r h => by cases h
  | .refuse _, _, _, _, _, _, _, _, _, _, _, _, _, _, _, _, _, _, _ => fun r h => by cases h
theorem den_cont {norm : Nat → St → Option St} {Fi : Tr.Fs V} {F : Nat → Tr.Fs V} {N : Nat → Nat → Prop} {Li : LoopOp R} {L : Nat → LoopOp R} {ki : Nat} {n : Nat → Nat} (hF : FCont Fi F) (hL : LCont Li L n) (hM : ∀ k, LLe N (L k) (L k)) (hN : ∀ k, N (n k) (n k)) :
    ∀ (c : Code) (bid : Nat) (Ki : Ex → St → Option R) (K : Nat → Ex → St → Option R) (σ : St) (r : R), KCont Ki K → den P cands Fi Li ki norm c bid Ki σ = some r → Ev (fun k => den P cands (F k) (L k) (n k) norm c bid (K k) σ) r
  | .skip, bid, Ki, K, σ, r, hK, hr => hK .normal σ r hr
  | .region rid ops draw, bid, Ki, K, σ, r, hK, hr => denOps_cont hF rid _ _ 0 σ [] (fun σ' fs s hs => by
    revert hs
    cases hb : (!draw || (Region.lexB .any ops && footsOk ops fs)) with
    | true => exact hK .normal σ' s
    | false => exact fun h => by cases h) r hr
  | .seq a b, bid, Ki, K, σ, r, hK, hr => den_cont hF hL hM hN a bid _ _ σ r (fun e σ' s hs => by
    cases e with
    | normal =>
      have hs : seqN Li ki norm (joinB norm a) (fun σ'' => den P cands Fi Li ki norm b bid Ki σ'') Ki σ' = some s := hs
      show Ev (fun k => seqN (L k) (n k) norm (joinB norm a) (fun σ'' => den P cands (F k) (L k) (n k) norm b bid (K k) σ'') (K k) σ') s
      revert hs
      rcases joinB norm a with _ | J
      · exact fun hs => den_cont hF hL hM hN b bid _ _ σ' s hK hs
      · exact fun hs => hL J _ (fun k => ⟨fun _ σ'' => den P cands (F k) (L k) (n k) norm b bid (K k) σ'', norm J, K k⟩) ki (norm J σ') s (fun _ => rfl)
          (fun _ _ _ σ'' s' hs' => den_cont hF hL hM hN b bid Ki K σ'' s' hK hs') (fun k _ _ σ'' _ => LeO.refl _) hK hs
    | exit id => exact hK _ _ _ hs
    | ret => exact hK _ _ _ hs) hr
  | .cond c x y, bid, Ki, K, σ, r, hK, hr => by
    simp only [den] at hr ⊢
    split at hr
    · rename_i t _
      cases t with
      | true => exact den_cont hF hL hM hN x bid _ _ _ r hK hr
      | false => exact den_cont hF hL hM hN y bid _ _ _ r hK hr
    · cases hr
  | .block id body, bid, Ki, K, σ, r, hK, hr => den_cont hF hL hM hN body id _ _ σ r (fun e σ' s hs => by
    cases e with
    | normal => exact hK _ _ _ hs
    | ret => exact hK _ _ _ hs
    | exit j =>
      revert hs
      show (bif Nat.beq j id then Ki .normal σ' else Ki (.exit j) σ') = some s → Ev (fun k => bif Nat.beq j id then K k .normal σ' else K k (.exit j) σ') s
      cases Nat.beq j id with
      | true => exact hK _ _ s
      | false => exact hK _ _ s) hr
  | .loop body, bid, Ki, K, σ, r, hK, hr => hL bid _ (fun k => ⟨fun K' σ' => den P cands (F k) (L k) (n k) norm body bid K' σ', norm bid, K k⟩) ki (norm bid σ) r (fun _ => rfl)
      (fun K1 K2 h σ' s hs => den_cont hF hL hM hN body bid K1 K2 σ' s h hs) (fun k K1 K2 σ' h => den_mono body bid _ _ σ' (fun v x => LeO.refl _) (hM k) (hN k) (hM k) (hN k) h) hK hr
  | .exit id, bid, Ki, K, σ, r, hK, hr => hK _ σ r hr
  | .ret, bid, Ki, K, σ, r, hK, hr => hK _ σ r hr
  | .label _, _, _, _, _, _, _, hr => by cases hr
  | .goto _, _, _, _, _, _, _, hr => by cases hr
  | .scope _, _, _, _, _, _, _, hr => by cases hr
  | .rangeFunc _ _ _ _, _, _, _, _, _, _, hr => by cases hr
  | .refuse _, _, _, _, _, _, _, hr => by cases hr
end
end Go.Den
namespace Go.Den
open Go

/-! ## 51. Functions and loops without fuel -/
section
variable (X : Cx)
theorem finK_mono {F F' : Tr.Fs X.V} (hF : FLe F F') (v : Nat) (fn : Func) : KLe (finK X F v fn) (finK X F' v fn) := fun e σ => by
  cases e with
  | exit _ => exact LeO.refl _
  | normal => exact cps_mono hF (fun _ _ => LeO.refl _) _ _
  | ret => exact cps_mono hF (fun _ _ => LeO.refl _) _ _
theorem finK_cont {Fi : Tr.Fs X.V} {F : Nat → Tr.Fs X.V} (hF : FCont Fi F) (v : Nat) (fn : Func) : KCont (finK X Fi v fn) (fun k => finK X (F k) v fn) := fun e σ r hr => by
  cases e with
  | exit _ => cases hr
  | normal => exact cps_cont hF (fun _ _ _ h => Ev.of_eq fun _ => h) _ _ r hr
  | ret => exact cps_cont hF (fun _ _ _ h => Ev.of_eq fun _ => h) _ _ r hr
/-- A function's body. -/
noncomputable def bodyOf (v : Nat) (F : Tr.Fs X.V) (L : LoopOp (X.V v).RetD) (k : Nat) (x : ArgsD (X.V v).pars) : Option (X.V v).RetD := match X.P.funcs[(X.V v).fn]? with
  | some fn => match fn.body with
    | some c => bif (X.V v).pars.all parB then denBody X F v L k fn c x else none
    | none => none
  | none => none
theorem denF_succ (k v : Nat) (x : ArgsD (X.V v).pars) : denF X (k + 1) v x = match X.ext v with
  | some f => f x
  | none => bodyOf X v (denF X k) (loopOp _) k x := rfl
theorem denF_mono : ∀ k, FLe (denF X k) (denF X (k + 1))
  | 0, v, x => fun r h => by cases h
  | k + 1, v, x => fun r h => by
    rw [denF_succ] at h ⊢
    split at h
    · exact h
    · unfold bodyOf at h ⊢
      split at h
      · split at h
        · cases hp : (X.V v).pars.all parB with
          | false => rw [hp] at h; cases h
          | true =>
            rw [hp] at h
            exact den_mono _ _ _ _ _ (denF_mono k) loopOp_le (Nat.le_succ k) loopOp_le (Nat.le_refl _) (finK_mono X (denF_mono k) v _) r h
        · cases h
      · cases h
theorem denF_monoN (v : Nat) (x : ArgsD (X.V v).pars) : MonoN fun k => denF X k v x := fun k => denF_mono X k v x
/-- A function, without fuel. -/
noncomputable def DF : Tr.Fs X.V := fun v x => limO fun k => denF X k v x
theorem DF_cont : FCont (DF X) (denF X) := fun v x r h => by
  obtain ⟨k, hk⟩ := limO_some h
  exact ⟨k, fun j hj => (denF_monoN X v x).le hj r hk⟩
theorem denF_le (k : Nat) : FLe (denF X k) (DF X) := fun v x r h => limO_of (denF_monoN X v x) h
theorem DF_ext {v : Nat} {f : ArgsD (X.V v).pars → Option (X.V v).RetD} (h : X.ext v = some f) (x : ArgsD (X.V v).pars) : DF X v x = f x := by
  have e : ∀ k, denF X (k + 1) v x = f x := fun k => by rw [denF_succ, h]
  cases hf : f x with
  | some r => exact limO_of (denF_monoN X v x) (k := 1) (by rw [e, hf])
  | none =>
    cases hd : DF X v x with
    | none => rfl
    | some r =>
      obtain ⟨k, hk⟩ := limO_some hd
      have : denF X (k + 1) v x = some r := denF_monoN X v x k r hk
      rw [e, hf] at this
      cases this
theorem DF_eq {v : Nat} (h : X.ext v = none) (x : ArgsD (X.V v).pars) : DF X v x = bodyOf X v (DF X) (loopInf _) 0 x := by
  have hs : ∀ k, denF X (k + 1) v x = bodyOf X v (denF X k) (loopOp _) k x := fun k => by rw [denF_succ, h]
  have h1 : ∀ r, DF X v x = some r → bodyOf X v (DF X) (loopInf _) 0 x = some r := fun r hr => by
    obtain ⟨k, hk⟩ := limO_some hr
    have hk : denF X (k + 1) v x = some r := denF_monoN X v x k r hk
    rw [hs] at hk
    unfold bodyOf at hk ⊢
    split at hk
    · split at hk
      · cases hp : (X.V v).pars.all parB with
        | false => rw [hp] at hk; cases hk
        | true =>
          rw [hp] at hk
          exact den_mono _ _ _ _ _ (denF_le X k) loopOp_inf trivial loopInf_le trivial (finK_mono X (denF_le X k) v _) r hk
      · cases hk
    · cases hk
  have h2 : ∀ r, bodyOf X v (DF X) (loopInf _) 0 x = some r → DF X v x = some r := fun r hr => by
    have : Ev (fun k => bodyOf X v (denF X k) (loopOp _) k x) r := by
      unfold bodyOf at hr ⊢
      split at hr
      · split at hr
        · cases hp : (X.V v).pars.all parB with
          | false => rw [hp] at hr; cases hr
          | true =>
            rw [hp] at hr
            exact den_cont (N := (· ≤ ·)) (DF_cont X) (loopOp_cont (n := fun k => k) fun i => ⟨i, fun _ h => h⟩) (fun _ => loopOp_le) (fun _ => Nat.le_refl _) _ _ _ _ _ r (finK_cont X (DF_cont X) v _) hr
        · cases hr
      · cases hr
    obtain ⟨k, hk⟩ := this
    exact limO_of (denF_monoN X v x) (k := k + 1) ((hs k).trans (hk k (Nat.le_refl _)))
  cases hd : DF X v x with
  | some r => exact (h1 r hd).symm
  | none =>
    cases hb : bodyOf X v (DF X) (loopInf _) 0 x with
    | none => rfl
    | some r => rw [h2 r hb] at hd; cases hd
/-! ### loops -/
theorem loopInf_eq {R : Type} {l : LoopI R} (hM : BLe l.body l.body) (hC : BCont l.body fun _ => l.body) (bid n : Nat) (σ : St) : loopInf R bid l n (some σ) = roundOf (loopInf R) bid l n σ := by
  have h1 : ∀ r, loopInf R bid l n (some σ) = some r → roundOf (loopInf R) bid l n σ = some r := fun r hr => by
    obtain ⟨k, hk⟩ := limO_some hr
    cases k with
    | zero => cases hk
    | succ k =>
      refine hM _ _ σ (fun e σ' => ?_) r hk
      cases e with
      | normal => exact fun s hs => limO_of (denLoop_monoN hM _) hs
      | exit id => exact LeO.refl _
      | ret => exact LeO.refl _
  have h2 : ∀ r, roundOf (loopInf R) bid l n σ = some r → loopInf R bid l n (some σ) = some r := fun r hr => by
    have hc : KCont (fun e σ' => match e with
        | .normal => loopInf R bid l n (l.norm σ')
        | e => l.K e σ') (fun k e σ' => match e with
        | .normal => denLoop l.body l.norm l.K k (l.norm σ')
        | e => l.K e σ') := fun e σ' s hs => by
      cases e with
      | normal =>
        obtain ⟨k, hk⟩ := limO_some hs
        exact ⟨k, fun j hj => (denLoop_monoN hM _).le hj s hk⟩
      | exit id => exact Ev.of_eq fun _ => hs
      | ret => exact Ev.of_eq fun _ => hs
    obtain ⟨k, hk⟩ := hC _ _ hc σ r hr
    exact limO_of (denLoop_monoN hM _) (k := k + 1) (hk k (Nat.le_refl _))
  cases hd : loopInf R bid l n (some σ) with
  | some r => exact (h1 r hd).symm
  | none =>
    cases hb : roundOf (loopInf R) bid l n σ with
    | none => rfl
    | some r => rw [h2 r hb] at hd; cases hd
theorem locate_body {P : Program} {cands : Nat → List Nat} {V : Nat → Sig} {R : Type} {F : Tr.Fs V} {L : LoopOp R} {k : Nat} {norm : Nat → St → Option St} {t : Nat} {l : LoopI R} : ∀ (c : Code) (bid : Nat) (K : Ex → St → Option R) (ns : List Nat), locate P cands F L k norm t c bid K ns = some l →
    ∃ c' bid', (l.body = fun K' σ' => den P cands F L k norm c' bid' K' σ') ∨ ∃ K0, l.body = fun _ σ' => den P cands F L k norm c' bid' K0 σ'
  | .seq a b, bid, K, ns, h => by
    simp only [locate] at h
    split at h
    · rename_i r hr
      cases h
      exact locate_body a bid _ ns hr
    · cases hj : joinIs (joinB norm a) t with
      | true =>
        rw [hj] at h
        cases h
        exact ⟨b, bid, .inr ⟨K, rfl⟩⟩
      | false =>
        rw [hj] at h
        exact locate_body b bid _ ns h
  | .cond _ x y, bid, K, ns, h => by
    simp only [locate] at h
    split at h
    · rename_i r hr
      cases h
      exact locate_body x bid _ ns hr
    · exact locate_body y bid _ ns h
  | .block id body, bid, K, ns, h => locate_body body id _ ns h
  | .loop body, bid, K, ns, h => by
    simp only [locate] at h
    cases hb : Nat.beq bid t with
    | true =>
      rw [hb] at h
      cases h
      exact ⟨body, bid, .inl rfl⟩
    | false =>
      rw [hb] at h
      simp only [cond_false] at h
      split at h
      · cases h
      · exact locate_body body bid _ _ h
  | .skip, _, _, _, h => by cases h
  | .region _ _ _, _, _, _, h => by cases h
  | .exit _, _, _, _, h => by cases h
  | .ret, _, _, _, h => by cases h
  | .label _, _, _, _, h => by cases h
  | .goto _, _, _, _, h => by cases h
  | .scope _, _, _, _, h => by cases h
  | .rangeFunc _ _ _ _, _, _, _, h => by cases h
  | .refuse _, _, _, _, h => by cases h
/-- The loop in block t of function v, from this state on. -/
noncomputable def loopAt (v t : Nat) (ns : List Nat) (σ : Option St) : Option (X.V v).RetD := match loopI X (DF X) 0 v (loopInf _) t ns with
  | some l => loopInf _ t l 0 σ
  | none => none
noncomputable def roundAt (v : Nat) (F : Tr.Fs X.V) (L : LoopOp (X.V v).RetD) (t : Nat) (ns : List Nat) (σ : Option St) : Option (X.V v).RetD := match loopI X F 0 v L t ns with
  | some l => match σ with
    | some s => roundOf L t l 0 s
    | none => none
  | none => none
theorem loopAt_eq (v t : Nat) (ns : List Nat) (σ : St) : loopAt X v t ns (some σ) = roundAt X v (DF X) (loopInf _) t ns (some σ) := by
  unfold loopAt roundAt
  cases hl : loopI X (DF X) 0 v (loopInf _) t ns with
  | none => rfl
  | some l =>
    have hb : ∃ norm c bid, (l.body = fun K' σ' => den X.P X.cands (DF X) (loopInf _) 0 norm c bid K' σ') ∨ ∃ K0, l.body = fun _ σ' => den X.P X.cands (DF X) (loopInf _) 0 norm c bid K0 σ' := by
      unfold loopI at hl
      split at hl
      · split at hl
        · obtain ⟨c, bid, h⟩ := locate_body _ _ _ _ hl
          exact ⟨_, c, bid, h⟩
        · cases hl
      · cases hl
    obtain ⟨norm, c, bid, hb | ⟨K0, hb⟩⟩ := hb
    case inr =>
      refine loopInf_eq ?_ ?_ t 0 σ
      · rw [hb]
        exact fun K K' σ hK => LeO.refl _
      · rw [hb]
        exact fun Ki K hK σ r hr => Ev.of_eq fun _ => hr
    refine loopInf_eq ?_ ?_ t 0 σ
    · rw [hb]
      exact fun K K' σ hK => den_mono c bid _ _ σ (fun v x => LeO.refl _) loopInf_le trivial loopInf_le trivial hK
    · rw [hb]
      exact fun Ki K hK σ r hr => den_cont (N := fun _ _ => True) (n := fun _ => 0) (fun v x r h => Ev.of_eq fun _ => h) loopInf_cont (fun _ => loopInf_le) (fun _ => trivial) c bid Ki K σ r hK hr
theorem loopAt_mk (v t : Nat) (ns : List Nat) (n : Nat) (vs : List (Nat × PV)) (u : Upd) : loopAt X v t ns (mkSt n vs u) = roundAt X v (DF X) (loopInf _) t ns (mkSt n vs u) := loopAt_eq X v t ns _
theorem DF_ok (gl : Nat → Obj → Prop) (hm : X.P.follows .mixedOrders = true) (hc : noCount X.P) (hM : MapsV X.P X.V) (hE : ∀ v f, X.ext v = some f → ∀ x r, f x = some r → CallOk X.P X.V gl v x r) : FOk X.P X.V gl (DF X) := ⟨fun v x r h => by
  obtain ⟨k, hk⟩ := limO_some h
  exact denF_call X gl hm hc hM hE k v x r hk, hM⟩
end
end Go.Den
namespace Go.Den
open Go

/-! ## 52. What a law's arguments read as -/
/-- Numbers fit their kinds; texts and lists are no longer than can be. -/
def Wf : (t : Ty) → t.D → Prop
  | .int k, n => k.min ≤ (show Int from n) ∧ (show Int from n) ≤ k.max
  | .bool, _ => True
  | .str, s => ByteArray.size s ≤ 9223372036854775807
  | .sl t, xs => List.length xs ≤ 9223372036854775807 ∧ ∀ x : t.D, List.Mem x xs → Wf t x
  | .ls t, xs => List.length xs ≤ 9223372036854775807 ∧ ∀ x : t.D, List.Mem x xs → Wf t x
  | .one, _ => True
  | .pr a b, x => Wf a x.1 ∧ Wf b x.2
def shf (P : Program) (g : TypeId → Ty → Bool) : List Field → (off : Nat) → Ty → Bool
  | [], _, .one => true
  | [a], off, T => Nat.beq a.offset off && (Nat.beq (P.cellsOf a.type) T.nc && g a.type T)
  | a :: b :: r, off, .pr A B => Nat.beq a.offset off && (Nat.beq (P.cellsOf a.type) A.nc && (g a.type A && shf P g (b :: r) (off + A.nc) B))
  | _, _, _ => false
/-- The program's type t has this shape. -/
def shp (P : Program) : Nat → TypeId → Ty → Bool
  | 0, _, _ => false
  | f + 1, t, T => match P.underlying t, T with
    | some .bool, .bool => true
    | some (.int k), .int l => decide (k = l)
    | some .string, .str => true
    | some (.slice e), .sl u => Nat.ble 1 u.nc && (Nat.beq (P.cellsOf e) u.nc && shp P f e u)
    | some (.struct fs), T => Nat.beq (P.cellsOf t) T.nc && shf P (shp P f) fs.toList 0 T
    | _, _ => false
section
variable {H : Type} {enc : TypeId × Value → H} {P : Program} {w : World} {base : Nat} {spare : Nat → Bool} {held : Bool}
theorem cells_at {a : Addr} {n : Nat} {cs : List Value} (h : w.cells? base a n = some cs) (hn : 0 < n) : cs.length = n ∧ ∃ b off, a = ⟨b, off, none⟩ ∧ b < w.heap.size ∧ At w b off cs := by
  obtain ⟨_, hl, hc⟩ := World.cells?_some h
  have h0 := hc 0 hn
  have ha : a.add 0 = a := by simp [Addr.add]
  rw [ha] at h0
  rw [List.getElem?_eq_getElem (by omega : 0 < cs.length)] at h0
  obtain ⟨b, off, sp⟩ := a
  unfold World.cell? at h0
  split at h0
  · rename_i c e fr hb
    cases sp with
    | some _ => simp at h0
    | none =>
      refine ⟨hl, b, off, rfl, (Array.getElem?_eq_some_iff.1 hb).1, c, e, fr, hb, ?_, fun j hj => ?_⟩
      · have hlast := hc (n - 1) (by omega)
        rw [List.getElem?_eq_getElem (by omega : n - 1 < cs.length)] at hlast
        have : ∃ sp', (Addr.mk b off none).add (n - 1) = ⟨b, off + (n - 1), sp'⟩ ∧ sp' = none := by
          unfold Addr.add
          split
          · rename_i h; exact ⟨none, by rw [h]; rfl, rfl⟩
          · exact ⟨none, rfl, rfl⟩
        obtain ⟨sp', e1, rfl⟩ := this
        rw [e1] at hlast
        unfold World.cell? at hlast
        rw [hb] at hlast
        simp only [Option.isSome_none, Bool.false_eq_true, if_false] at hlast
        have := (Array.getElem?_eq_some_iff.1 hlast).1
        omega
      · have hj' := hc j (by omega)
        rw [List.getElem?_eq_getElem hj] at hj'
        have : (Addr.mk b off none).add j = ⟨b, off + j, none⟩ := by
          unfold Addr.add
          split
          · rename_i h; rw [h]; rfl
          · rfl
        rw [this] at hj'
        unfold World.cell? at hj'
        rw [hb] at hj'
        simpa using hj'
  · cases h0
theorem choose_list {α : Type} (d : α) {p : Nat → α → Prop} : ∀ (n : Nat), (∀ i, i < n → ∃ x, p i x) → ∃ xs : List α, xs.length = n ∧ ∀ i, i < n → p i (xs.getD i d)
  | 0, _ => ⟨[], rfl, fun i h => by omega⟩
  | n + 1, h => by
    obtain ⟨xs, hl, hx⟩ := choose_list d n fun i hi => h i (by omega)
    obtain ⟨x, hp⟩ := h n (by omega)
    refine ⟨xs ++ [x], by simp [hl], fun i hi => ?_⟩
    by_cases e : i < n
    · have := hx i e
      rw [List.getD_eq_getElem?_getD, List.getElem?_append_left (by omega), ← List.getD_eq_getElem?_getD]; exact this
    · have e : i = n := by omega
      subst e
      rw [List.getD_eq_getElem?_getD, List.getElem?_append_right (by omega), hl]
      simpa using hp
theorem shf_rd {g : TypeId → Ty → Bool} {n : Nat} (hg : ∀ t T cs x, g t T = true → cs.length = P.cellsOf t → DataW.trod enc P w base spare held n t cs = some x → ∃ y : T.D, Rd w (fun b => b < w.heap.size) T cs y ∧ Wf T y) :
    ∀ (fs : List Field) (off : Nat) (T : Ty) (cs : List Value), shf P g fs off T = true → off + T.nc ≤ cs.length → (∀ f ∈ fs, ∃ x, DataW.trod enc P w base spare held n f.type ((cs.drop f.offset).take (P.cellsOf f.type)) = some x) →
      ∃ y : T.D, Rd w (fun b => b < w.heap.size) T ((cs.drop off).take T.nc) y ∧ Wf T y
  | [], off, T, cs, hs, hl, hx => by
    match T, hs with
    | .one, hs => exact ⟨(), by show _ = _; simp [Ty.nc], trivial⟩
  | [a], off, T, cs, hs, hl, hx => by
    have hs : (Nat.beq a.offset off && (Nat.beq (P.cellsOf a.type) T.nc && g a.type T)) = true := by cases T <;> exact hs
    simp only [Bool.and_eq_true] at hs
    have e1 := Nat.eq_of_beq_eq_true hs.1
    have e2 := Nat.eq_of_beq_eq_true hs.2.1
    obtain ⟨x, hx⟩ := hx a (List.mem_cons_self ..)
    rw [e1, e2] at hx
    exact hg _ _ _ _ hs.2.2 (by simp [e2]; omega) hx
  | a :: b :: r, off, T, cs, hs, hl, hx => by
    match T, hs, hl with
    | .pr A B, hs, hl =>
      have hs : (Nat.beq a.offset off && (Nat.beq (P.cellsOf a.type) A.nc && (g a.type A && shf P g (b :: r) (off + A.nc) B))) = true := hs
      simp only [Bool.and_eq_true] at hs
      have e1 := Nat.eq_of_beq_eq_true hs.1
      have e2 := Nat.eq_of_beq_eq_true hs.2.1
      simp only [Ty.nc] at hl
      obtain ⟨x, hx1⟩ := hx a (List.mem_cons_self ..)
      rw [e1, e2] at hx1
      obtain ⟨y1, k1, k2⟩ := hg _ _ _ _ hs.2.2.1 (by simp [e2]; omega) hx1
      obtain ⟨y2, q1, q2⟩ := shf_rd hg (b :: r) (off + A.nc) B cs hs.2.2.2 (by omega) fun f hf => hx f (List.mem_cons_of_mem _ hf)
      refine ⟨(y1, y2), ⟨_, _, ?_, k1, q1⟩, k2, q2⟩
      show (cs.drop off).take (A.nc + B.nc) = _
      rw [List.take_add, List.drop_drop]
theorem trod_rd : ∀ (f fuel : Nat) (t : TypeId) (T : Ty) (cs : List Value) (x : DataW H × List MemPlace), shp P f t T = true → (cs.length = P.cellsOf t ∨ True) → DataW.trod enc P w base spare held fuel t cs = some x → ∃ y : T.D, Rd w (fun b => b < w.heap.size) T cs y ∧ Wf T y
  | 0, _, _, _, _, _, hs, _, _ => by cases hs
  | f + 1, fuel, t, T, cs, x, hs, _, hx => by
    cases fuel with
    | zero => simp [DataW.trod] at hx
    | succ fuel =>
      simp only [shp] at hs
      split at hs
      · rename_i ht
        simp only [DataW.trod, ht] at hx
        split at hx <;> try (simp_all; done)
        rename_i b hb _
        exact ⟨b, rfl, trivial⟩
      · rename_i k l ht
        have e : k = l := of_decide_eq_true hs
        subst e
        simp only [DataW.trod, ht] at hx
        split at hx <;> try (simp_all; done)
        rename_i k2 n hk _
        split at hx
        · rename_i h
          obtain ⟨h1, h2⟩ := h
          cases hk
          subst h1
          refine ⟨n, rfl, ?_⟩
          simp only [Lit.wf, Bool.and_eq_true, decide_eq_true_eq] at h2
          exact h2
        · cases hx
      · rename_i ht
        simp only [DataW.trod, ht] at hx
        split at hx <;> try (simp_all; done)
        rename_i s hk _
        split at hx
        · rename_i h
          exact ⟨s, rfl, h⟩
        · cases hx
      · rename_i e u ht
        simp only [Bool.and_eq_true] at hs
        have h1 := Nat.le_of_ble_eq_true hs.1
        have h2 := Nat.eq_of_beq_eq_true hs.2.1
        rcases Deep.open_slice ht hx with ⟨rfl, _⟩ | ⟨a, len, cap, m, n, D, Pl, rfl, _, hl, hm, hmm, _, hx⟩
        · exact ⟨[], ⟨none, 0, rfl, Nat.le_refl _, fun h => absurd h (by simp)⟩, by simp, fun x h => by cases h⟩
        · have hlm : len ≤ m := by rw [hmm]; split <;> omega
          rw [h2] at hx
          have key : ∀ i, i < len → ∃ y : u.D, ∃ vs, w.cells? base (a.add (i * u.nc)) u.nc = some vs ∧ Rd w (fun b => b < w.heap.size) u vs y ∧ Wf u y := fun i hi => by
            obtain ⟨vs, k1, k2⟩ := hx i (by omega)
            obtain ⟨y, k3, k4⟩ := trod_rd f n e u vs _ hs.2.2 (.inr trivial) k2
            exact ⟨y, vs, k1, k3, k4⟩
          obtain ⟨ys, hyl, hy⟩ := choose_list u.dflt len key
          refine ⟨ys, ⟨some a, cap, by rw [hyl], by rw [hyl]; exact hl, fun hp => ?_⟩, by rw [hyl]; unfold maxLen at hm; omega, fun y hmem => ?_⟩
          · rw [hyl] at hp
            obtain ⟨vs0, k1, _⟩ := hy 0 hp
            have ha : a.add (0 * u.nc) = a := by simp [Addr.add]
            rw [ha] at k1
            obtain ⟨_, b, off, rfl, hb, _⟩ := cells_at k1 h1
            refine ⟨b, off, rfl, hb, fun i hi => ?_⟩
            rw [hyl] at hi
            obtain ⟨vs, q1, q2, q3⟩ := hy i hi
            obtain ⟨q4, b', off', e1, _, q5⟩ := cells_at q1 h1
            have e2 : (Addr.mk b off none).add (i * u.nc) = ⟨b, off + i * u.nc, none⟩ := by
              unfold Addr.add
              split
              · rename_i h; rw [h]; rfl
              · rfl
            rw [e2] at e1
            cases e1
            exact ⟨vs, q4, q5, q2⟩
          · obtain ⟨i, hi, rfl⟩ := List.mem_iff_getElem.1 (show y ∈ ys from hmem)
            obtain ⟨vs, _, _, q3⟩ := hy i (by omega)
            rw [List.getD_eq_getElem?_getD, List.getElem?_eq_getElem hi] at q3
            exact q3
      · rename_i T' _ _ fs ht
        simp only [Bool.and_eq_true] at hs
        have h1 := Nat.eq_of_beq_eq_true hs.1
        obtain ⟨xs, n, e, _, hl, hxl, hx⟩ := DataW.trod_struct ht hx
        obtain ⟨y, k1, k2⟩ := shf_rd (P := P) (g := shp P f) (n := n) (fun t T cs x hs hl hx => trod_rd f n t T cs x hs (.inr trivial) hx) fs.toList 0 T' cs hs.2 (by rw [hl, h1]; omega) fun fd hf => by
          obtain ⟨i, hi, rfl⟩ := List.mem_iff_getElem.1 hf
          simp only [Array.length_toList] at hi
          have := hx i fs[i] (Array.getElem?_eq_getElem hi)
          refine ⟨xs[i]'(by omega), ?_⟩
          rw [List.getElem?_eq_getElem (by omega)] at this
          simpa using this
        refine ⟨y, ?_, k2⟩
        simpa [← h1, ← hl] using k1
      · cases hs
end
end Go.Den
namespace Go.Den
open Go Go.RowKit

/-! ## 53. A law's row -/
theorem rd_one {w : World} {fz : Nat → Prop} : ∀ {T : Ty} {cs : List Value} {x : T.D}, Rd w fz T cs x → ∀ c ∈ cs, c.oneCell' = true
  | .int _, cs, x, h, c, hc => by rw [show cs = _ from h] at hc; simp at hc; subst hc; rfl
  | .bool, cs, x, h, c, hc => by rw [show cs = _ from h] at hc; simp at hc; subst hc; rfl
  | .str, cs, x, h, c, hc => by rw [show cs = _ from h] at hc; simp at hc; subst hc; rfl
  | .one, cs, x, h, c, hc => by rw [show cs = _ from h] at hc; cases hc
  | .sl t, cs, x, h, c, hc => by
    obtain ⟨A, n, rfl, _⟩ := h
    simp at hc; subst hc; rfl
  | .ls t, cs, x, h, c, hc => by
    obtain ⟨A, n, rfl, _⟩ := h
    simp at hc; subst hc; rfl
  | .pr a b, cs, x, h, c, hc => by
    obtain ⟨c1, c2, rfl, h1, h2⟩ := h
    rcases List.mem_append.1 hc with hc | hc
    · exact rd_one h1 c hc
    · exact rd_one h2 c hc
section
variable {H : Type} {enc : TypeId × Value → H} {P : Program} {w : World} {base : Nat} {spare : Nat → Bool} {held : Bool}
theorem shape_of {f : Nat} {t : TypeId} {T : Ty} {v : Value} {x : T.D} {fz : Nat → Prop} {r : Reach} {b0 : Nat} (hs : shp P f t T = true) (hv : Value.okWide P w r b0 t v) (hr : Rd w fz T v.cells.toList x) : shapeOk (aggB P t) v := by
  refine ⟨?_, rd_one hr⟩
  cases f with
  | zero => cases hs
  | succ f =>
    unfold Value.okWide at hv
    unfold aggB
    cases hu : P.underlying t with
    | none => simp only [shp, hu] at hs; cases hs
    | some d =>
      rw [hu] at hv
      cases d <;> (first | (simp only [shp, hu] at hs; cases hs; done) | skip) <;> simp only at hv ⊢
      case struct =>
        obtain ⟨cs, e, _⟩ := hv
        simp only [if_true]; exact ⟨cs, e⟩
      all_goals
        simp only [Bool.false_eq_true, if_false]
        unfold Cell.okWide Cell.ok at hv
        rw [hu] at hv
        cases v <;> first | rfl | (simp only at hv; done) | exact hv.elim
/-- The parameters' shapes. -/
def shps (P : Program) (f : Nat) : List TypeId → List Ty → Bool
  | [], [] => true
  | t :: ts, T :: Ts => shp P f t T && shps P f ts Ts
  | _, _ => false
def vals : List Ty → List Par
  | [] => []
  | T :: Ts => .val T :: vals Ts
def WfA : (Ts : List Ty) → ArgsD (vals Ts) → Prop
  | [], _ => True
  | T :: Ts, x => Wf T x.1 ∧ WfA Ts x.2
theorem args_read {f : Nat} {r : Reach} {b0 : Nat} : ∀ {ts : List TypeId} {Ts : List Ty} {vs : List Value} {ds : List (DataW H)} {ps : List MemPlace}, shps P f ts Ts = true → DataW.TrodAll enc P w base spare held ts vs ds ps → (∀ (j : Nat) t v, ts[j]? = some t → vs[j]? = some v → Value.okWide P w r b0 t v) →
    ∃ x : ArgsD (vals Ts), ArgsO P w (fun b => b < w.heap.size) ts (vals Ts) vs x (fun _ => False) ∧ WfA Ts x
  | [], [], [], [], ps, hs, ht, hv => ⟨(), ⟨rfl, fun _ h => h⟩, trivial⟩
  | t :: ts, T :: Ts, v :: vs, d :: ds, ps, hs, ht, hv => by
    simp only [shps, Bool.and_eq_true] at hs
    obtain ⟨p, q, ⟨fuel, h1⟩, h2, _⟩ := ht
    obtain ⟨y, k1, k2⟩ := trod_rd f fuel t T v.cells.toList _ hs.1 (.inr trivial) h1
    obtain ⟨x, k3, k4⟩ := args_read hs.2 h2 fun j t' v' ht' hv' => hv (j + 1) t' v' (by simpa using ht') (by simpa using hv')
    exact ⟨(y, x), ⟨v, vs, fun _ => False, fun _ => False, rfl, ⟨shape_of hs.1 (hv 0 t v rfl rfl) k1, k1, fun _ h => h⟩, k3, fun _ h => h.elim, fun b => ⟨fun h => h.elim, fun h => h.elim id id⟩⟩, k2, k4⟩
  | [], _ :: _, _, _, _, hs, _, _ => by cases hs
  | _ :: _, [], _, _, _, hs, _, _ => by cases hs
  | [], [], [], _ :: _, _, _, ht, _ => ht.elim
  | [], [], _ :: _, _, _, _, ht, _ => ht.elim
  | _ :: _, _ :: _, [], _, _, _, ht, _ => ht.elim
  | _ :: _, _ :: _, _ :: _, [], _, _, ht, _ => ht.elim
/-- The arguments read behind the call as they did. -/
theorem args_again {W W' : World} (hl : laidOutB P = true) (hb : Below W.heap.size W W') : ∀ {ts : List TypeId} {vs : List Value} {ds : List (DataW H)} {ps : List MemPlace}, (ts.all fun t => P.readableRec t && decide (t < P.types.size)) = true → DataW.TrodAll enc P W 0 (fun _ => true) true ts vs ds ps → (∀ x ∈ ps, x.block < W.heap.size) →
    DataW.TrodAll enc P W' 0 (fun b => decide (b < W.heap.size)) true ts vs ds ps
  | [], [], [], ps, _, h, _ => h
  | t :: ts, v :: vs, d :: ds, ps, hr, ⟨p, q, h1, h2, e⟩, hlt => by
    subst e
    simp only [List.all_cons, Bool.and_eq_true, decide_eq_true_eq] at hr
    exact ⟨p, q, Below.trod hl hr.1.1 hr.1.2 h1 hb fun x hx => hlt x (List.mem_append_left _ hx), args_again hl hb hr.2 h2 fun x hx => hlt x (List.mem_append_right _ hx), rfl⟩
  | [], [], _ :: _, _, _, h, _ => h.elim
  | [], _ :: _, _, _, _, h, _ => h.elim
  | _ :: _, [], _, _, _, h, _ => h.elim
  | _ :: _, _ :: _, [], _, _, h, _ => h.elim
/-- What a call of a function of this signature comes to. -/
def CallOkS (P : Program) (gl : Nat → Obj → Prop) (s : Sig) (x : ArgsD s.pars) (r : s.RetD) : Prop :=
  ∀ (fn : Func) (w : World) (fz φ : Nat → Prop) (vals : List Value), P.funcs[s.fn]? = some fn → ArgsO P w fz fn.params.toList s.pars vals x φ → (∀ b, φ b → ¬ fz b) → (∀ b, fz b → b < w.heap.size) →
    (∀ b o, gl b o → w.heap[b]? = some o ∧ fz b) → CallsTo P s.fn vals.toArray w fun val w' => Post P s fn.resultTypes.toList w fz φ vals r val w'
theorem callOk_of {P : Program} {V : Nat → Sig} {gl : Nat → Obj → Prop} {v : Nat} {x : ArgsD (V v).pars} {r : (V v).RetD} (h : CallOkS P gl (V v) x r) : CallOk P V gl v x r := fun fn w fz φ vals h1 h2 h3 h4 h5 _ => h fn w fz φ vals h1 h2 h3 h4 h5
/-- No function value of it holds a pointer. -/
def noLink : List Par → Bool
  | .rclo _ _ :: _ => false
  | _ :: ps => noLink ps
  | [] => true
theorem link_none {w : World} : ∀ {ps : List Par} {pv : Option Value} {vs : List Value}, noLink ps = true → LinkO w pv ps vs
  | [], _, _, _ => by simp [LinkO]
  | p :: ps, pv, vs, h => by
    cases p with
    | rclo f caps => cases h
    | ptr t => exact link_none (ps := ps) h
    | val t => exact link_none (ps := ps) h
    | own t => exact link_none (ps := ps) h
    | «mut» t => exact link_none (ps := ps) h
    | cptr t => exact link_none (ps := ps) h
    | clo f caps => exact link_none (ps := ps) h
    | pptr t => exact link_none (ps := ps) h
theorem callOkS_of {P : Program} {V : Nat → Sig} {gl : Nat → Obj → Prop} {v : Nat} {x : ArgsD (V v).pars} {r : (V v).RetD} (hn : noLink (V v).pars = true) (h : CallOk P V gl v x r) : CallOkS P gl (V v) x r := fun fn w fz φ vals h1 h2 h3 h4 h5 => h fn w fz φ vals h1 h2 h3 h4 h5 (link_none hn)
theorem law_post {fid : Nat} {fn : Func} {c : Code} {tb : TypeId} {Ts : List Ty} {f : Nat} {s : ChangeSpec} {W : World} {r : Reach} {b0 : Nat} {args : Array Value} {ds gs : List (DataW H)} {before : List MemPlace} {apart : Bool} {gl : Nat → Obj → Prop}
    (hfn : P.funcs[fid]? = some fn) (hbody : fn.body = some c) (hname : (fn.name == "runtime.NumGoroutine") = false) (hres : fn.resultTypes = #[tb]) (htb : P.underlying tb = some .bool)
    (hl : laidOutB P = true) (hps : (fn.params.toList.all fun t => P.readableRec t && decide (t < P.types.size)) = true) (hsh : shps P f fn.params.toList Ts = true) (hvars : s.vars = [])
    (hspec : ∀ ds : List (DataW H), ds.length = fn.params.toList.length → (s.fn H ds).results = [.lit (.bool true)] ∧ (s.fn H ds).args = ds ∧ (s.fn H ds).vars = [])
    (hval : ∀ (j : Nat) t v, fn.params[j]? = some t → args[j]? = some v → Value.okWide P W r b0 t v)
    (hW : DataW.Whole enc P fn.params.toList s.vars apart W args.toList ds gs before)
    (hgl : ∀ b o, gl b o → W.heap[b]? = some o)
    (hc : ∀ x : ArgsD (vals Ts), WfA Ts x → ∃ o, CallOkS P gl ⟨fid, vals Ts, [.own .bool]⟩ x (true, o)) :
    Calls P fid args W fun e W' => ∃ v, e = .returned v ∧ s.post enc P fn apart true false false W args v W' := by
  have hWh := hW
  obtain ⟨p, q, hA, hV, rfl, hfz, hnd⟩ := hW
  rw [hvars] at hV
  obtain ⟨rfl, rfl⟩ := ChangeShapes.trodVars_none hV
  have hlen := (trodAll_length hA).2
  obtain ⟨h1, h2, h3⟩ := hspec ds hlen
  obtain ⟨x, hx, hwf⟩ := args_read (r := r) (b0 := b0) hsh hA fun j t v ht hv => hval j t v (by simpa using ht) (by simpa using hv)
  obtain ⟨o, ho⟩ := hc x hwf
  have hcall := ho fn W (fun b => b < W.heap.size) (fun _ => False) args.toList hfn hx (fun _ h => h.elim) (fun _ h => h) fun b o h => ⟨hgl b o h, (Array.getElem?_eq_some_iff.1 (hgl b o h)).1⟩
  rw [Array.toArray_toList] at hcall
  have hent := callFunc_body (args := args) (w := W) hfn hbody hname
  rcases hcall with ⟨v, w', e, _⟩ | ⟨_, hcall⟩
  · rw [hent] at e; cases e
  refine hcall.mono fun e W' ⟨v, he, hp⟩ => ⟨v, he, ?_⟩
  obtain ⟨⟨vs, fz', φr, φo, χ', rfl, hr, _⟩, hkeep, hsize, hos, htape, hout⟩ := hp
  obtain ⟨t, v, e1, rfl, hsh', how⟩ := hr
  rw [hres] at e1
  obtain rfl : tb = t := by simpa using e1
  have hv : v = .bool true := by
    have hag : aggB P tb = false := by unfold aggB; rw [htb]
    have h4 := hsh'.1
    rw [hag] at h4
    simp only [Bool.false_eq_true, if_false] at h4
    have h5 : v.cells.toList = [.bool true] := how.1
    rw [cells_one h4] at h5
    simpa using h5
  subst hv
  have hB : Below W.heap.size W W' := ⟨hos, htape, hout, hsize, fun k hk => hkeep k hk fun h => h⟩
  refine ⟨ds, [], p ++ [], [], p, [], hWh, ?_, ?_, ?_, hB.frame _, fun h => by cases h⟩
  · rw [List.append_nil, h1, hres]
    exact ChangeShapes.trodAll_mk1 (shut_bool htb true)
  · rw [List.append_nil, h2]
    exact args_again hl hB hps hA fun x hx => DataW.TrodAll.lt hA x hx
  · rw [List.append_nil, h3, hvars]
    exact rfl
end
end Go.Den
namespace Go.Den
open Go
theorem noCount_of {P : Program} (h : (P.funcs.toList.all fun fn => !(fn.name == "runtime.NumGoroutine")) = true) : noCount P := fun f fn hf => by
  have hm : fn ∈ P.funcs.toList := by
    obtain ⟨hlt, e⟩ := Array.getElem?_eq_some_iff.1 hf
    rw [← e]; simp
  have := List.all_eq_true.1 h fn hm
  simpa using this
end Go.Den
namespace Go.Den
open Go

/-! ## 60. Plain facts for laws -/
theorem wrap64_id {n : Int} (h0 : -9223372036854775808 ≤ n) (h1 : n ≤ 9223372036854775807) : IntKind.i64.wrap n = n := by
  have e1 : (2 : Int) ^ IntKind.i64.bits = 18446744073709551616 := rfl
  have e2 : (2 : Int) ^ (IntKind.i64.bits - 1) = 9223372036854775808 := rfl
  unfold IntKind.wrap
  simp only [e1, e2, show IntKind.i64.signed = true from rfl, Bool.true_and, decide_eq_true_eq]
  by_cases h : 0 ≤ n
  · rw [Int.emod_eq_of_lt h (by omega), if_neg (by omega)]
  · have : n % 18446744073709551616 = n + 18446744073709551616 := by omega
    rw [this, if_pos (by omega)]
    omega
theorem wrapU8_id {n : Int} (h0 : 0 ≤ n) (h1 : n ≤ 255) : IntKind.u8.wrap n = n := by
  have e1 : (2 : Int) ^ IntKind.u8.bits = 256 := rfl
  unfold IntKind.wrap
  simp only [e1, show IntKind.u8.signed = false from rfl, Bool.false_and, Bool.false_eq_true, if_false]
  omega
theorem lim_true {n b : Nat} (h : n * b ≤ 140737488355328) : lim n b = true := by rw [lim_eq]; exact decide_eq_true h
theorem limS_true {n : Nat} (h : n ≤ 9223372036854775807) : limS n = true := by rw [limS_eq]; exact decide_eq_true h
/-- A list that is filled from the front. -/
theorem fill_loop {α : Type} {R : Type} (F : List α → Int → Option R) (b : List α) (d : α) (out : List α) (hl : out.length = b.length)
    (hF : ∀ (out : List α) (i : Nat), i < b.length → out.length = b.length → F out (i : Int) = F (out.set i (b.getD i d)) ((i : Int) + 1)) : F out 0 = F b (b.length : Int) := by
  have key : ∀ (n i : Nat) (out : List α), i + n = b.length → out.length = b.length → (∀ j, j < i → out[j]? = b[j]?) → F out (i : Int) = F b (b.length : Int) := by
    intro n
    induction n with
    | zero =>
      intro i out hi hl hj
      have : out = b := List.ext_getElem? fun j => by
        by_cases h : j < i
        · exact hj j h
        · rw [List.getElem?_eq_none (by omega), List.getElem?_eq_none (by omega)]
      rw [this, show i = b.length by omega]
    | succ n ih =>
      intro i out hi hl hj
      rw [hF out i (by omega) hl]
      refine ih (i + 1) _ (by omega) (by simpa using hl) fun j h => ?_
      by_cases e : j = i
      · subst e
        rw [List.getElem?_set_self (by omega), List.getD_eq_getElem?_getD, List.getElem?_eq_getElem (by omega)]
        rfl
      · rw [List.getElem?_set_ne (by omega)]
        exact hj j (by omega)
  exact key b.length 0 out (by omega) hl fun j h => by omega
/-- Two lists of one length, told apart item by item. -/
theorem eq_loop {α : Type} [DecidableEq α] (F : Int → Option (Bool × Unit)) (a b : List α) (d : α) (hl : a.length = b.length)
    (hF : ∀ i : Nat, i < a.length → F (i : Int) = if a.getD i d = b.getD i d then F ((i : Int) + 1) else some (false, ()))
    (hE : F (a.length : Int) = some (true, ())) : F 0 = some (decide (a = b), ()) := by
  have key : ∀ (n i : Nat), i + n = a.length → F (i : Int) = some (decide (a.drop i = b.drop i), ()) := by
    intro n
    induction n with
    | zero =>
      intro i hi
      rw [show i = a.length by omega, hE, List.drop_eq_nil_of_le (Nat.le_refl _), List.drop_eq_nil_of_le (by omega)]
      simp
    | succ n ih =>
      intro i hi
      have h1 : i < a.length := by omega
      have h2 : i < b.length := by omega
      rw [hF i h1, List.drop_eq_getElem_cons h1, List.drop_eq_getElem_cons h2]
      rw [List.getD_eq_getElem?_getD, List.getD_eq_getElem?_getD, List.getElem?_eq_getElem h1, List.getElem?_eq_getElem h2]
      simp only [Option.getD_some, List.cons.injEq]
      by_cases e : a[i] = b[i]
      · rw [if_pos e]
        have := ih (i + 1) (by omega)
        rw [show ((i : Int) + 1) = ((i + 1 : Nat) : Int) by omega, this]
        simp [e]
      · rw [if_neg e]
        simp [e]
  have := key a.length 0 (by omega)
  simpa using this
theorem bytes_toList (s : ByteArray) : s.toList = s.data.toList := by
  have key : ∀ (n i : Nat) (r : List UInt8), i + n = s.size → ByteArray.toList.loop s i r = r.reverse ++ s.data.toList.drop i := by
    intro n
    induction n with
    | zero =>
      intro i r h
      unfold ByteArray.toList.loop
      rw [if_neg (by omega), List.drop_eq_nil_of_le (by show s.data.toList.length ≤ i; rw [Array.length_toList]; exact Nat.le_of_eq h.symm)]
      simp
    | succ n ih =>
      intro i r h
      unfold ByteArray.toList.loop
      rw [if_pos (by omega), ih (i + 1) _ (by omega)]
      have hi : i < s.data.toList.length := by rw [Array.length_toList]; show i < s.size; omega
      rw [List.drop_eq_getElem_cons hi]
      have : s.get! i = s.data.toList[i] := by
        show s.data.get!Internal i = _
        simp at hi
        simp [Array.get!Internal, hi]
      rw [this]
      simp
  have := key s.size 0 [] (by omega)
  unfold ByteArray.toList
  simpa using this
theorem bytes_eq (s t : ByteArray) : (s.toList == t.toList) = decide (s = t) := by
  rw [bytes_toList, bytes_toList]
  by_cases h : s = t
  · subst h; simp
  · have h1 : ¬ s.data = t.data := fun e => h (by cases s; cases t; simp only [ByteArray.mk.injEq]; exact e)
    simp [h, h1]
/-- A walk along a list, by place. -/
theorem list_ind {α : Type} (xs : List α) (d : α) (Pr : Nat → List α → Prop) (hE : Pr xs.length [])
    (hS : ∀ (i : Nat) (x : α) (r : List α), i < xs.length → xs.getD i d = x → x ∈ xs → Pr (i + 1) r → Pr i (x :: r)) : Pr 0 xs := by
  have key : ∀ (n i : Nat), i + n = xs.length → Pr i (xs.drop i) := by
    intro n
    induction n with
    | zero =>
      intro i hi
      rw [List.drop_eq_nil_of_le (by omega), show i = xs.length by omega]; exact hE
    | succ n ih =>
      intro i hi
      have hlt : i < xs.length := by omega
      rw [List.drop_eq_getElem_cons hlt]
      refine hS i _ _ hlt ?_ (List.getElem_mem hlt) (ih (i + 1) (by omega))
      rw [List.getD_eq_getElem?_getD, List.getElem?_eq_getElem hlt]; rfl
  exact key xs.length 0 (by omega)
theorem wrap_succ {i : Nat} (h : i < 9223372036854775807) : IntKind.i64.wrap ((i : Int) + 1) = ((i + 1 : Nat) : Int) := by
  rw [wrap64_id (by omega) (by omega)]; omega
theorem sum_mem {α : Type} (f : α → Nat) : ∀ {xs : List α} {x : α}, x ∈ xs → f x ≤ (xs.map f).sum
  | y :: ys, x, h => by
    simp only [List.map_cons, List.sum_cons]
    rcases List.mem_cons.1 h with rfl | h
    · omega
    · have := sum_mem f h; omega
/-- A list's weight: the list itself, and item by item. -/
def wl {α : Type} (f : α → Nat) (xs : List α) : Nat := xs.length + (xs.map f).sum
theorem wl_len {α : Type} {f : α → Nat} {xs : List α} {n : Nat} (h : wl f xs ≤ n) : xs.length ≤ n := by unfold wl at h; omega
theorem wl_mem {α : Type} {f : α → Nat} {xs : List α} {n : Nat} (h : wl f xs ≤ n) {x : α} (hx : x ∈ xs) : f x ≤ n := by
  unfold wl at h
  have := sum_mem f hx
  omega
theorem bytes_ext {s t : ByteArray} (h : s.data.toList = t.data.toList) : s = t := by
  cases s; cases t
  simp only [ByteArray.mk.injEq]
  exact Array.toList_inj.1 h
/-- Bytes back from numbers. -/
def ofNums (xs : List Int) : ByteArray := ⟨(xs.map fun n => UInt8.ofNat n.toNat).toArray⟩
theorem getD_mem {α : Type} {xs : List α} {i : Nat} {d : α} (h : i < xs.length) : xs.getD i d ∈ xs := by
  rw [List.getD_eq_getElem?_getD, List.getElem?_eq_getElem h]
  exact List.getElem_mem h
end Go.Den
namespace Go.Den
open Go

/-! ## 61. Texts in order -/
def lessL : List UInt8 → List UInt8 → Bool
  | _, [] => false
  | [], _ :: _ => true
  | a :: x, b :: y => a < b || (a == b && lessL x y)
/-- The order of texts. -/
def blt (a b : ByteArray) : Bool := lessL a.data.toList b.data.toList
/-! ## 62. Walks -/
end Go.Den
namespace Go.Den
open Go
theorem getD_get {α : Type} {l : List α} {i : Nat} {d : α} (h : i < l.length) : l.getD i d = l[i] := by
  rw [List.getD_eq_getElem?_getD, List.getElem?_eq_getElem h]; rfl
end Go.Den
namespace Go.Den
open Go
variable {P : Program}
/-! ### a part is put between -/
/-- What 'slices.Insert' leaves. -/
structure InsLeft (t : Ty) (w : World) (cs vs : List Value) (n m p : Nat) (fresh : Prop) (b0 : Nat) (val : Value) (w' : World) : Prop where
  row : ∃ B off cap M e fr, val = .slice (some ⟨B, off, none⟩) (n + m) cap ∧ w'.heap[B]? = some (.cells M e fr) ∧ MutR t M fr ∧ off + cap * t.nc ≤ M.size ∧ n + m ≤ cap ∧
    (∀ j, j < cs.length + vs.length → M[off + j]? = (cs.take p ++ vs ++ cs.drop p)[j]?) ∧ (w.heap.size ≤ B ∨ (¬ fresh ∧ B = b0)) ∧ (∀ b, b ≠ B → b < w.heap.size → w'.heap[b]? = w.heap[b]?) ∧ B < w'.heap.size
  size : w.heap.size ≤ w'.heap.size
  os : w'.os = w.os
  tape : w'.tape = w.tape
  output : w'.output = w.output
/-- The walks of 'slices.Insert' at one type of elements. -/
structure InsRoads (P : Program) (fid : FuncId) (k by_ : Nat) (Z : Array Value) (et : TypeId) : Prop where
  shift : ∀ (b off n c i vb voff m vc : Nat) (cs vs : List Value) (w : World), i < n → 0 < m → n + m ≤ c → n + m ≤ 9223372036854775807 → vb ≠ b → cs.length = n * k → vs.length = m * k →
    (∀ j v, cs[j]? = some v → w.cell? ⟨b, off + j, none⟩ = some v) → (∀ j, j < (n + m) * k → (w.cell? ⟨b, off + j, none⟩).isSome = true) → (∀ j, j < (n + m) * k → w.frozen? ⟨b, off + j, none⟩ = false) →
    (∀ j v, vs[j]? = some v → w.cell? ⟨vb, voff + j, none⟩ = some v) → (∀ v ∈ cs, v.oneCell' = true) → (∀ v ∈ vs, v.oneCell' = true) →
    ∀ (tA tB : TypeId) (kA kB : Nat), w.shape? vb = some (tA, kA) → w.shape? b = some (tB, kB) → kB ≠ 0 → w.frozen? ⟨vb, voff, none⟩ = false → w.frozen? ⟨vb, kA, none⟩ = false →
    Calls P fid #[.slice (some ⟨b, off, none⟩) n c, .int .i64 i, .slice (some ⟨vb, voff, none⟩) m vc] w fun e w' =>
      e = .returned (.slice (some ⟨b, off, none⟩) (n + m) c) ∧ w' = (w.drew.setCells b (off + (i + m) * k) (cs.drop (i * k))).setCells b (off + i * k) vs
  end_room : ∀ (b off n c vb voff m vc : Nat) (vs : List Value) (w : World), 0 < m → n + m ≤ c → vs.length = m * k → (∀ j, j < vs.length → (w.cell? ⟨b, off + n * k + j, none⟩).isSome = true) → (∀ j, j < vs.length → w.frozen? ⟨b, off + n * k + j, none⟩ = false) →
    (∀ j v, vs[j]? = some v → w.cell? ⟨vb, voff + j, none⟩ = some v) → (∀ v ∈ vs, v.oneCell' = true) →
    Calls P fid #[.slice (some ⟨b, off, none⟩) n c, .int .i64 n, .slice (some ⟨vb, voff, none⟩) m vc] w fun e w' =>
      e = .returned (.slice (some ⟨b, off, none⟩) (n + m) c) ∧ w' = w.setCells b (off + n * k) vs
  end_grow : ∀ (base : Option Addr) (n c vb voff m vc : Nat) (cs vs : List Value) (w : World), 0 < m → n ≤ c → c < n + m → (n + m) * by_ ≤ 140737488355328 → cs.length = n * k → vs.length = m * k → (base = none → n = 0) →
    (∀ a, base = some a → ∀ j v, cs[j]? = some v → w.cell? (a.add j) = some v) → (∀ j v, vs[j]? = some v → w.cell? ⟨vb, voff + j, none⟩ = some v) →
    Calls P fid #[.slice base n c, .int .i64 n, .slice (some ⟨vb, voff, none⟩) m vc] w fun e w' => ∃ cap, n + m ≤ cap ∧
      e = .returned (.slice (some ⟨w.heap.size, 0, none⟩) (n + m) cap) ∧
      w' = w.drew.alloc (.cells ((cs ++ vs).toArray ++ Builtin.zeroCells Z (cap - (n + m))) et)
  grow : ∀ (b off n c i vb voff m vc : Nat) (cs vs : List Value) (w : World), i < n → 0 < m → n ≤ c → c < n + m → (n + m) * by_ ≤ 140737488355328 → cs.length = n * k → vs.length = m * k →
    (∀ j v, cs[j]? = some v → w.cell? ⟨b, off + j, none⟩ = some v) → (∀ j v, vs[j]? = some v → w.cell? ⟨vb, voff + j, none⟩ = some v) → (∀ v ∈ cs, v.oneCell' = true) → (∀ v ∈ vs, v.oneCell' = true) →
    Calls P fid #[.slice (some ⟨b, off, none⟩) n c, .int .i64 i, .slice (some ⟨vb, voff, none⟩) m vc] w fun e w' => ∃ cap, n + m ≤ cap ∧
      e = .returned (.slice (some ⟨w.heap.size, 0, none⟩) (n + m) cap) ∧
      w' = (((w.alloc (.cells ((cs.take (i * k)).toArray ++ Builtin.zeroCells Z (n + m - i) ++ Builtin.zeroCells Z (cap - (n + m))) et)).drew.setCells w.heap.size (i * k) vs).drew).setCells w.heap.size ((i + m) * k) (cs.drop (i * k))
end Go.Den
