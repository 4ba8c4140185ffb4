/- PyA: equations of the functions of this seat as the executor tells them, or plain facts about them. Conditions: none here. -/
import Derived.Test.YthfdlonnbkffnaaGreatDoorPxI
set_option linter.all false
set_option linter.unusedSimpArgs false
set_option linter.unusedVariables false
namespace Go.Den.S
open Go Go.Den
/-! ### marks -/
theorem markText_loop : ∀ (n : Nat) (x : Int) (s : ByteArray), 0 ≤ x → x < 10 ^ n → x ≤ 9223372036854775807 → s.size + n ≤ 1000000 → ∃ r, laws_markText_L0 x s = some (r, ())
  | 0, x, s, h0, h1, hx, hs => by
    rw [laws_markText_L0_eq]
    have : ¬ x > 0 := by simp at h1; omega
    have e1 : (c_m : ByteArray).size = 1 := rfl
    simp only [decide_eq_false this, cond_false, limS_true (show c_m.size + s.size ≤ 9223372036854775807 by omega), cond_true]
    exact ⟨_, rfl⟩
  | n + 1, x, s, h0, h1, hx, hs => by
    rw [laws_markText_L0_eq]
    by_cases h : x > 0
    · have hd : w64 (Int.tdiv x 10) = x / 10 := by
        show IntKind.i64.wrap _ = _
        rw [Int.tdiv_eq_ediv_of_nonneg h0, wrap64_id (by omega) (by omega)]
      have e1 : ∀ (b : UInt8), (⟨List.toArray [b]⟩ : ByteArray).size = 1 := fun _ => rfl
      simp only [decide_eq_true h, cond_true, List.map_cons, List.map_nil, e1, limS_true (show 1 + s.size ≤ 9223372036854775807 by omega), hd]
      refine markText_loop n (x / 10) _ (by omega) ?_ (by omega) ?_
      · rw [Int.pow_succ] at h1; omega
      · rw [ByteArray.size_append, e1]; omega
    · have e1 : (c_m : ByteArray).size = 1 := rfl
      simp only [decide_eq_false h, cond_false, limS_true (show c_m.size + s.size ≤ 9223372036854775807 by omega), cond_true]
      exact ⟨_, rfl⟩
theorem markText_some (k : Int) (h : k ≤ 9223372036854775807) : ∃ r, laws_markText k = some (r, ()) := by
  rw [laws_markText_eq]
  by_cases h0 : k ≤ 0
  · exact ⟨_, by simp only [decide_eq_true h0, cond_true]; rfl⟩
  · simp only [decide_eq_false h0, cond_false]
    exact markText_loop 19 k _ (by omega) (by omega) h (by decide)
/-- A mark's text. -/
noncomputable def mkT (k : Int) : ByteArray := ((laws_markText k).getD (ByteArray.empty, ())).1
theorem markText_ok (k : Int) (h : k ≤ 9223372036854775807) : laws_markText k = some (mkT k, ()) := by
  obtain ⟨r, hr⟩ := markText_some k h
  unfold mkT
  rw [hr]; rfl
/-- A row's marks. -/
noncomputable def mkL (k : Int) : Nat → List ByteArray
  | 0 => []
  | n + 1 => mkT k :: mkL (k + 1) n
theorem mkL_len : ∀ (n : Nat) (k : Int), (mkL k n).length = n
  | 0, _ => rfl
  | n + 1, k => by simp [mkL, mkL_len n]
theorem mkL_get : ∀ (n : Nat) (k : Int) (i : Nat), i < n → (mkL k n)[i]? = some (mkT (k + i))
  | n + 1, k, 0, _ => by simp [mkL]
  | n + 1, k, i + 1, h => by
    simp only [mkL, List.getElem?_cons_succ]
    rw [mkL_get n (k + 1) i (by omega)]
    congr 2; omega
theorem markStringS_ok (a : List ByteArray) (k : Int) (h0 : 0 ≤ k) (hk : k + a.length ≤ 1000000000) : laws_markStringS a k = some (k + (a.length : Int), mkL k a.length, ()) := by
  rw [laws_markStringS_eq]
  have hF := fill_loop (fun out i => laws_markStringS_L0 (k + i) i out) (mkL k a.length) ByteArray.empty a (by rw [mkL_len]) fun out i hi hl => by
    rw [mkL_len] at hi hl
    show laws_markStringS_L0 (k + (i : Int)) (i : Int) out = laws_markStringS_L0 (k + ((i : Int) + 1)) ((i : Int) + 1) _
    rw [laws_markStringS_L0_eq]
    have k1 : decide ((i : Int) < (out.length : Int)) = true := decide_eq_true (by omega)
    have k2 : decide (0 ≤ (i : Int)) = true := decide_eq_true (by omega)
    have k3 : w64 ((i : Int) + 1) = (i : Int) + 1 := wrap64_id (by omega) (by omega)
    have k4 : w64 (k + (i : Int) + 1) = k + ((i : Int) + 1) := by show IntKind.i64.wrap _ = _; rw [wrap64_id (by omega) (by omega)]; omega
    simp only [k1, k2, k3, k4, Bool.and_self, cond_true, Int.toNat_natCast, markText_ok (k + (i : Int)) (by omega), Option.bind_some]
    congr 2
    rw [List.getD_eq_getElem?_getD, mkL_get _ _ _ hi]; rfl
  simp only [mkL_len, Int.add_zero] at hF
  rw [hF, laws_markStringS_L0_eq]
  have k1 : decide ((a.length : Int) < ((mkL k a.length).length : Int)) = false := decide_eq_false (by rw [mkL_len]; omega)
  simp only [k1, cond_false]
theorem heldStringS_ok (n : Nat) (k : Int) (h0 : 0 ≤ k) (hk : k + n ≤ 1000000000) : laws_heldStringS (mkL k n) k = some (k + (n : Int), ()) := by
  rw [laws_heldStringS_eq]
  have key := list_ind (mkL k n) ByteArray.empty (fun i r => laws_heldStringS_L0 (mkL k n) (k + (i : Int)) (i : Int) = some (k + (n : Int), ())) (by
    rw [mkL_len, laws_heldStringS_L0_eq]
    have k1 : decide ((n : Int) < ((mkL k n).length : Int)) = false := decide_eq_false (by rw [mkL_len]; omega)
    simp only [k1, cond_false]) (fun i x r hi hx hm ih => by
    rw [laws_heldStringS_L0_eq]
    have hi' : i < n := by rwa [mkL_len] at hi
    have k1 : decide ((i : Int) < ((mkL k n).length : Int)) = true := decide_eq_true (by rw [mkL_len]; omega)
    have k2 : decide (0 ≤ (i : Int)) = true := decide_eq_true (by omega)
    have k3 : w64 ((i : Int) + 1) = ((i + 1 : Nat) : Int) := wrap_succ (by omega)
    have k4 : w64 (k + (i : Int) + 1) = k + ((i + 1 : Nat) : Int) := by show IntKind.i64.wrap _ = _; rw [wrap64_id (by omega) (by omega)]; omega
    have hx' : x = mkT (k + (i : Int)) := by
      rw [← hx, List.getD_eq_getElem?_getD, mkL_get _ _ _ hi']; rfl
    simp only [k1, k2, k3, k4, Bool.and_self, cond_true, Int.toNat_natCast, markText_ok (k + (i : Int)) (by omega), Option.bind_some, hx, bytes_eq, decide_eq_true hx', Bool.not_true, cond_false]
    exact ih)
  simpa using key
theorem bne_dec (a b : Int) : (a != b) = !decide (a = b) := by
  by_cases e : a = b
  · simp [e]
  · simp [e]
/-! ### tables: measures, copies, comparisons, marks -/
def wV (v : DV) : Nat := v.2.2.1.size + wl ByteArray.size v.2.2.2
def wE (e : DE) : Nat := e.1.size + wV e.2
def wT (t : List DE) : Nat := wl wE t
structure WfE (e : DE) : Prop where
  key : e.1.size ≤ 9223372036854775807
  txt : e.2.2.2.1.size ≤ 9223372036854775807
  its : e.2.2.2.2.length ≤ 9223372036854775807
  szs : ∀ s ∈ e.2.2.2.2, s.size ≤ 9223372036854775807
theorem wf_e {e : DE} (h : Wf T_Entry e) : WfE e := ⟨h.1, h.2.2.2.1, h.2.2.2.2.1, fun s hs => h.2.2.2.2.2 s hs⟩
theorem szVal_ok (v : DV) (left : Int) (h0 : 0 ≤ left) (h1 : left ≤ 2097152) (hx : v.2.2.1.size ≤ 9223372036854775807) (hl : v.2.2.2.length ≤ 9223372036854775807) (hs : ∀ s ∈ v.2.2.2, s.size ≤ 9223372036854775807) : laws_szVal v left = some (szv (wV v) left, ()) := by
  rw [laws_szVal_eq, show w64 (left - (v.2.2.1.size : Int)) = left - (v.2.2.1.size : Int) from wrap64_id (by omega) (by omega)]
  have ew : wV v = v.2.2.1.size + wl ByteArray.size v.2.2.2 := rfl
  by_cases h : left - (v.2.2.1.size : Int) < 0
  · rw [szv_lt (by omega)]
    simp only [decide_eq_true h, cond_true]
  · simp only [decide_eq_false h, cond_false]
    rw [szStringS_ok _ _ (by omega) (by omega) hl hs, Option.bind_some]
    by_cases hn : (wl ByteArray.size v.2.2.2 : Int) ≤ left - (v.2.2.1.size : Int)
    · rw [szv_ge hn, szv_ge (by omega)]
      simp only [decide_eq_false (show ¬ left - (v.2.2.1.size : Int) - (wl ByteArray.size v.2.2.2 : Int) < 0 by omega), cond_false]
      congr 2; omega
    · rw [szv_lt (by omega), szv_lt (by omega)]
      rfl
theorem szEntry_ok (e : DE) (left : Int) (h0 : 0 ≤ left) (h1 : left ≤ 2097152) (hw : WfE e) : laws_szEntry e left = some (szv (wE e) left, ()) := by
  have hk := hw.key
  rw [laws_szEntry_eq, show w64 (left - (e.1.size : Int)) = left - (e.1.size : Int) from wrap64_id (by omega) (by omega)]
  have ew : wE e = e.1.size + wV e.2 := rfl
  by_cases h : left - (e.1.size : Int) < 0
  · rw [szv_lt (by omega)]
    simp only [decide_eq_true h, cond_true]
  · simp only [decide_eq_false h, cond_false]
    rw [szVal_ok _ _ (by omega) (by omega) hw.txt hw.its hw.szs, Option.bind_some]
    by_cases hn : (wV e.2 : Int) ≤ left - (e.1.size : Int)
    · rw [szv_ge hn, szv_ge (by omega)]
      simp only [decide_eq_false (show ¬ left - (e.1.size : Int) - (wV e.2 : Int) < 0 by omega), cond_false]
      congr 2; omega
    · rw [szv_lt (by omega), szv_lt (by omega)]
      rfl
theorem szEntryS_ok (a : List DE) (left : Int) (h0 : 0 ≤ left) (h1 : left ≤ 2097152) (hl : a.length ≤ 9223372036854775807) (hs : ∀ e ∈ a, WfE e) :
    laws_szEntryS a left = some (szv (wT a) left, ()) := by
  rw [laws_szEntryS_eq]
  have e : w64 (left - (a.length : Int)) = left - (a.length : Int) := wrap64_id (by omega) (by omega)
  rw [e]
  rw [show wT a = a.length + (a.map wE).sum from rfl]
  by_cases h : left - (a.length : Int) < 0
  · simp only [decide_eq_true h, cond_true]
    unfold szv
    rw [if_neg (by omega)]
  · simp only [decide_eq_false h, cond_false]
    have key := list_ind a dflt (fun i r => ∀ left : Int, 0 ≤ left → left ≤ 2097152 → laws_szEntryS_L0 a left (i : Int) = some (szv ((r.map wE).sum) left, ())) (fun left h0 h1 => by
      rw [laws_szEntryS_L0_eq]
      simp [szv, h0]) (fun i x r hi hx hm ih left h0 h1 => by
      rw [laws_szEntryS_L0_eq]
      have k1 : decide ((i : Int) < (a.length : Int)) = true := decide_eq_true (by omega)
      have k2 : decide (0 ≤ (i : Int)) = true := decide_eq_true (by omega)
      have k4 : w64 ((i : Int) + 1) = ((i + 1 : Nat) : Int) := wrap_succ (by omega)
      have hx' : a.getD i (ByteArray.empty, 0, 0, ByteArray.empty, []) = x := hx
      simp only [k1, k2, Bool.and_self, cond_true, Int.toNat_natCast, hx', k4, List.map_cons, List.sum_cons]
      rw [show laws_szEntry (x.1, (x.2.1, (x.2.2.1, x.2.2.2))) left = some (szv (wE x) left, ()) from szEntry_ok x left h0 h1 (hs x hm), Option.bind_some]
      by_cases hn : (wE x : Int) ≤ left
      · rw [szv_ge hn]
        simp only [decide_eq_false (show ¬ left - (wE x : Int) < 0 by omega), cond_false]
        rw [ih _ (by omega) (by omega)]
        unfold szv
        split <;> split <;> first | rfl | omega | (congr 2; omega)
      · rw [szv_lt (by omega), szv_lt (by omega)]
        rfl)
    refine (key _ (by omega) (by omega)).trans ?_
    unfold szv
    split <;> split <;> first | rfl | omega | (congr 2; omega)
theorem w_mem {t : List DE} {n : Nat} (h : wT t ≤ n) : t.length ≤ n ∧ ∀ e ∈ t, e.1.size ≤ n ∧ e.2.2.2.1.size ≤ n ∧ e.2.2.2.2.length ≤ n ∧ ∀ s ∈ e.2.2.2.2, s.size ≤ n := by
  refine ⟨wl_len h, fun e he => ?_⟩
  have h1 := wl_mem h he
  have h2 : wE e = e.1.size + (e.2.2.2.1.size + wl ByteArray.size e.2.2.2.2) := rfl
  exact ⟨by omega, by omega, wl_len (f := ByteArray.size) (by omega), fun s hs => wl_mem (f := ByteArray.size) (show wl ByteArray.size e.2.2.2.2 ≤ n by omega) hs⟩
theorem w_bd {t : List DE} (h : wT t ≤ 4194304) : Bd t := by
  obtain ⟨h1, h2⟩ := w_mem h
  exact ⟨h1, fun e he => (h2 e he).2.2.1, fun e he => ⟨(h2 e he).1, (h2 e he).2.1, (h2 e he).2.2.2⟩⟩
theorem toVal_ok (v : DV) (h : v.2.2.2.length ≤ 2097152) : laws_toVal v = some (v, ()) := by
  rw [laws_toVal_eq, toStringS_ok _ h]; rfl
theorem toEntryS_ok (a : List DE) (ha : a.length ≤ 2097152) (hi : ∀ e ∈ a, e.2.2.2.2.length ≤ 2097152) : laws_toEntryS a = some (a, ()) := by
  rw [laws_toEntryS_eq]
  have e : lim a.length 72 = true := lim_true (by omega)
  simp only [Int.le_refl, decide_true, Int.natCast_nonneg, Int.toNat_natCast, e, Bool.and_self, cond_true]
  refine (fill_loop (fun out i => laws_toEntryS_L0 a out i) a dflt (List.replicate a.length dflt) (by simp) fun out i hi' hl => ?_).trans ?_
  · show laws_toEntryS_L0 a out i = _
    rw [laws_toEntryS_L0_eq]
    have e : w64 ((i : Int) + 1) = (i : Int) + 1 := wrap64_id (by omega) (by omega)
    have h1 : decide ((i : Int) < (a.length : Int)) = true := decide_eq_true (by omega)
    have h2 : decide ((i : Int) < (out.length : Int)) = true := decide_eq_true (by omega)
    have h3 : decide (0 ≤ (i : Int)) = true := decide_eq_true (by omega)
    have hm := hi _ (getD_mem (d := dflt) hi')
    simp only [h1, h2, h3, e, Bool.and_self, cond_true, Int.toNat_natCast, laws_toEntry_eq, toVal_ok (a.getD i dflt).2 hm, Option.bind_some]
  · show laws_toEntryS_L0 a a (a.length : Int) = _
    rw [laws_toEntryS_L0_eq]
    simp
theorem eqVal_ok (a b : DV) (h : a.2.2.2.length ≤ 2097152) : laws_eqVal a b = some (decide (a = b), ()) := by
  rw [laws_eqVal_eq, eqStringS_ok _ _ h]
  obtain ⟨a1, a2, a3, a4⟩ := a
  obtain ⟨b1, b2, b3, b4⟩ := b
  simp only [Option.bind_some, bytes_eq, Prod.mk.injEq, bne_dec]
  by_cases h1 : a1 = b1 <;> by_cases h2 : a2 = b2 <;> by_cases h3 : a3 = b3 <;> by_cases h4 : a4 = b4 <;> simp [h1, h2, h3, h4]
theorem eqEntry_ok (a b : DE) (h : a.2.2.2.2.length ≤ 2097152) : laws_eqEntry a b = some (decide (a = b), ()) := by
  rw [laws_eqEntry_eq, eqVal_ok _ _ h]
  obtain ⟨a1, a2⟩ := a
  obtain ⟨b1, b2⟩ := b
  simp only [Option.bind_some, bytes_eq, Prod.mk.injEq]
  by_cases h1 : a1 = b1 <;> by_cases h2 : a2 = b2 <;> simp [h1, h2]
theorem eqEntryS_ok (a b : List DE) (ha : a.length ≤ 4194304) (hi : ∀ e ∈ a, e.2.2.2.2.length ≤ 2097152) : laws_eqEntryS a b = some (decide (a = b), ()) := by
  rw [laws_eqEntryS_eq]
  by_cases hl : a.length = b.length
  · have e : ((a.length : Int) != (b.length : Int)) = false := by simp [hl]
    simp only [e, cond_false]
    refine eq_loop (fun i => laws_eqEntryS_L0 a b i) a b dflt hl (fun i hi' => ?_) ?_
    · rw [laws_eqEntryS_L0_eq]
      have e : w64 ((i : Int) + 1) = (i : Int) + 1 := wrap64_id (by omega) (by omega)
      have h1 : decide ((i : Int) < (a.length : Int)) = true := decide_eq_true (by omega)
      have h2 : decide ((i : Int) < (b.length : Int)) = true := decide_eq_true (by omega)
      have h3 : decide (0 ≤ (i : Int)) = true := decide_eq_true (by omega)
      have hm := hi _ (getD_mem (d := dflt) hi')
      simp only [h1, h2, h3, e, Bool.and_self, cond_true, Int.toNat_natCast, eqEntry_ok (a.getD i dflt) (b.getD i dflt) hm, Option.bind_some]
      by_cases h : a.getD i dflt = b.getD i dflt
      · rw [decide_eq_true h, if_pos h, Bool.not_true, cond_false]
      · rw [decide_eq_false h, if_neg h, Bool.not_false, cond_true]
    · rw [laws_eqEntryS_L0_eq]
      simp
  · have e : ((a.length : Int) != (b.length : Int)) = true := by simp; omega
    simp only [e, cond_true]
    rw [decide_eq_false fun h => hl (by rw [h])]
/-- How many marks. -/
def cntE (t : List DE) : Nat := (t.map fun e => 4 + e.2.2.2.2.length).sum
noncomputable def mkE (k : Int) : List DE → List DE
  | [] => []
  | e :: r => (mkT k, (k + 1, (k + 2, (mkT (k + 3), mkL (k + 4) e.2.2.2.2.length)))) :: mkE (k + ((4 + e.2.2.2.2.length : Nat) : Int)) r
theorem markEntryS_ok (a : List DE) (k : Int) (h0 : 0 ≤ k) (hl : a.length ≤ 500000000) (hk : k + cntE a ≤ 1000000000) : laws_markEntryS a k = some (k + (cntE a : Int), mkE k a, ()) := by
  rw [laws_markEntryS_eq, laws_markEntryS_L1700000_eq, laws_markEntryS_L1700001_eq]
  have key : ∀ (r pre : List DE) (k : Int), 0 ≤ k → k + cntE r ≤ 1000000000 → pre.length + r.length ≤ 500000000 → laws_markEntryS_L0 k (pre.length : Int) (pre ++ r) = some (k + (cntE r : Int), pre ++ mkE k r, ()) := by
    intro r
    induction r with
    | nil =>
      intro pre k h0 hk hp
      rw [laws_markEntryS_L0_eq, laws_markEntryS_L1700002_eq]
      have k1 : decide ((pre.length : Int) < ((pre ++ ([] : List DE)).length : Int)) = false := decide_eq_false (by simp)
      simp only [k1, cond_false, laws_markEntryS_L1700013_eq]
      simp [cntE, mkE]
    | cons e r ih =>
      intro pre k h0 hk hp
      have hc : cntE (e :: r) = 4 + e.2.2.2.2.length + cntE r := by simp [cntE]
      rw [hc] at hk ⊢
      simp only [List.length_cons] at hp
      have hset : ∀ x y : DE, (pre ++ x :: r).set pre.length y = pre ++ y :: r := fun x y => by simp
      have hget : ∀ x : DE, (pre ++ x :: r).getD pre.length (ByteArray.empty, 0, 0, ByteArray.empty, []) = x := fun x => by simp [List.getD_eq_getElem?_getD]
      have hlt : ∀ x : DE, decide ((pre.length : Int) < ((pre ++ x :: r).length : Int)) = true := fun x => decide_eq_true (by simp; omega)
      have k2 : decide (0 ≤ (pre.length : Int)) = true := decide_eq_true (by omega)
      have k3 : w64 ((pre.length : Int) + 1) = ((pre.length + 1 : Nat) : Int) := wrap_succ (by omega)
      have w1 : w64 (k + 1) = k + 1 := wrap64_id (by omega) (by omega)
      have w2 : w64 (k + 1 + 1) = k + 2 := by show IntKind.i64.wrap _ = _; rw [wrap64_id (by omega) (by omega)]; omega
      have w3 : w64 (k + 2 + 1) = k + 3 := by show IntKind.i64.wrap _ = _; rw [wrap64_id (by omega) (by omega)]; omega
      have w4 : w64 (k + 3 + 1) = k + 4 := by show IntKind.i64.wrap _ = _; rw [wrap64_id (by omega) (by omega)]; omega
      conv => lhs; rw [laws_markEntryS_L0_eq, laws_markEntryS_L1700002_eq, hlt, cond_true, markText_ok k (by omega)]
      simp only [Option.bind_some, k2, hlt, Bool.and_self, cond_true, Int.toNat_natCast, hset, hget]
      rw [laws_markEntryS_L1700004_eq, w1, laws_markEntryS_L1700005_eq]
      simp only [k2, hlt, Bool.and_self, cond_true, Int.toNat_natCast, hset, hget]
      rw [laws_markEntryS_L1700006_eq, w2, laws_markEntryS_L1700007_eq]
      simp only [k2, hlt, Bool.and_self, cond_true, Int.toNat_natCast, hset, hget]
      rw [laws_markEntryS_L1700008_eq, w3, laws_markEntryS_L1700009_eq, markText_ok (k + 3) (by omega)]
      simp only [Option.bind_some, k2, hlt, Bool.and_self, cond_true, Int.toNat_natCast, hset, hget]
      rw [laws_markEntryS_L1700010_eq, w4, laws_markEntryS_L1700011_eq]
      simp only [k2, hlt, Bool.and_self, cond_true, Int.toNat_natCast, hset, hget]
      rw [markStringS_ok e.2.2.2.2 (k + 4) (by omega) (by omega)]
      simp only [Option.bind_some, k3]
      have := ih (pre ++ [(mkT k, (k + 1, (k + 2, (mkT (k + 3), mkL (k + 4) e.2.2.2.2.length))))]) (k + 4 + (e.2.2.2.2.length : Int)) (by omega) (by omega) (by simp only [List.length_append, List.length_singleton]; omega)
      rw [show (pre ++ [(mkT k, (k + 1, (k + 2, (mkT (k + 3), mkL (k + 4) e.2.2.2.2.length))))]).length = pre.length + 1 by simp, List.append_assoc, List.singleton_append] at this
      rw [this, mkE, List.append_assoc, List.singleton_append]
      rw [show k + 4 + (e.2.2.2.2.length : Int) = k + ((4 + e.2.2.2.2.length : Nat) : Int) by omega]
      rw [show k + ((4 + e.2.2.2.2.length : Nat) : Int) + (cntE r : Int) = k + ((4 + e.2.2.2.2.length + cntE r : Nat) : Int) by omega]
  have := key a [] k h0 hk (by simpa using hl)
  simpa using this
theorem heldEntryS_ok (a : List DE) (k : Int) (h0 : 0 ≤ k) (hl : a.length ≤ 500000000) (hk : k + cntE a ≤ 1000000000) : laws_heldEntryS (mkE k a) k = some (k + (cntE a : Int), ()) := by
  rw [laws_heldEntryS_eq]
  have key : ∀ (r pre : List DE) (k : Int), 0 ≤ k → k + cntE r ≤ 1000000000 → pre.length + r.length ≤ 500000000 → laws_heldEntryS_L0 (pre ++ mkE k r) k (pre.length : Int) = some (k + (cntE r : Int), ()) := by
    intro r
    induction r with
    | nil =>
      intro pre k h0 hk hp
      rw [laws_heldEntryS_L0_eq]
      have k1 : decide ((pre.length : Int) < ((pre ++ mkE k []).length : Int)) = false := decide_eq_false (by simp [mkE])
      simp only [k1, cond_false]
      simp [cntE]
    | cons e r ih =>
      intro pre k h0 hk hp
      have hc : cntE (e :: r) = 4 + e.2.2.2.2.length + cntE r := by simp [cntE]
      rw [hc] at hk ⊢
      simp only [List.length_cons] at hp
      rw [laws_heldEntryS_L0_eq]
      have k1 : decide ((pre.length : Int) < ((pre ++ mkE k (e :: r)).length : Int)) = true := decide_eq_true (by simp [mkE]; omega)
      have k2 : decide (0 ≤ (pre.length : Int)) = true := decide_eq_true (by omega)
      have k3 : w64 ((pre.length : Int) + 1) = ((pre.length + 1 : Nat) : Int) := wrap_succ (by omega)
      have hg : (pre ++ mkE k (e :: r)).getD pre.length (ByteArray.empty, 0, 0, ByteArray.empty, []) = (mkT k, (k + 1, (k + 2, (mkT (k + 3), mkL (k + 4) e.2.2.2.2.length)))) := by simp [List.getD_eq_getElem?_getD, mkE]
      have w1 : w64 (k + 1) = k + 1 := wrap64_id (by omega) (by omega)
      have w2 : w64 (k + 1 + 1) = k + 2 := by show IntKind.i64.wrap _ = _; rw [wrap64_id (by omega) (by omega)]; omega
      have w3 : w64 (k + 2 + 1) = k + 3 := by show IntKind.i64.wrap _ = _; rw [wrap64_id (by omega) (by omega)]; omega
      have w4 : w64 (k + 3 + 1) = k + 4 := by show IntKind.i64.wrap _ = _; rw [wrap64_id (by omega) (by omega)]; omega
      have hn : ¬ (k + 4 + (e.2.2.2.2.length : Int) < 0) := by omega
      simp only [k1, k2, k3, Bool.and_self, cond_true, Int.toNat_natCast, hg, markText_ok k (by omega), Option.bind_some, bytes_eq, decide_true, Bool.not_true, cond_false, w1, bne_self_eq_false, w2, w3, markText_ok (k + 3) (by omega), w4, heldStringS_ok e.2.2.2.2.length (k + 4) (by omega) (by omega), decide_eq_false hn]
      have e' : pre ++ mkE k (e :: r) = (pre ++ [(mkT k, (k + 1, (k + 2, (mkT (k + 3), mkL (k + 4) e.2.2.2.2.length))))]) ++ mkE (k + ((4 + e.2.2.2.2.length : Nat) : Int)) r := by simp [mkE]
      rw [e']
      have := ih (pre ++ [(mkT k, (k + 1, (k + 2, (mkT (k + 3), mkL (k + 4) e.2.2.2.2.length))))]) (k + ((4 + e.2.2.2.2.length : Nat) : Int)) (by omega) (by omega) (by simp only [List.length_append, List.length_singleton]; omega)
      rw [show (pre ++ [(mkT k, (k + 1, (k + 2, (mkT (k + 3), mkL (k + 4) e.2.2.2.2.length))))]).length = pre.length + 1 by simp] at this
      rw [show k + 4 + (e.2.2.2.2.length : Int) = k + ((4 + e.2.2.2.2.length : Nat) : Int) by omega]
      rw [this]
      rw [show k + ((4 + e.2.2.2.2.length : Nat) : Int) + (cntE r : Int) = k + ((4 + e.2.2.2.2.length + cntE r : Nat) : Int) by omega]
  have := key a [] k h0 hk (by simpa using hl)
  simpa using this
end Go.Den.S
