/- PuMark: equations of the functions of this seat as the executor tells them, or plain facts about them. Conditions: none here. -/
import Derived.Test.YtkpdhadfnanagaaDoorPuFam
set_option linter.all false
namespace Go.Den.S
open Go Go.Den
/-! ### marks -/
theorem markText_loop : ∀ (n : Nat) (x : Int) (s : ByteArray), 0 ≤ x → x < 10 ^ n → x ≤ 9223372036854775807 → s.size + n ≤ 1000000 → ∃ r, laws_markText_L0 x s = some (r, ())
  | 0, x, s, h0, h1, hx, hs => by
    rw [laws_markText_L0_eq]
    have : ¬ x > 0 := by simp at h1; omega
    have e1 : (c_m : ByteArray).size = 1 := rfl
    simp only [decide_eq_false this, cond_false, limS_true (show c_m.size + s.size ≤ 9223372036854775807 by omega), cond_true]
    exact ⟨_, rfl⟩
  | n + 1, x, s, h0, h1, hx, hs => by
    rw [laws_markText_L0_eq]
    by_cases h : x > 0
    · have hd : w64 (Int.tdiv x 10) = x / 10 := by
        show IntKind.i64.wrap _ = _
        rw [Int.tdiv_eq_ediv_of_nonneg h0, wrap64_id (by omega) (by omega)]
      have e1 : ∀ (b : UInt8), (⟨List.toArray [b]⟩ : ByteArray).size = 1 := fun _ => rfl
      simp only [decide_eq_true h, cond_true, List.map_cons, List.map_nil, e1, limS_true (show 1 + s.size ≤ 9223372036854775807 by omega), hd]
      refine markText_loop n (x / 10) _ (by omega) ?_ (by omega) ?_
      · rw [Int.pow_succ] at h1; omega
      · rw [ByteArray.size_append, e1]; omega
    · have e1 : (c_m : ByteArray).size = 1 := rfl
      simp only [decide_eq_false h, cond_false, limS_true (show c_m.size + s.size ≤ 9223372036854775807 by omega), cond_true]
      exact ⟨_, rfl⟩
theorem markText_some (k : Int) (h : k ≤ 9223372036854775807) : ∃ r, laws_markText k = some (r, ()) := by
  rw [laws_markText_eq]
  by_cases h0 : k ≤ 0
  · exact ⟨_, by simp only [decide_eq_true h0, cond_true]; rfl⟩
  · simp only [decide_eq_false h0, cond_false]
    exact markText_loop 19 k _ (by omega) (by omega) h (by decide)
/-- A mark's text. -/
noncomputable def mkT (k : Int) : ByteArray := ((laws_markText k).getD (ByteArray.empty, ())).1
theorem markText_ok (k : Int) (h : k ≤ 9223372036854775807) : laws_markText k = some (mkT k, ()) := by
  obtain ⟨r, hr⟩ := markText_some k h
  unfold mkT
  rw [hr]; rfl
/-- A row's marks. -/
noncomputable def mkL (k : Int) : Nat → List ByteArray
  | 0 => []
  | n + 1 => mkT k :: mkL (k + 1) n
theorem mkL_len : ∀ (n : Nat) (k : Int), (mkL k n).length = n
  | 0, _ => rfl
  | n + 1, k => by simp [mkL, mkL_len n]
theorem mkL_get : ∀ (n : Nat) (k : Int) (i : Nat), i < n → (mkL k n)[i]? = some (mkT (k + i))
  | n + 1, k, 0, _ => by simp [mkL]
  | n + 1, k, i + 1, h => by
    simp only [mkL, List.getElem?_cons_succ]
    rw [mkL_get n (k + 1) i (by omega)]
    congr 2; omega
theorem markStringS_ok (a : List ByteArray) (k : Int) (h0 : 0 ≤ k) (hk : k + a.length ≤ 1000000000) : laws_markStringS a k = some (k + (a.length : Int), mkL k a.length, ()) := by
  rw [laws_markStringS_eq]
  have hF := fill_loop (fun out i => laws_markStringS_L0 (k + i) i out) (mkL k a.length) ByteArray.empty a (by rw [mkL_len]) fun out i hi hl => by
    rw [mkL_len] at hi hl
    show laws_markStringS_L0 (k + (i : Int)) (i : Int) out = laws_markStringS_L0 (k + ((i : Int) + 1)) ((i : Int) + 1) _
    rw [laws_markStringS_L0_eq]
    have k1 : decide ((i : Int) < (out.length : Int)) = true := decide_eq_true (by omega)
    have k2 : decide (0 ≤ (i : Int)) = true := decide_eq_true (by omega)
    have k3 : w64 ((i : Int) + 1) = (i : Int) + 1 := wrap64_id (by omega) (by omega)
    have k4 : w64 (k + (i : Int) + 1) = k + ((i : Int) + 1) := by show IntKind.i64.wrap _ = _; rw [wrap64_id (by omega) (by omega)]; omega
    simp only [k1, k2, k3, k4, Bool.and_self, cond_true, Int.toNat_natCast, markText_ok (k + (i : Int)) (by omega), Option.bind_some]
    congr 2
    rw [List.getD_eq_getElem?_getD, mkL_get _ _ _ hi]; rfl
  simp only [mkL_len, Int.add_zero] at hF
  rw [hF, laws_markStringS_L0_eq]
  have k1 : decide ((a.length : Int) < ((mkL k a.length).length : Int)) = false := decide_eq_false (by rw [mkL_len]; omega)
  simp only [k1, cond_false]
theorem heldStringS_ok (n : Nat) (k : Int) (h0 : 0 ≤ k) (hk : k + n ≤ 1000000000) : laws_heldStringS (mkL k n) k = some (k + (n : Int), ()) := by
  rw [laws_heldStringS_eq]
  have key := list_ind (mkL k n) ByteArray.empty (fun i r => laws_heldStringS_L0 (mkL k n) (k + (i : Int)) (i : Int) = some (k + (n : Int), ())) (by
    rw [mkL_len, laws_heldStringS_L0_eq]
    have k1 : decide ((n : Int) < ((mkL k n).length : Int)) = false := decide_eq_false (by rw [mkL_len]; omega)
    simp only [k1, cond_false]) (fun i x r hi hx hm ih => by
    rw [laws_heldStringS_L0_eq]
    have hi' : i < n := by rwa [mkL_len] at hi
    have k1 : decide ((i : Int) < ((mkL k n).length : Int)) = true := decide_eq_true (by rw [mkL_len]; omega)
    have k2 : decide (0 ≤ (i : Int)) = true := decide_eq_true (by omega)
    have k3 : w64 ((i : Int) + 1) = ((i + 1 : Nat) : Int) := wrap_succ (by omega)
    have k4 : w64 (k + (i : Int) + 1) = k + ((i + 1 : Nat) : Int) := by show IntKind.i64.wrap _ = _; rw [wrap64_id (by omega) (by omega)]; omega
    have hx' : x = mkT (k + (i : Int)) := by
      rw [← hx, List.getD_eq_getElem?_getD, mkL_get _ _ _ hi']; rfl
    simp only [k1, k2, k3, k4, Bool.and_self, cond_true, Int.toNat_natCast, markText_ok (k + (i : Int)) (by omega), Option.bind_some, hx, bytes_eq, decide_eq_true hx', Bool.not_true, cond_false]
    exact ih)
  simpa using key
/-- How many texts. -/
def cntSS (q : List (List ByteArray)) : Nat := (q.map List.length).sum
noncomputable def mkSS (k : Int) : List (List ByteArray) → List (List ByteArray)
  | [] => []
  | l :: r => mkL k l.length :: mkSS (k + l.length) r
theorem markStringSS_ok (a : List (List ByteArray)) (k : Int) (h0 : 0 ≤ k) (hl : a.length ≤ 1000000000) (hk : k + cntSS a ≤ 1000000000) : laws_markStringSS a k = some (k + (cntSS a : Int), mkSS k a, ()) := by
  rw [laws_markStringSS_eq]
  have key : ∀ (r pre : List (List ByteArray)) (k : Int), 0 ≤ k → k + cntSS r ≤ 1000000000 → pre.length + r.length ≤ 1000000000 → laws_markStringSS_L0 k (pre.length : Int) (pre ++ r) = some (k + (cntSS r : Int), pre ++ mkSS k r, ()) := by
    intro r
    induction r with
    | nil =>
      intro pre k h0 hk hp
      rw [laws_markStringSS_L0_eq]
      have k1 : decide ((pre.length : Int) < ((pre ++ []).length : Int)) = false := decide_eq_false (by simp)
      simp only [k1, cond_false]
      simp [cntSS, mkSS]
    | cons l r ih =>
      intro pre k h0 hk hp
      have hc : cntSS (l :: r) = l.length + cntSS r := by simp [cntSS]
      rw [hc] at hk ⊢
      simp only [List.length_cons] at hp
      rw [laws_markStringSS_L0_eq]
      have k1 : decide ((pre.length : Int) < ((pre ++ l :: r).length : Int)) = true := decide_eq_true (by simp; omega)
      have k2 : decide (0 ≤ (pre.length : Int)) = true := decide_eq_true (by omega)
      have k3 : w64 ((pre.length : Int) + 1) = ((pre.length + 1 : Nat) : Int) := wrap_succ (by omega)
      have hg : (pre ++ l :: r).getD pre.length [] = l := by simp [List.getD_eq_getElem?_getD]
      simp only [k1, k2, k3, Bool.and_self, cond_true, Int.toNat_natCast, hg, markStringS_ok l k h0 (by omega), Option.bind_some]
      have hset : (pre ++ l :: r).set pre.length (mkL k l.length) = (pre ++ [mkL k l.length]) ++ r := by simp
      rw [hset]
      have := ih (pre ++ [mkL k l.length]) (k + (l.length : Int)) (by omega) (by omega) (by simp only [List.length_append, List.length_singleton]; omega)
      rw [show (pre ++ [mkL k l.length]).length = pre.length + 1 by simp] at this
      rw [this]
      simp only [mkSS, List.append_assoc, List.singleton_append]
      rw [show k + (l.length : Int) + (cntSS r : Int) = k + ((l.length + cntSS r : Nat) : Int) by omega]
  have := key a [] k h0 hk (by simpa using hl)
  simpa using this
theorem heldStringSS_ok (a : List (List ByteArray)) (k : Int) (h0 : 0 ≤ k) (hl : a.length ≤ 1000000000) (hk : k + cntSS a ≤ 1000000000) : laws_heldStringSS (mkSS k a) k = some (k + (cntSS a : Int), ()) := by
  rw [laws_heldStringSS_eq]
  have key : ∀ (r : List (List ByteArray)) (pre : List (List ByteArray)) (k : Int), 0 ≤ k → k + cntSS r ≤ 1000000000 → pre.length + r.length ≤ 1000000000 → laws_heldStringSS_L0 (pre ++ mkSS k r) k (pre.length : Int) = some (k + (cntSS r : Int), ()) := by
    intro r
    induction r with
    | nil =>
      intro pre k h0 hk hp
      rw [laws_heldStringSS_L0_eq]
      have k1 : decide ((pre.length : Int) < ((pre ++ mkSS k []).length : Int)) = false := decide_eq_false (by simp [mkSS])
      simp only [k1, cond_false]
      simp [cntSS]
    | cons l r ih =>
      intro pre k h0 hk hp
      have hc : cntSS (l :: r) = l.length + cntSS r := by simp [cntSS]
      rw [hc] at hk ⊢
      simp only [List.length_cons] at hp
      rw [laws_heldStringSS_L0_eq]
      have k1 : decide ((pre.length : Int) < ((pre ++ mkSS k (l :: r)).length : Int)) = true := decide_eq_true (by simp [mkSS]; omega)
      have k2 : decide (0 ≤ (pre.length : Int)) = true := decide_eq_true (by omega)
      have k3 : w64 ((pre.length : Int) + 1) = ((pre.length + 1 : Nat) : Int) := wrap_succ (by omega)
      have hg : (pre ++ mkSS k (l :: r)).getD pre.length [] = mkL k l.length := by simp [List.getD_eq_getElem?_getD, mkSS]
      have hn : ¬ (k + (l.length : Int) < 0) := by omega
      simp only [k1, k2, k3, Bool.and_self, cond_true, Int.toNat_natCast, hg, heldStringS_ok l.length k h0 (by omega), Option.bind_some, decide_eq_false hn, cond_false]
      have e : pre ++ mkSS k (l :: r) = (pre ++ [mkL k l.length]) ++ mkSS (k + (l.length : Int)) r := by simp [mkSS]
      rw [e]
      have := ih (pre ++ [mkL k l.length]) (k + (l.length : Int)) (by omega) (by omega) (by simp only [List.length_append, List.length_singleton]; omega)
      rw [show (pre ++ [mkL k l.length]).length = pre.length + 1 by simp] at this
      rw [this]
      rw [show k + (l.length : Int) + (cntSS r : Int) = k + ((l.length + cntSS r : Nat) : Int) by omega]
  have := key a [] k h0 hk (by simpa using hl)
  simpa using this
end Go.Den.S
