/- FcA: equations of the functions of this seat as the executor tells them, or plain facts about them. Conditions: none here. -/
import Derived.Test.YtkpdhadfnanagaaDoorFaE
set_option linter.all false
namespace Go.Den.S
open Go Go.Den
theorem bneI (a b : Int) : (a != b) = !decide (a = b) := by by_cases h : a = b <;> simp [h]
/-! ### draws -/
abbrev Cur : Type := List Int × Int × Int
/-- A cursor in order. -/
structure Cu (c : Cur) : Prop where
  len : c.1.length ≤ 1048576
  at0 : 0 ≤ c.2.1
  at1 : c.2.1 ≤ (c.1.length : Int)
theorem and255 (x : Int) : 0 ≤ w64 (andI .i64 x 255) ∧ w64 (andI .i64 x 255) ≤ 255 := by
  have h : andI .i64 x 255 = (((BitVec.ofInt 64 x).toNat &&& 255 : Nat) : Int) := by
    rw [andI_eq, BitVec.toNat_and]; rfl
  have h2 : (BitVec.ofInt 64 x).toNat &&& 255 ≤ 255 := Nat.and_le_right
  rw [h, show w64 _ = _ from wrap64_id (by omega) (by omega)]
  omega
theorem byte_ok {c : Cur} (h : Cu c) : ∃ (x : Int) (c' : Cur), spec_l01Byte c = some (x, (c', ())) ∧ 0 ≤ x ∧ x ≤ 255 ∧ Cu c' := by
  have h0 := h.at0
  have h1 := h.at1
  have hl := h.len
  rw [spec_l01Byte_eq]
  by_cases hi : c.2.1 < (c.1.length : Int)
  · simp only [decide_eq_true hi, decide_eq_true h0, Bool.and_self, cond_true]
    refine ⟨_, _, rfl, (and255 _).1, (and255 _).2, ⟨hl, ?_, ?_⟩⟩
    · show 0 ≤ w64 (c.2.1 + 1)
      rw [show w64 (c.2.1 + 1) = c.2.1 + 1 from wrap64_id (by omega) (by omega)]; omega
    · show w64 (c.2.1 + 1) ≤ (c.1.length : Int)
      rw [show w64 (c.2.1 + 1) = c.2.1 + 1 from wrap64_id (by omega) (by omega)]; omega
  · simp only [decide_eq_false hi, cond_false]
    exact ⟨_, _, rfl, (and255 _).1, (and255 _).2, ⟨hl, h0, h1⟩⟩
theorem tmod_in {x n : Int} (hx : 0 ≤ x) (hn : 1 ≤ n) : 0 ≤ Int.tmod x n ∧ Int.tmod x n < n := by
  rw [Int.tmod_eq_emod_of_nonneg hx]
  exact ⟨Int.emod_nonneg _ (by omega), Int.emod_lt_of_pos _ (by omega)⟩
theorem bneZ {n : Int} (h : 1 ≤ n) : (n != 0) = true := by rw [bneI, decide_eq_false (by omega)]; rfl
theorem below_ok {c : Cur} (h : Cu c) (n : Int) (h1 : 1 ≤ n) (h2 : n ≤ 1000000) : ∃ (x : Int) (c' : Cur), spec_l01Below c n = some (x, (c', ())) ∧ 0 ≤ x ∧ x < n ∧ Cu c' := by
  rw [spec_l01Below_eq]
  simp only [decide_eq_false (show ¬ n ≤ 0 by omega), cond_false, bneZ h1, cond_true]
  by_cases hn : n ≤ 256
  · obtain ⟨x, c1, e1, a1, b1, k1⟩ := byte_ok h
    simp only [decide_eq_true hn, cond_true, e1, Option.bind_some]
    exact ⟨_, _, rfl, (tmod_in a1 h1).1, (tmod_in a1 h1).2, k1⟩
  · obtain ⟨x, c1, e1, a1, b1, k1⟩ := byte_ok h
    obtain ⟨y, c2, e2, a2, b2, k2⟩ := byte_ok k1
    obtain ⟨z, c3, e3, a3, b3, k3⟩ := byte_ok k2
    obtain ⟨w, c4, e4, a4, b4, k4⟩ := byte_ok k3
    simp only [decide_eq_false hn, cond_false, e1, e2, e3, e4, Option.bind_some]
    have w1 : w64 (x * 16777216) = x * 16777216 := wrap64_id (by omega) (by omega)
    have w2 : w64 (y * 65536) = y * 65536 := wrap64_id (by omega) (by omega)
    have w3 : w64 (z * 256) = z * 256 := wrap64_id (by omega) (by omega)
    have w4 : w64 (x * 16777216 + y * 65536) = x * 16777216 + y * 65536 := wrap64_id (by omega) (by omega)
    have w5 : w64 (x * 16777216 + y * 65536 + z * 256) = x * 16777216 + y * 65536 + z * 256 := wrap64_id (by omega) (by omega)
    have w6 : w64 (x * 16777216 + y * 65536 + z * 256 + w) = x * 16777216 + y * 65536 + z * 256 + w := wrap64_id (by omega) (by omega)
    rw [w1, w2, w3, w4, w5, w6]
    exact ⟨_, _, rfl, (tmod_in (by omega) h1).1, (tmod_in (by omega) h1).2, k4⟩
theorem once_ok {c : Cur} (h : Cu c) (n : Int) (h1 : 1 ≤ n) (h2 : n ≤ 1000000) : ∃ (b : Bool) (c' : Cur), spec_l01Once c n = some (b, (c', ())) ∧ Cu c' := by
  obtain ⟨x, c1, e1, _, _, k1⟩ := below_ok h n h1 h2
  rw [spec_l01Once_eq, e1]
  exact ⟨_, _, rfl, k1⟩
theorem pick_ok {c : Cur} (h : Cu c) (l : List ByteArray) (h1 : 1 ≤ l.length) (h2 : l.length ≤ 1000) : ∃ (x : ByteArray) (c' : Cur), spec_l01Pick c l = some (x, (c', ())) ∧ x ∈ l ∧ Cu c' := by
  obtain ⟨x, c1, e1, a1, b1, k1⟩ := below_ok h (l.length : Int) (by omega) (by omega)
  rw [spec_l01Pick_eq, e1]
  simp only [Option.bind_some, decide_eq_true a1, decide_eq_true b1, Bool.and_self, cond_true]
  exact ⟨_, _, rfl, getD_mem (by omega), k1⟩
theorem new_loop (code : List Int) (hl : code.length ≤ 1048576) : ∀ (m i : Nat) (x : Int), m + i = code.length → ∃ c : Cur, spec_l01New_L0 code x (i : Int) = some (c, ()) ∧ Cu c ∧ c.1 = code
  | 0, i, x, hm => by
    rw [spec_l01New_L0_eq]
    simp only [decide_eq_false (show ¬ (i : Int) < (code.length : Int) by omega), cond_false]
    exact ⟨_, rfl, ⟨hl, Int.le_refl _, by show (0 : Int) ≤ (code.length : Int); omega⟩, rfl⟩
  | m + 1, i, x, hm => by
    rw [spec_l01New_L0_eq]
    simp only [decide_eq_true (show (i : Int) < (code.length : Int) by omega), cond_true]
    by_cases h4 : (i : Int) < 4000
    · simp only [decide_eq_true h4, cond_true, decide_eq_true (show (0 : Int) ≤ (i : Int) by omega), Bool.and_self, show w64 ((i : Int) + 1) = ((i + 1 : Nat) : Int) from wrap_succ (by omega)]
      exact new_loop code hl m (i + 1) _ (by omega)
    · simp only [decide_eq_false h4, cond_false]
      exact ⟨_, rfl, ⟨hl, Int.le_refl _, by show (0 : Int) ≤ (code.length : Int); omega⟩, rfl⟩
theorem new_ok (code : List Int) (hl : code.length ≤ 1048576) : ∃ c : Cur, spec_l01New code = some (c, ()) ∧ Cu c := by
  rw [spec_l01New_eq]
  obtain ⟨c, e, k, _⟩ := new_loop code hl code.length 0 (w64 (12701 + (code.length : Int))) (by omega)
  exact ⟨c, e, k⟩
/-! ### places -/
/-! ### what is compared -/
theorem sameTexts_ok (a b : List ByteArray) (ha : a.length ≤ 1000000000) : laws_sameTexts a b = some (decide (a = b), ()) := by
  rw [laws_sameTexts_eq]
  by_cases hl : a.length = b.length
  · have e : ((a.length : Int) != (b.length : Int)) = false := by simp [hl]
    simp only [e, cond_false]
    refine eq_loop (fun i => laws_sameTexts_L0 a b i) a b ByteArray.empty hl (fun i hi => ?_) ?_
    · rw [laws_sameTexts_L0_eq]
      have e : w64 ((i : Int) + 1) = (i : Int) + 1 := wrap64_id (by omega) (by omega)
      have h1 : decide ((i : Int) < (a.length : Int)) = true := decide_eq_true (by omega)
      have h2 : decide ((i : Int) < (b.length : Int)) = true := decide_eq_true (by omega)
      have h3 : decide (0 ≤ (i : Int)) = true := decide_eq_true (by omega)
      simp only [h1, h2, h3, e, Bool.and_self, cond_true, Int.toNat_natCast, bytes_eq]
      by_cases h : a.getD i ByteArray.empty = b.getD i ByteArray.empty <;> simp only [h, decide_true, decide_false, Bool.not_true, Bool.not_false, cond_true, cond_false, if_true, if_false]
    · rw [laws_sameTexts_L0_eq]
      simp
  · have e : ((a.length : Int) != (b.length : Int)) = true := by simp; omega
    simp only [e, cond_true]
    have : a ≠ b := fun h => hl (by rw [h])
    simp [this]
def wordsB : List ByteArray := [ByteArray.empty, c_1, c__7_2_8177, c_x, c_yy, c_hello, c_12, c_a_b]
theorem words_size : (wordsB.all fun s => decide (s.size ≤ 20)) = true := by decide +kernel
theorem word_ok {c : Cur} (h : Cu c) : ∃ (w : ByteArray) (c' : Cur), spec_l10Word c = some (w, (c', ())) ∧ w.size ≤ 20 ∧ Cu c' := by
  obtain ⟨w, c1, e, hm, k⟩ := pick_ok h wordsB (by decide) (by decide)
  have e : spec_l01Pick c [ByteArray.empty, c_1, c__7_2_8177, c_x, c_yy, c_hello, c_12, c_a_b] = some (w, (c1, ())) := e
  rw [spec_l10Word_eq, e]
  exact ⟨w, c1, rfl, of_decide_eq_true (List.all_eq_true.1 words_size w hm), k⟩
def okeys : List ByteArray := [c_a, c_b, c_c, c_d, c_key, c_kk]
theorem okeys_size : (okeys.all fun s => decide (1 ≤ s.size) && decide (s.size ≤ 20)) = true := by decide +kernel
/-! ### drawn commands -/
def AllS (l : List ByteArray) : Prop := ∀ s ∈ l, s.size ≤ 20
theorem AllS_nil : AllS [] := fun s h => by cases h
theorem AllS_cons {x : ByteArray} {l : List ByteArray} (h : x.size ≤ 20) (k : AllS l) : AllS (x :: l) := fun s hs => by
  rcases List.mem_cons.1 hs with rfl | hs
  · exact h
  · exact k s hs
theorem AllS_append {l r : List ByteArray} (h : AllS l) (k : AllS r) : AllS (l ++ r) := fun s hs => (List.mem_append.1 hs).elim (h s) (k s)
theorem AllS_take {l : List ByteArray} (h : AllS l) (n : Nat) : AllS (l.take n) := fun s hs => h s (List.mem_of_mem_take hs)
theorem AllS_drop {l : List ByteArray} (h : AllS l) (n : Nat) : AllS (l.drop n) := fun s hs => h s (List.mem_of_mem_drop hs)
theorem AllS_get {l : List ByteArray} (h : AllS l) (n : Nat) : (l.getD n ByteArray.empty).size ≤ 20 := by
  by_cases hn : n < l.length
  · exact h _ (getD_mem hn)
  · simp only [List.getD_eq_getElem?_getD]
    rw [List.getElem?_eq_none (by omega)]
    decide
def allB (l : List ByteArray) : Bool := l.all fun s => decide (s.size ≤ 20)
theorem AllS_of {l : List ByteArray} (h : allB l = true) : AllS l := fun s hs => of_decide_eq_true (List.all_eq_true.1 h s hs)
theorem cmds_S : AllS cmds := AllS_of (by decide +kernel)
/-- A row is drawn, of few short texts. -/
def Gd (b : Nat) (o : Option (List ByteArray × (Cur × Unit))) : Prop := ∃ (l : List ByteArray) (c : Cur), o = some (l, (c, ())) ∧ l.length ≤ b ∧ AllS l ∧ Cu c
theorem G_some {b : Nat} {l : List ByteArray} {c : Cur} (h1 : l.length ≤ b) (h2 : AllS l) (h3 : Cu c) : Gd b (some (l, (c, ()))) := ⟨l, c, rfl, h1, h2, h3⟩
theorem G_then {b : Nat} {p : Bool} {o : Option (List ByteArray × (Cur × Unit))} (hp : p = true) (h : Gd b o) : Gd b (bif p then o else none) := by rw [hp]; exact h
theorem G_bif {b : Nat} {p : Bool} {o q : Option (List ByteArray × (Cur × Unit))} (h : Gd b o) (k : Gd b q) : Gd b (bif p then o else q) := by cases p <;> assumption
theorem G_below {b : Nat} {c : Cur} {n : Int} {f : Int × (Cur × Unit) → Option (List ByteArray × (Cur × Unit))} (hc : Cu c) (h1 : 1 ≤ n) (h2 : n ≤ 1000000) (h : ∀ x c', 0 ≤ x → x < n → Cu c' → Gd b (f (x, (c', ())))) : Gd b ((spec_l01Below c n).bind f) := by
  obtain ⟨x, c1, e1, a1, b1, k1⟩ := below_ok hc n h1 h2
  rw [e1]; exact h x c1 a1 b1 k1
theorem G_once {b : Nat} {c : Cur} {n : Int} {f : Bool × (Cur × Unit) → Option (List ByteArray × (Cur × Unit))} (hc : Cu c) (h1 : 1 ≤ n) (h2 : n ≤ 1000000) (h : ∀ x c', Cu c' → Gd b (f (x, (c', ())))) : Gd b ((spec_l01Once c n).bind f) := by
  obtain ⟨x, c1, e1, k1⟩ := once_ok hc n h1 h2
  rw [e1]; exact h x c1 k1
theorem G_pick {b : Nat} {c : Cur} {l : List ByteArray} {f : ByteArray × (Cur × Unit) → Option (List ByteArray × (Cur × Unit))} (hc : Cu c) (h1 : 1 ≤ l.length) (h2 : l.length ≤ 1000) (hl : allB l = true) (h : ∀ x c', x.size ≤ 20 → Cu c' → Gd b (f (x, (c', ())))) : Gd b ((spec_l01Pick c l).bind f) := by
  obtain ⟨x, c1, e1, m1, k1⟩ := pick_ok hc l h1 h2
  rw [e1]; exact h x c1 (AllS_of hl x m1) k1
theorem G_word {b : Nat} {c : Cur} {f : ByteArray × (Cur × Unit) → Option (List ByteArray × (Cur × Unit))} (hc : Cu c) (h : ∀ x c', x.size ≤ 20 → Cu c' → Gd b (f (x, (c', ())))) : Gd b ((spec_l10Word c).bind f) := by
  obtain ⟨x, c1, e1, m1, k1⟩ := word_ok hc
  rw [e1]; exact h x c1 m1 k1
theorem key_ok {c : Cur} (h : Cu c) : ∃ (w : ByteArray) (c' : Cur), spec_l05Key c = some (w, (c', ())) ∧ w.size ≤ 20 ∧ Cu c' := by
  obtain ⟨w, c1, e, hm, k⟩ := pick_ok h okeys (by decide) (by decide)
  have e : spec_l01Pick c [c_a, c_b, c_c, c_d, c_key, c_kk] = some (w, (c1, ())) := e
  rw [spec_l05Key_eq, e]
  have := List.all_eq_true.1 okeys_size w hm
  simp only [Bool.and_eq_true, decide_eq_true_eq] at this
  exact ⟨w, c1, rfl, by omega, k⟩
theorem G_key {b : Nat} {c : Cur} {f : ByteArray × (Cur × Unit) → Option (List ByteArray × (Cur × Unit))} (hc : Cu c) (h : ∀ x c', x.size ≤ 20 → Cu c' → Gd b (f (x, (c', ())))) : Gd b ((spec_l05Key c).bind f) := by
  obtain ⟨x, c1, e1, m1, k1⟩ := key_ok hc
  rw [e1]; exact h x c1 m1 k1
theorem G_cmds {b : Nat} {f : List ByteArray × Unit → Option (List ByteArray × (Cur × Unit))} (h : Gd b (f (cmds, ()))) : Gd b ((spec_Commands).bind f) := by
  rw [spec_Commands_ok]; exact h
theorem G_dec {b : Nat} {n : Int} {f : ByteArray × Unit → Option (List ByteArray × (Cur × Unit))} (h0 : -9000000000000000000 ≤ n) (h1 : n ≤ 9000000000000000000) (h : (decB n).size ≤ 20 → Gd b (f (decB n, ()))) : Gd b ((spec_Decimal n).bind f) := by
  rw [spec_Decimal_ok n h0 h1]
  exact h (by have := decB_size n (by omega) (by omega); omega)
theorem w12 {x : Int} (h0 : 0 ≤ x) (h1 : x < 12) : -9000000000000000000 ≤ w64 (x - 4) ∧ w64 (x - 4) ≤ 9000000000000000000 := by
  rw [show w64 (x - 4) = x - 4 from wrap64_id (by omega) (by omega)]; omega
theorem conj_true {x : Int} {n : Int} (h0 : 0 ≤ x) (h1 : x < n) : (decide (0 ≤ x) && decide (x < n)) = true := by rw [decide_eq_true h0, decide_eq_true h1]; rfl
theorem cutg {l : List ByteArray} (h1 : 1 ≤ l.length) (h2 : l.length ≤ 1000000) : (decide ((0 : Int) ≤ 0) && (decide (0 ≤ w64 ((l.length : Int) - 1)) && decide (w64 ((l.length : Int) - 1) ≤ (l.length : Int)))) = true := by
  rw [show w64 ((l.length : Int) - 1) = (l.length : Int) - 1 from wrap64_id (by omega) (by omega), decide_eq_true (show 0 ≤ (l.length : Int) - 1 by omega), decide_eq_true (show (l.length : Int) - 1 ≤ (l.length : Int) by omega)]; rfl
theorem rest_L1 : ∀ (m i : Nat) (l : List ByteArray) (c : Cur), m + i = 2 → l.length ≤ 1 + i → AllS l → Cu c → Gd 4 (spec_l11Rest_L1 l (i : Int) c.1 c.2.1 c.2.2)
  | m, i, l, c, hm, hl, hs, hc => by
    obtain ⟨x, c1, e1, a1, b1, k1⟩ := below_ok hc 3 (by omega) (by omega)
    have e1 : spec_l01Below (c.1, (c.2.1, c.2.2)) 3 = some (x, (c1, ())) := e1
    rw [spec_l11Rest_L1_eq]
    simp only [e1, Option.bind_some]
    by_cases hi : (i : Int) < x
    · match m, hm with
      | 0, hm => omega
      | m + 1, hm =>
        simp only [decide_eq_true hi, cond_true]
        refine G_pick k1 (by decide) (by decide) (by decide +kernel) fun y c2 hy k2 => ?_
        refine G_then (lim_true (by omega)) ?_
        simp only [show w64 ((i : Int) + 1) = ((i + 1 : Nat) : Int) from wrap_succ (by omega)]
        exact rest_L1 m (i + 1) (l ++ [y]) c2 (by omega) (by simp; omega) (AllS_append hs (AllS_cons hy AllS_nil)) k2
    · simp only [decide_eq_false hi, cond_false]
      exact G_some (by omega) hs k1
theorem Rest_G {c : Cur} (hc : Cu c) (a1 : ByteArray) : Gd 4 (spec_l11Rest c a1) := by
  have loop : ∀ (y : ByteArray) (c' : Cur), y.size ≤ 20 → Cu c' → Gd 4 (spec_l11Rest_L1 [y] 0 c'.1 c'.2.1 c'.2.2) := fun y c' hy hc' => rest_L1 2 0 [y] c' rfl (by simp) (AllS_cons hy AllS_nil) hc'
  rw [spec_l11Rest_eq]
  refine G_pick hc (by decide) (by decide) (by decide +kernel) fun f c1 hf k1 => ?_
  refine G_below k1 (by decide) (by decide) fun x c2 x0 x1 k2 => ?_
  refine G_dec (w12 x0 x1).1 (w12 x0 x1).2 fun hd => ?_
  dsimp only
  have hW : Gd 4 ((spec_l10Word c2).bind fun r7 => some ([r7.1], (r7.2.1, ()))) := G_word k2 fun y c3 hy k3 => G_some (by simp) (AllS_cons hy AllS_nil) k3
  have hN : Gd 4 ((spec_l01Once c2 12).bind fun r7 =>
       bif r7.1
       then (spec_l01Pick r7.2.1 ([c_x, c_01, c_999999999999999, c__0_2_8170, c_100001])).bind fun r8 =>
        some ([r8.1], (r8.2.1, ()))
       else some ([decB (w64 (x - 4))], (r7.2.1, ()))) := G_once k2 (by decide) (by decide) fun y c3 k3 =>
    G_bif (G_pick k3 (by decide) (by decide) (by decide +kernel) fun z c4 hz k4 => G_some (by simp) (AllS_cons hz AllS_nil) k4) (G_some (by simp) (AllS_cons hd AllS_nil) k3)
  have hR : Gd 4 ((spec_l01Below c2 12).bind fun r7 =>
           (spec_Decimal (w64 (r7.1 - 4))).bind fun r8 =>
           some ([decB (w64 (x - 4)), r8.1], (r7.2.1, ()))) := G_below k2 (by decide) (by decide) fun y c3 y0 y1 k3 =>
    G_dec (w12 y0 y1).1 (w12 y0 y1).2 fun hy => G_some (by simp) (AllS_cons hd (AllS_cons hy AllS_nil)) k3
  have hH : Gd 4 ((spec_l10Word c2).bind fun r7 => some ([f, r7.1], (r7.2.1, ()))) := G_word k2 fun y c3 hy k3 => G_some (by simp) (AllS_cons hf (AllS_cons hy AllS_nil)) k3
  have hF : Gd 4 (some ([f], (c2, ()))) := G_some (by simp) (AllS_cons hf AllS_nil) k2
  have hL := loop f c2 hf k2
  have hE : Gd 4 (some ([], (c2, ()))) := G_some (by simp) AllS_nil k2
  exact G_bif hW (G_bif hW (G_bif hW (G_bif hW (G_bif hN (G_bif hN (G_bif hN (G_bif hN (G_bif hR (G_bif hH (G_bif hF (G_bif hF (G_bif hL (G_bif hL (G_bif hL (G_bif hL (G_bif hL hE))))))))))))))))
theorem G_rest {b : Nat} {c : Cur} {a : ByteArray} {f : List ByteArray × (Cur × Unit) → Option (List ByteArray × (Cur × Unit))} (hc : Cu c) (h : ∀ x c', x.length ≤ 4 → AllS x → Cu c' → Gd b (f (x, (c', ())))) : Gd b ((spec_l11Rest c a).bind f) := by
  obtain ⟨x, c1, e1, m1, m2, k1⟩ := Rest_G hc a
  rw [e1]; exact h x c1 m1 m2 k1
/-- How a command ends. -/
theorem args_end {l : List ByteArray} {c : Cur} (hc : Cu c) (h1 : 1 ≤ l.length) (hl : l.length ≤ 7) (hs : AllS l) : Gd 8 ((spec_l01Below c 20).bind fun r8 =>
    bif (r8.1 == 0)
    then bif (lim ((List.length l) + 1) 16)
     then some ((l ++ [c_x]), (r8.2.1, ()))
     else none
    else bif (r8.1 == 1)
     then bif ((decide ((0 : Int) ≤ 0)) && ((decide (0 ≤ (w64 ((List.length l : Int) - 1)))) && (decide ((w64 ((List.length l : Int) - 1)) ≤ (List.length l : Int)))))
      then some ((List.take ((Int.toNat (w64 ((List.length l : Int) - 1))) - (Int.toNat 0)) (List.drop (Int.toNat 0) l)), (r8.2.1, ()))
      else none
     else some (l, (r8.2.1, ()))) := by
  refine G_below hc (by decide) (by decide) fun x c1 x0 x1 k1 => ?_
  dsimp only
  refine G_bif (G_then (lim_true (by omega)) (G_some (by simp; omega) (AllS_append hs (AllS_cons (by decide) AllS_nil)) k1)) (G_bif (G_then (cutg h1 (by omega)) (G_some ?_ (AllS_take (AllS_drop hs _) _) k1)) (G_some (by omega) hs k1))
  simp only [List.length_take, List.length_drop]; omega
theorem args_L1 : ∀ (m i : Nat) (l : List ByteArray) (c : Cur), m + i = 3 → l.length ≤ 1 + i → 1 ≤ l.length → AllS l → Cu c → Gd 8 (spec_l11Args_L1 l (i : Int) c.1 c.2.1 c.2.2)
  | m, i, l, c, hm, hl, hl1, hs, hc => by
    obtain ⟨x, c1, e1, a1, b1, k1⟩ := below_ok hc 3 (by omega) (by omega)
    have e1 : spec_l01Below (c.1, (c.2.1, c.2.2)) 3 = some (x, (c1, ())) := e1
    have w1 : w64 (1 + x) = 1 + x := wrap64_id (by omega) (by omega)
    rw [spec_l11Args_L1_eq]
    simp only [e1, Option.bind_some, w1]
    by_cases hi : (i : Int) < 1 + x
    · match m, hm with
      | 0, hm => omega
      | m + 1, hm =>
        simp only [decide_eq_true hi, cond_true]
        refine G_key k1 fun y c2 hy k2 => ?_
        refine G_then (lim_true (by omega)) ?_
        simp only [show w64 ((i : Int) + 1) = ((i + 1 : Nat) : Int) from wrap_succ (by omega)]
        exact args_L1 m (i + 1) (l ++ [y]) c2 (by omega) (by simp; omega) (by simp) (AllS_append hs (AllS_cons hy AllS_nil)) k2
    · simp only [decide_eq_false hi, cond_false]
      exact args_end k1 hl1 (by omega) hs
theorem args_L3 : ∀ (m i : Nat) (l : List ByteArray) (c : Cur), m + i = 3 → l.length ≤ 1 + 2 * i → 1 ≤ l.length → AllS l → Cu c → Gd 8 (spec_l11Args_L3 l (i : Int) c.1 c.2.1 c.2.2)
  | m, i, l, c, hm, hl, hl1, hs, hc => by
    obtain ⟨x, c1, e1, a1, b1, k1⟩ := below_ok hc 3 (by omega) (by omega)
    have e1 : spec_l01Below (c.1, (c.2.1, c.2.2)) 3 = some (x, (c1, ())) := e1
    have w1 : w64 (1 + x) = 1 + x := wrap64_id (by omega) (by omega)
    rw [spec_l11Args_L3_eq]
    simp only [e1, Option.bind_some, w1]
    by_cases hi : (i : Int) < 1 + x
    · match m, hm with
      | 0, hm => omega
      | m + 1, hm =>
        simp only [decide_eq_true hi, cond_true]
        refine G_key k1 fun y c2 hy k2 => ?_
        refine G_word k2 fun z c3 hz k3 => ?_
        refine G_then (lim_true (by omega)) ?_
        simp only [show w64 ((i : Int) + 1) = ((i + 1 : Nat) : Int) from wrap_succ (by omega)]
        exact args_L3 m (i + 1) (l ++ [y, z]) c3 (by omega) (by simp; omega) (by simp) (AllS_append hs (AllS_cons hy (AllS_cons hz AllS_nil))) k3
    · simp only [decide_eq_false hi, cond_false]
      exact args_end k1 hl1 (by omega) hs
/-- A drawn command, its name told. -/
theorem args_by {n : ByteArray} {l : List ByteArray} (hn : n.size ≤ 20) (hl : l.length = 1) (hs : AllS l) {c : Cur} (hc : Cu c) : Gd 8
    (bif ((ByteArray.toList n) == (ByteArray.toList c_MGET)) then spec_l11Args_L1 l 0 c.1 c.2.1 c.2.2
     else bif ((ByteArray.toList n) == (ByteArray.toList c_DEL)) then spec_l11Args_L1 l 0 c.1 c.2.1 c.2.2
     else bif ((ByteArray.toList n) == (ByteArray.toList c_EXISTS)) then spec_l11Args_L1 l 0 c.1 c.2.1 c.2.2
     else bif ((ByteArray.toList n) == (ByteArray.toList c_MSET)) then spec_l11Args_L3 l 0 c.1 c.2.1 c.2.2
     else (spec_l05Key c).bind fun r9 =>
      bif (lim ((1 : Nat) + 1) 16)
      then (spec_l11Rest r9.2.1 n).bind fun r10 =>
       bif (lim (2 + (List.length r10.1)) 16)
       then (spec_l01Below r10.2.1 20).bind fun r8 =>
          bif (r8.1 == 0)
          then bif (lim ((List.length ((l ++ [r9.1]) ++ r10.1)) + 1) 16)
           then some ((((l ++ [r9.1]) ++ r10.1) ++ [c_x]), (r8.2.1, ()))
           else none
          else bif (r8.1 == 1)
           then bif ((decide ((0 : Int) ≤ 0)) && ((decide (0 ≤ (w64 ((List.length ((l ++ [r9.1]) ++ r10.1) : Int) - 1)))) && (decide ((w64 ((List.length ((l ++ [r9.1]) ++ r10.1) : Int) - 1)) ≤ (List.length ((l ++ [r9.1]) ++ r10.1) : Int)))))
            then some ((List.take ((Int.toNat (w64 ((List.length ((l ++ [r9.1]) ++ r10.1) : Int) - 1))) - (Int.toNat 0)) (List.drop (Int.toNat 0) ((l ++ [r9.1]) ++ r10.1))), (r8.2.1, ()))
            else none
           else some (((l ++ [r9.1]) ++ r10.1), (r8.2.1, ()))
       else none
      else none) := by
  have a1 := args_L1 3 0 l c rfl (by omega) (by omega) hs hc
  have a3 := args_L3 3 0 l c rfl (by omega) (by omega) hs hc
  refine G_bif a1 (G_bif a1 (G_bif a1 (G_bif a3 ?_)))
  refine G_key hc fun y c1 hy k1 => ?_
  refine G_then (lim_true (by omega)) ?_
  refine G_rest k1 fun r c2 hr hrs k2 => ?_
  refine G_then (lim_true (by dsimp only; omega)) ?_
  exact args_end k2 (by simp; omega) (by simp; omega) (AllS_append (AllS_append hs (AllS_cons hy AllS_nil)) hrs)
/-- The short commands' ends. -/
theorem args_short {l : List ByteArray} {n : Nat} (hn : n = l.length) (h1 : 1 ≤ n) (hl : n ≤ 7) (hs : AllS l) {c : Cur} (hc : Cu c) : Gd 8 ((spec_l01Below c 20).bind fun r9 =>
      bif (r9.1 == 0)
      then bif (lim (n + 1) 16)
       then some ((l ++ [c_x]), (r9.2.1, ()))
       else none
      else bif (r9.1 == 1)
       then some ((List.take ((Int.toNat (w64 (((n : Nat) : Int) - 1))) - (Int.toNat 0)) (List.drop (Int.toNat 0) l)), (r9.2.1, ()))
       else some (l, (r9.2.1, ()))) := by
  refine G_below hc (by decide) (by decide) fun x c1 x0 x1 k1 => ?_
  dsimp only
  refine G_bif (G_then (lim_true (by omega)) (G_some (by simp; omega) (AllS_append hs (AllS_cons (by decide) AllS_nil)) k1)) (G_bif (G_some ?_ (AllS_take (AllS_drop hs _) _) k1) (G_some (by omega) hs k1))
  simp only [List.length_take, List.length_drop]; omega
theorem Args_G {c : Cur} (hc : Cu c) : Gd 8 (spec_l11Args c) := by
  have end1 : ∀ (n x : ByteArray) (c' : Cur), n.size ≤ 20 → x.size ≤ 20 → Cu c' → Gd 8 ((spec_l10Word c').bind fun r9 =>
          bif (lim ((1 : Nat) + 1) 16)
          then (spec_l01Below r9.2.1 20).bind fun r10 =>
           bif (r10.1 == 0)
           then bif (lim ((2 : Nat) + 1) 16)
            then some ((([x] ++ [r9.1]) ++ [c_x]), (r10.2.1, ()))
            else none
           else bif (r10.1 == 1)
            then some ((List.take ((Int.toNat (w64 (((2 : Nat) : Int) - 1))) - (Int.toNat 0)) (List.drop (Int.toNat 0) ([x] ++ [r9.1]))), (r10.2.1, ()))
            else some (([x] ++ [r9.1]), (r10.2.1, ()))
          else none) := fun n x c' hn hx hc' => by
    refine G_word hc' fun y c1 hy k1 => ?_
    refine G_then (lim_true (by omega)) ?_
    exact args_short (l := [x] ++ [y]) (n := 2) rfl (by omega) (by omega) (AllS_append (AllS_cons hx AllS_nil) (AllS_cons hy AllS_nil)) k1
  have one : ∀ (n x : ByteArray) (c' : Cur), n.size ≤ 20 → x.size ≤ 20 → Cu c' → Gd 8 ((spec_l01Below c' 20).bind fun r9 =>
      bif (r9.1 == 0)
      then bif (lim ((1 : Nat) + 1) 16)
       then some (([x] ++ [c_x]), (r9.2.1, ()))
       else none
      else bif (r9.1 == 1)
       then some ((List.take ((Int.toNat (w64 (((1 : Nat) : Int) - 1))) - (Int.toNat 0)) (List.drop (Int.toNat 0) [x])), (r9.2.1, ()))
       else some ([x], (r9.2.1, ()))) := fun n x c' hn hx hc' => args_short (l := [x]) (n := 1) rfl (by omega) (by omega) (AllS_cons hx AllS_nil) hc'
  have set1 : ∀ (y x : ByteArray), List.set [y] (Int.toNat 0) x = [x] := fun y x => rfl
  rw [spec_l11Args_eq]
  refine G_cmds ?_
  refine G_below hc (by decide) (by decide) fun x c1 x0 x1 k1 => ?_
  refine G_then (conj_true x0 x1) ?_
  have hname := AllS_get cmds_S (Int.toNat x)
  refine G_once k1 (by decide) (by decide) fun b c2 k2 => ?_
  refine G_bif ?_ ?_
  · refine G_pick k2 (by decide) (by decide) (by decide +kernel) fun n c3 hn k3 => ?_
    refine G_once k3 (by decide) (by decide) fun b2 c4 k4 => ?_
    refine G_bif ?_ ?_
    · refine G_pick k4 (by decide) (by decide) (by decide +kernel) fun y c5 hy k5 => ?_
      simp only [set1]
      exact G_bif (one n y c5 hn hy k5) (G_bif (one n y c5 hn hy k5) (G_bif (one n y c5 hn hy k5) (G_bif (one n y c5 hn hy k5) (G_bif (end1 n y c5 hn hy k5) (args_by hn rfl (AllS_cons hy AllS_nil) k5)))))
    · exact G_bif (one n n c4 hn hn k4) (G_bif (one n n c4 hn hn k4) (G_bif (one n n c4 hn hn k4) (G_bif (one n n c4 hn hn k4) (G_bif (end1 n n c4 hn hn k4) (args_by hn rfl (AllS_cons hn AllS_nil) k4)))))
  · generalize hN : List.getD cmds (Int.toNat x) ByteArray.empty = n at hname
    dsimp only
    refine G_once k2 (by decide) (by decide) fun b2 c4 k4 => ?_
    refine G_bif ?_ ?_
    · refine G_pick k4 (by decide) (by decide) (by decide +kernel) fun y c5 hy k5 => ?_
      simp only [set1]
      exact G_bif (one n y c5 hname hy k5) (G_bif (one n y c5 hname hy k5) (G_bif (one n y c5 hname hy k5) (G_bif (one n y c5 hname hy k5) (G_bif (end1 n y c5 hname hy k5) (args_by hname rfl (AllS_cons hy AllS_nil) k5)))))
    · exact G_bif (one n n c4 hname hname k4) (G_bif (one n n c4 hname hname k4) (G_bif (one n n c4 hname hname k4) (G_bif (one n n c4 hname hname k4) (G_bif (end1 n n c4 hname hname k4) (args_by hname rfl (AllS_cons hname AllS_nil) k4)))))
end Go.Den.S
