/- FaC: equations of the functions of this seat as the executor tells them, or plain facts about them. Conditions: none here. -/
import Derived.Test.YtkpdhadfnanagaaDoorFaB
set_option linter.all false
namespace Go.Den.S
open Go Go.Den
/-! ### words of a line -/
/-- The first place of a byte, or the end. -/
def fL (l : List UInt8) (c : UInt8) : Nat := match l with | [] => 0 | x :: r => if x = c then 0 else fL r c + 1
theorem fL_le (l : List UInt8) (c : UInt8) : fL l c ≤ l.length := by
  induction l with
  | nil => exact Nat.le_refl _
  | cons x r ih => unfold fL; split <;> simp <;> omega
theorem index_fL (c : UInt8) (l : List UInt8) : Lib.index l [c] = if fL l c = l.length then -1 else (fL l c : Int) := by
  rw [Lib.index_one]
  induction l with
  | nil => rfl
  | cons x r ih =>
    have := fL_le r c
    unfold Lib.indexByte fL
    rw [ih]
    by_cases h : x = c
    · simp [h]
    · simp only [beq_iff_eq, h, if_false, List.length_cons]
      grind
/-- What stands between blanks. -/
def sp : List UInt8 → List (List UInt8)
  | [] => [[]]
  | c :: r => if c = 32 then [] :: sp r else match sp r with | [] => [[c]] | h :: t => (c :: h) :: t
theorem sp_is (l : List UInt8) : sp l = if fL l 32 = l.length then [l] else l.take (fL l 32) :: sp (l.drop (fL l 32 + 1)) := by
  induction l with
  | nil => rfl
  | cons c r ih =>
    have := fL_le r 32
    by_cases h : c = 32
    · simp [sp, fL, h]
    · rw [sp, if_neg h, ih]
      simp only [fL, h, if_false, List.length_cons, Nat.add_right_cancel_iff, List.take_succ_cons, List.drop_succ_cons]
      grind
theorem split_sp (f : Nat) : ∀ l : List UInt8, l.length < f → Lib.splitK [32] 0 (Lib.countFrom [32] f l) l = sp l := by
  induction f with
  | zero => intro l h; omega
  | succ f ih =>
    intro l h
    have h1 := fL_le l 32
    have h2 := index_fL 32 l
    have h3 := sp_is l
    unfold Lib.countFrom
    by_cases hc : fL l 32 = l.length
    · rw [h2, if_pos hc]
      rw [if_pos hc] at h3
      rw [h3]; rfl
    · rw [if_neg hc] at h2 h3
      rw [h2, h3]
      have hne : (((fL l 32 : Nat) : Int) == -1) = false := by rw [beq_eq_false_iff_ne]; omega
      rw [hne]
      simp only [Bool.false_eq_true, if_false, Int.toNat_natCast, List.length_singleton, Nat.add_comm 1]
      unfold Lib.splitK
      rw [h2, hne]
      simp only [Bool.false_eq_true, if_false, Int.toNat_natCast, List.length_singleton, Nat.add_zero]
      rw [ih _ (by rw [List.length_drop]; omega)]
theorem map_mkB {a : List ByteArray} {b : List (List UInt8)} (h : a.map (·.data.toList) = b) : a = b.map mkB := by
  rw [← h, List.map_map]
  conv => lhs; rw [← List.map_id a]
  exact List.map_congr_left fun s _ => (mkB_self s).symm
theorem split_is (s : ByteArray) (sep : ByteArray) (h : sep.data.toList = [32]) : Lib.splitB sep 0 (Lib.countB s sep) s = (sp s.data.toList).map mkB := by
  refine map_mkB ?_
  rw [Lib.splitB_data, h]
  show Lib.splitK [32] 0 (Lib.count s.data.toList sep.data.toList) _ = _
  rw [h]
  exact split_sp _ _ (Nat.lt_succ_self _)
/-- The words. -/
def ws (l : List UInt8) : List (List UInt8) := (sp l).filter fun w => !w.isEmpty
def wdR (out W : List ByteArray) (e : Int) : List ByteArray × Int × Int := if (∃ w ∈ W, 60 < w.size) ∨ 8 < out.length + W.length then ([], 0, 2) else (out ++ W, e + 1, 1)
def trimR (l : List UInt8) : List UInt8 := Lib.trimSuffix l [13]
theorem trim_is (l : List UInt8) : trimR l = if 0 < l.length ∧ l.getD (l.length - 1) 0 = 13 then l.take (l.length - 1) else l := by
  unfold trimR Lib.trimSuffix Lib.hasSuffix
  have : List.isSuffixOf [13] l = decide (0 < l.length ∧ l.getD (l.length - 1) 0 = 13) := by
    rw [Bool.eq_iff_iff, decide_eq_true_eq, List.isSuffixOf_iff_suffix]
    constructor
    · rintro ⟨t, rfl⟩
      simp
    · rintro ⟨h1, h2⟩
      refine ⟨l.take (l.length - 1), ?_⟩
      rw [List.getD_eq_getElem?_getD, List.getElem?_eq_getElem (by omega)] at h2
      have h2 : l[l.length - 1] = 13 := h2
      rw [← h2]
      have := List.take_append_getElem (l := l) (i := l.length - 1) (by omega)
      rw [this, show l.length - 1 + 1 = l.length by omega, List.take_length]
  rw [this]
  simp only [decide_eq_true_eq, List.length_singleton]
def lineP (s : ByteArray) : List ByteArray × Int × Int :=
  let l := s.data.toList
  if 80 < fL l 10 then ([], 0, 2) else if fL l 10 = l.length then ([], 0, 0) else wdR [] ((ws (trimR (l.take (fL l 10)))).map mkB) (fL l 10)
/-! ### the program's line -/
theorem size_len (s : ByteArray) : s.data.toList.length = s.size := Array.length_toList
theorem lineQ_loop (x5 : ByteArray) (h5 : x5.size ≤ 1000000) (L : List ByteArray) (hL : L.length ≤ 1000001) : ∀ (r : List ByteArray) (i : Nat) (acc : List ByteArray), L.drop i = r → i + r.length = L.length → acc.length ≤ i →
    impl_lineRequest_L0 x5 acc L (L.length : Int) (i : Int) = some (wdR acc (r.filter fun w => !decide (w = ByteArray.empty)) (x5.size : Int), ())
  | [], i, acc, hd, hl, ha => by
    rw [impl_lineRequest_L0_eq]
    have e : w64 ((x5.size : Int) + 1) = (x5.size : Int) + 1 := w64_id (by omega) (by omega)
    simp only [e, wdR]
    simp
    grind
  | w :: r, i, acc, hd, hl, ha => by
    rw [impl_lineRequest_L0_eq]
    rw [List.length_cons] at hl
    have e1 : w64 ((i : Int) + 1) = ((i + 1 : Nat) : Int) := wrap_succ (by omega)
    have hg : L.getD i ByteArray.empty = w := by
      have := congrArg (·.head?) hd
      simp only [List.head?_drop, List.head?_cons] at this
      rw [List.getD_eq_getElem?_getD, this]; rfl
    have hd' : L.drop (i + 1) = r := by rw [← List.drop_drop, hd]; rfl
    have ih1 := lineQ_loop x5 h5 L hL r (i + 1) acc hd' (by omega) (by omega)
    have ih2 := lineQ_loop x5 h5 L hL r (i + 1) (acc ++ [w]) hd' (by omega) (by simp; omega)
    simp only [e1, Int.toNat_natCast, hg, bytes_eq]
    rw [decT (show (i : Int) < (L.length : Int) by omega), decT (show (0 : Int) ≤ (i : Int) by omega), lim_true (show (acc.length + 1) * 16 ≤ 140737488355328 by omega), ih1, ih2]
    simp only [Bool.and_self, cond_true]
    by_cases h6 : (w.size : Int) > 60
    · rw [decT h6]
      have hne : ¬ w = ByteArray.empty := by rintro rfl; exact absurd h6 (by decide)
      simp only [cond_true, wdR, List.filter_cons, decF hne]
      simp only [Bool.not_false, if_true]
      rw [if_pos (.inl ⟨w, List.mem_cons_self .., by omega⟩)]
    · rw [decF h6]
      by_cases hne : w = ByteArray.empty
      · simp [hne]
      · simp only [decF hne, List.filter_cons, Bool.not_false, cond_true, cond_false, if_true, wdR]
        simp
        grind
theorem cut_is (s : ByteArray) : Lib.cut s.data.toList [10] = (s.data.toList.take (fL s.data.toList 10), if fL s.data.toList 10 = s.data.toList.length then [] else s.data.toList.drop (fL s.data.toList 10 + 1), decide (fL s.data.toList 10 ≠ s.data.toList.length)) := by
  unfold Lib.cut
  have := fL_le s.data.toList 10
  rw [index_fL]
  by_cases h : fL s.data.toList 10 = s.data.toList.length
  · rw [if_pos h, if_neg (by omega), if_pos h, decF (by simp [h]), h, List.take_length]
  · rw [if_neg h, if_pos (by omega), if_neg h, decT h]
    simp
theorem filter_mk (W : List (List UInt8)) : (W.map mkB).filter (fun w => !decide (w = ByteArray.empty)) = (W.filter fun w => !w.isEmpty).map mkB := by
  rw [List.filter_map]
  congr 1
  refine List.filter_congr fun w _ => ?_
  show (!decide (mkB w = ByteArray.empty)) = _
  have : mkB w = ByteArray.empty ↔ w = [] := ⟨fun h => by rw [← mkB_data w, h]; rfl, fun h => by rw [h]; rfl⟩
  rw [show decide (mkB w = ByteArray.empty) = decide (w = []) from decide_eq_decide.2 this]
  cases w <;> simp
theorem sp_len (l : List UInt8) : (sp l).length ≤ l.length + 1 := by
  induction l with
  | nil => simp [sp]
  | cons c r ih => unfold sp; grind
theorem impl_line_ok (s : ByteArray) (hs : s.size ≤ 1000000) : impl_lineRequest s = some (lineP s, ()) := by
  rw [impl_lineRequest_eq, strings_Cut_eq]
  have hlen := size_len s
  have hle := fL_le s.data.toList 10
  unfold strings_CutF lineP
  rw [decT (show s.size < 4294967281 by omega)]
  simp only [cond_true, Option.bind_some, show (c___1_227 : ByteArray).data.toList = [10] from rfl, cut_is]
  have e1 : (⟨(s.data.toList.take (fL s.data.toList 10)).toArray⟩ : ByteArray) = mkB (s.data.toList.take (fL s.data.toList 10)) := rfl
  have e2 : (mkB (s.data.toList.take (fL s.data.toList 10))).size = fL s.data.toList 10 := by rw [mkB_size, List.length_take]; omega
  simp only [e1, e2, strings_TrimSuffix_eq, strings_Split_eq]
  unfold strings_TrimSuffixF strings_SplitF
  rw [decT (show (mkB (s.data.toList.take (fL s.data.toList 10))).size ≤ 9223372036854775807 by omega)]
  simp only [cond_true, Option.bind_some, mkB_data, show (c___1_230 : ByteArray).data.toList = [13] from rfl]
  have e3 : Lib.trimSuffix (s.data.toList.take (fL s.data.toList 10)) [13] = trimR (s.data.toList.take (fL s.data.toList 10)) := rfl
  rw [e3]
  have e4 : (trimR (s.data.toList.take (fL s.data.toList 10))).length ≤ s.size := by
    rw [trim_is]; split <;> simp <;> omega
  have e5 : (⟨(trimR (s.data.toList.take (fL s.data.toList 10))).toArray⟩ : ByteArray) = mkB (trimR (s.data.toList.take (fL s.data.toList 10))) := rfl
  simp only [e5]
  rw [decT (show (mkB (trimR (s.data.toList.take (fL s.data.toList 10)))).size < 4294967281 by rw [mkB_size]; omega), decT (show 1 ≤ (c__ : ByteArray).size by decide), split_is _ _ (show (c__ : ByteArray).data.toList = [32] from rfl), mkB_data]
  simp only [Bool.and_self, cond_true, Option.bind_some]
  have h6 := sp_len (trimR (s.data.toList.take (fL s.data.toList 10)))
  have := lineQ_loop (mkB (s.data.toList.take (fL s.data.toList 10))) (by omega) ((sp (trimR (s.data.toList.take (fL s.data.toList 10)))).map mkB) (by rw [List.length_map]; omega) _ 0 [] rfl (by simp) (by simp)
  rw [List.drop_zero, filter_mk, e2] at this
  rw [show ((0 : Nat) : Int) = 0 from rfl] at this
  rw [this]
  unfold ws
  by_cases h80 : 80 < fL s.data.toList 10
  · rw [decT (show ((fL s.data.toList 10 : Nat) : Int) > 80 by omega), if_pos h80]; rfl
  · rw [decF (show ¬ ((fL s.data.toList 10 : Nat) : Int) > 80 by omega), if_neg h80]
    by_cases hn : fL s.data.toList 10 = s.data.toList.length
    · rw [if_pos hn, decF (by simp [hn])]; rfl
    · rw [if_neg hn, decT hn]; rfl
/-! ### the reference's line -/
theorem wdR_nil (out : List ByteArray) (e : Int) (h : out.length ≤ 8) : wdR out [] e = (out, e + 1, 1) := by unfold wdR; simp; omega
theorem wdR_cons (out W : List ByteArray) (w : ByteArray) (e : Int) : wdR out (w :: W) e = if out.length = 8 ∨ 60 < w.size then wdR out (w :: W) e else wdR (out ++ [w]) W e := by
  unfold wdR
  simp
  grind
theorem wdR_bad (out W : List ByteArray) (w : ByteArray) (e : Int) (h : out.length = 8 ∨ 60 < w.size) : wdR out (w :: W) e = ([], 0, 2) := by
  unfold wdR
  rw [if_pos]
  rcases h with h | h
  · right; simp; omega
  · exact .inl ⟨w, List.mem_cons_self .., h⟩
theorem wdR_good (out W : List ByteArray) (w : ByteArray) (e : Int) (h : ¬ (out.length = 8 ∨ 60 < w.size)) : wdR out (w :: W) e = wdR (out ++ [w]) W e := by rw [wdR_cons, if_neg h]
theorem ws_blank (r : List UInt8) : ws (32 :: r) = ws r := by simp [ws, sp]
theorem ws_word (l : List UInt8) (h : l ≠ []) (h32 : l.head? ≠ some 32) : ws l = l.take (fL l 32) :: ws (l.drop (fL l 32)) := by
  unfold ws
  rw [sp_is l]
  have hpos : fL l 32 ≠ 0 := by
    cases l with
    | nil => exact absurd rfl h
    | cons c r =>
      have : ¬ c = 32 := fun e => h32 (by rw [e]; rfl)
      unfold fL; rw [if_neg this]; omega
  have hle := fL_le l 32
  have hne : (l.take (fL l 32)).isEmpty = false := by
    cases l with
    | nil => exact absurd rfl h
    | cons c r => cases hf : fL (c :: r) 32 with
      | zero => exact absurd hf hpos
      | succ n => rfl
  by_cases hc : fL l 32 = l.length
  · rw [if_pos hc, hc, List.drop_length, List.take_length]
    rw [hc, List.take_length] at hne
    simp [hne, sp]
  · rw [if_neg hc]
    have : l.drop (fL l 32) = 32 :: l.drop (fL l 32 + 1) := by
      have hx : ∀ l : List UInt8, fL l 32 ≠ l.length → l.drop (fL l 32) = 32 :: l.drop (fL l 32 + 1) := by
        intro l
        induction l with
        | nil => intro h; exact absurd rfl h
        | cons c r ih =>
          intro hh
          by_cases e : c = 32
          · simp [fL, e]
          · simp only [fL, e, if_false, List.length_cons] at hh ⊢
            exact ih (by omega)
      exact hx l hc
    rw [this]
    simp only [List.filter_cons, hne, sp]
    simp
theorem bt_drop {s : ByteArray} {i : Nat} {c : UInt8} {r : List UInt8} (h : s.data.toList.drop i = c :: r) : bt s i = (c.toNat : Int) ∧ i < s.size ∧ s.data.toList.drop (i + 1) = r := by
  have hlt : i < s.size := by
    have := congrArg List.length h
    rw [List.length_drop, size_len, List.length_cons] at this
    omega
  refine ⟨?_, hlt, by rw [← List.drop_drop, h]; rfl⟩
  have := congrArg (·.head?) h
  simp only [List.head?_drop, List.head?_cons] at this
  unfold bt
  rw [List.getD_eq_getElem?_getD, this]; rfl
theorem u8_ne {c : UInt8} {n : Nat} (hn : n < 256) : ((c.toNat : Int) = (n : Int)) ↔ c = UInt8.ofNat n := by
  constructor
  · intro h; exact (u8_of (x := c) (by omega)).symm
  · intro h; rw [h, UInt8.toNat_ofNat']; omega
theorem word_loop (x6 : Int) (t : ByteArray) (ht : t.size ≤ 1000000) (out : List ByteArray) (ho : out.length ≤ 8) (i : Nat) : ∀ (r : List UInt8) (k : Nat), t.data.toList.drop k = r → k + r.length = t.size → i ≤ k →
    spec_l11Line_L4 [] x6 t out (i : Int) (k : Int) = if out.length = 8 ∨ 60 < k + fL r 32 - i then some (([], (0, 2)), ()) else spec_l11Line_L2 [] x6 t (out ++ [ByteArray.extract t i (k + fL r 32)]) ((k + fL r 32 : Nat) : Int)
  | [], k, hd, hk, hi => by
    rw [spec_l11Line_L4_eq]
    simp only [List.length_nil, Nat.add_zero] at hk
    have e1 : w64 ((k : Int) - (i : Int)) = (k : Int) - (i : Int) := w64_id (by omega) (by omega)
    simp only [e1, Int.toNat_natCast, show fL [] 32 = 0 from rfl, Nat.add_zero]
    rw [decF (show ¬ (k : Int) < (t.size : Int) by omega), lim_true (show (out.length + 1) * 16 ≤ 140737488355328 by omega)]
    simp only [cond_false, cond_true]
    grind
  | c :: r, k, hd, hk, hi => by
    obtain ⟨hb, hlt, hd'⟩ := bt_drop hd
    rw [List.length_cons] at hk
    have ih := word_loop x6 t ht out ho i r (k + 1) hd' (by omega) (by omega)
    rw [spec_l11Line_L4_eq]
    have e1 : w64 ((k : Int) - (i : Int)) = (k : Int) - (i : Int) := w64_id (by omega) (by omega)
    have e2 : w64 ((k : Int) + 1) = ((k + 1 : Nat) : Int) := wrap_succ (by omega)
    have e3 : ((c.toNat : Int) = 32) ↔ c = 32 := u8_ne (n := 32) (by omega)
    simp only [e1, e2, hb, Int.toNat_natCast]
    rw [decT (show (k : Int) < (t.size : Int) by omega), decT (show (0 : Int) ≤ (k : Int) by omega), lim_true (show (out.length + 1) * 16 ≤ 140737488355328 by omega)]
    simp only [Bool.and_self, cond_true]
    by_cases hc : c = 32
    · rw [neF (e3.2 hc)]
      simp only [cond_false, fL, hc, if_true, Nat.add_zero]
      grind
    · rw [neT (fun h => hc (e3.1 h)), cond_true, ih]
      simp only [fL, hc, if_false]
      rw [show k + 1 + fL r 32 = k + (fL r 32 + 1) by omega]
theorem ex_mk (t : ByteArray) (i k : Nat) : ByteArray.extract t i k = mkB ((t.data.toList.drop i).take (k - i)) := bytes_ext (by rw [exL, mkB_data])
theorem words_loop (x6 : Int) (h6 : 0 ≤ x6 ∧ x6 ≤ 1000000) (t : ByteArray) (ht : t.size ≤ 1000000) : ∀ (n i : Nat) (r : List UInt8) (out : List ByteArray), t.size - i < n → t.data.toList.drop i = r → i + r.length = t.size → out.length ≤ 8 →
    spec_l11Line_L2 [] x6 t out (i : Int) = some (wdR out ((ws r).map mkB) x6, ())
  | 0, i, r, out, hn, _, _, _ => by omega
  | n + 1, i, [], out, hn, hd, hk, ho => by
    rw [spec_l11Line_L2_eq]
    simp only [List.length_nil, Nat.add_zero] at hk
    rw [decF (show ¬ (i : Int) < (t.size : Int) by omega), show w64 (x6 + 1) = x6 + 1 from w64_id (by omega) (by omega)]
    rw [show (ws []).map mkB = [] from rfl, wdR_nil _ _ ho]; rfl
  | n + 1, i, c :: r, out, hn, hd, hk, ho => by
    obtain ⟨hb, hlt, hd'⟩ := bt_drop hd
    rw [List.length_cons] at hk
    rw [spec_l11Line_L2_eq]
    have e2 : w64 ((i : Int) + 1) = ((i + 1 : Nat) : Int) := wrap_succ (by omega)
    have e3 : ((c.toNat : Int) = 32) ↔ c = 32 := u8_ne (n := 32) (by omega)
    simp only [e2, hb, Int.toNat_natCast]
    rw [decT (show (i : Int) < (t.size : Int) by omega), decT (show (0 : Int) ≤ (i : Int) by omega)]
    simp only [Bool.and_self, cond_true]
    by_cases hc : c = 32
    · rw [eqT (e3.2 hc), cond_true, words_loop x6 h6 t ht n (i + 1) r out (by omega) hd' (by omega) ho, hc, ws_blank]
    · rw [eqF (fun h => hc (e3.1 h)), cond_false, word_loop x6 t ht out ho i (c :: r) i hd (by simp; omega) (Nat.le_refl _)]
      have hle := fL_le (c :: r) 32
      rw [List.length_cons] at hle
      have hpos : 1 ≤ fL (c :: r) 32 := by unfold fL; rw [if_neg hc]; omega
      rw [ws_word (c :: r) (by simp) (by simpa using hc), List.map_cons]
      have hsz : (mkB ((c :: r).take (fL (c :: r) 32))).size = fL (c :: r) 32 := by rw [mkB_size, List.length_take, List.length_cons]; omega
      by_cases hbad : out.length = 8 ∨ 60 < i + fL (c :: r) 32 - i
      · rw [if_pos hbad, wdR_bad _ _ _ _ (by rw [hsz]; omega)]
      · rw [if_neg hbad, wdR_good _ _ _ _ (by rw [hsz]; omega), ex_mk, hd, show i + fL (c :: r) 32 - i = fL (c :: r) 32 by omega]
        exact words_loop x6 h6 t ht n (i + fL (c :: r) 32) _ _ (by omega) (by rw [← List.drop_drop, hd]) (by rw [List.length_drop, List.length_cons]; omega) (by simp; omega)
theorem spec_line_ok (s : ByteArray) (hs : s.size ≤ 1000000) : spec_l11Line s = some (lineP s, ()) := by
  rw [spec_l11Line_eq]
  have hlen := size_len s
  have key : ∀ (r : List UInt8) (i : Nat), s.data.toList.drop i = r → i + r.length = s.size → i + fL r 10 = fL s.data.toList 10 → spec_l11Line_L0 s [] (i : Int) = some (lineP s, ()) := by
    intro r
    have fin : ∀ e : Nat, e = fL s.data.toList 10 → e ≤ s.size → (e = s.size ∨ bt s e = 10) → spec_l11Line_L0 s [] (e : Int) = some (lineP s, ()) := by
      intro e he hes hb
      rw [spec_l11Line_L0_eq]
      have hx : ByteArray.extract s 0 e = mkB (s.data.toList.take e) := by rw [ex_mk]; simp
      have hxs : (ByteArray.extract s 0 e).size = e := by rw [ex_size _ _ _ hes]; omega
      have w1 : w64 ((e : Int) - 1) = (e : Int) - 1 := w64_id (by omega) (by omega)
      have w2 : ((e : Int) - 1).toNat = e - 1 := by omega
      have hbx : 0 < e → bt (ByteArray.extract s 0 e) (e - 1) = bt s (e - 1) := fun h => by rw [bt_ex s 0 e (e - 1) hes (by omega), Nat.zero_add]
      have hx2 : ByteArray.extract (ByteArray.extract s 0 e) 0 (e - 1) = mkB (s.data.toList.take (e - 1)) := by
        rw [hx, ex_mk, mkB_data]
        simp only [List.drop_zero, Nat.sub_zero, List.take_take]
        rw [Nat.min_eq_left (by omega)]
      have htr : mkB (trimR (s.data.toList.take e)) = if 0 < e ∧ bt s (e - 1) = 13 then mkB (s.data.toList.take (e - 1)) else mkB (s.data.toList.take e) := by
        rw [trim_is]
        have l1 : (s.data.toList.take e).length = e := by rw [List.length_take]; omega
        rw [l1]
        have l2 : 0 < e → ((s.data.toList.take e).getD (e - 1) 0 = 13 ↔ bt s (e - 1) = 13) := fun h => by
          unfold bt
          simp only [List.getD_eq_getElem?_getD, List.getElem?_take]
          rw [if_pos (by omega)]
          exact (u8_ne (n := 13) (by omega)).symm
        by_cases h0 : 0 < e
        · by_cases h13 : bt s (e - 1) = 13
          · rw [if_pos ⟨h0, (l2 h0).2 h13⟩, if_pos ⟨h0, h13⟩, List.take_take, Nat.min_eq_left (by omega)]
          · rw [if_neg fun h => h13 ((l2 h0).1 h.2), if_neg fun h => h13 h.2]
        · rw [if_neg fun h => h0 h.1, if_neg fun h => h0 h.1]
      have hw : ∀ l : List UInt8, l.length ≤ e → spec_l11Line_L2 [] (e : Int) (mkB l) [] 0 = some (wdR [] ((ws l).map mkB) (e : Int), ()) := fun l hl =>
        words_loop (e : Int) (by omega) (mkB l) (by rw [mkB_size]; omega) ((mkB l).size + 1) 0 l [] (by omega) (by rw [mkB_data]; rfl) (by rw [mkB_size]; omega) (by simp)
      have hw1 := hw (s.data.toList.take e) (by rw [List.length_take]; omega)
      have hw2 := hw (s.data.toList.take (e - 1)) (by rw [List.length_take]; omega)
      have hL : lineP s = if 80 < e then ([], 0, 2) else if e = s.data.toList.length then ([], 0, 0) else wdR [] ((ws (trimR (s.data.toList.take e))).map mkB) e := by rw [he]; rfl
      have hws : wdR [] ((ws (trimR (s.data.toList.take e))).map mkB) e = if 0 < e ∧ bt s (e - 1) = 13 then wdR [] ((ws (s.data.toList.take (e - 1))).map mkB) e else wdR [] ((ws (s.data.toList.take e)).map mkB) e := by
        have := congrArg (fun b : ByteArray => wdR [] ((ws b.data.toList).map mkB) (e : Int)) htr
        simp only [mkB_data] at this
        rw [this]
        split <;> rw [mkB_data]
      rw [hL, hws, hlen]
      simp only [Int.toNat_natCast, Int.toNat_zero, hxs, w1, w2, hx2]
      rw [hx]
      rw [hx] at hbx
      simp only [hw1, hw2]
      have d1 : decide ((0 : Int) ≤ 0) = true := rfl
      simp only [d1]
      clear hw hw1 hw2 hL hws htr
      grind (splits := 30)
    induction r with
    | nil =>
      intro i hd hi he
      simp only [List.length_nil, Nat.add_zero] at hi
      simp only [fL, Nat.add_zero] at he
      exact fin i he (by omega) (.inl hi)
    | cons c r ih =>
      intro i hd hi he
      obtain ⟨hb, hlt, hd'⟩ := bt_drop hd
      rw [List.length_cons] at hi
      have e3 : ((c.toNat : Int) = 10) ↔ c = 10 := u8_ne (n := 10) (by omega)
      by_cases hc : c = 10
      · refine fin i ?_ (by omega) (.inr (by rw [hb]; exact e3.2 hc))
        rw [← he]; simp [fL, hc]
      · rw [spec_l11Line_L0_eq]
        have e2 : w64 ((i : Int) + 1) = ((i + 1 : Nat) : Int) := wrap_succ (by omega)
        simp only [e2, hb, Int.toNat_natCast]
        rw [decT (show (i : Int) < (s.size : Int) by omega), decT (show (0 : Int) ≤ (i : Int) by omega), neT (fun h => hc (e3.1 h))]
        simp only [Bool.and_self, cond_true]
        refine ih (i + 1) hd' (by omega) ?_
        simp only [fL, hc, if_false] at he
        omega
  exact key s.data.toList 0 rfl (by omega) (by omega)
end Go.Den.S
