/- FcB: equations of the functions of this seat as the executor tells them, or plain facts about them. Conditions: none here. -/
import Derived.Test.YtkpdhadfnanagaaDoorFcA
set_option linter.all false
namespace Go.Den.S
open Go Go.Den
/-! ### a request's text is read back -/
def crlf (r : List UInt8) : List UInt8 := 13 :: 10 :: r
def itemL (x : ByteArray) : List UInt8 := 36 :: (Lib.decDigits x.size ++ crlf (x.data.toList ++ crlf []))
def itemsL (l : List ByteArray) : List UInt8 := (l.map itemL).flatten
def reqL (a : List ByteArray) : List UInt8 := 42 :: (Lib.decDigits a.length ++ crlf (itemsL a))
theorem dg_no {s : ByteArray} {i : Nat} (h : bt s i = 13) : ¬ dg s i := fun k => by have := k.2; omega
theorem tail_at {s : ByteArray} {a k : Nat} {n : Int} {r : List UInt8} (hk : a < k) (h : s.data.toList.drop k = 13 :: 10 :: r) : tailP s a k n = (n, ((k + 2 : Nat) : Int), 1) := by
  obtain ⟨b1, l1, d1⟩ := bt_drop h
  obtain ⟨b2, l2, d2⟩ := bt_drop d1
  have b1 : bt s k = 13 := b1
  have b2 : bt s (k + 1) = 10 := b2
  unfold tailP
  rw [if_neg (by omega), if_neg (by rw [b1]; omega), if_neg (by omega), if_neg (by rw [b2]; omega)]
theorem num_at {s : ByteArray} {a n : Nat} {most : Int} {r : List UInt8} (hm : (n : Int) ≤ most) (h1 : n ≤ 99) (h : s.data.toList.drop a = Lib.decDigits n ++ crlf r) : numP s a most = ((n : Int), ((a + (Lib.decDigits n).length + 2 : Nat) : Int), 1) := by
  by_cases hn : n < 10
  · have e : Lib.decDigits n = [UInt8.ofNat (48 + n)] := by rw [Lib.decDigits, dif_pos hn]
    rw [e] at h ⊢
    obtain ⟨b1, l1, d1⟩ := bt_drop (show s.data.toList.drop a = UInt8.ofNat (48 + n) :: (13 :: 10 :: r) from h)
    obtain ⟨b2, l2, d2⟩ := bt_drop d1
    rw [dig_ofNat n hn] at b1
    have b2 : bt s (a + 1) = 13 := b2
    have g1 : dg s a := ⟨l1, by omega, by omega⟩
    have g2 : ¬ dg s (a + 1) := dg_no b2
    unfold numP
    rw [if_neg (fun h => h g1), if_pos g2, if_neg (by omega), tail_at (by omega) d1, b1]
    simp
    omega
  · have e : Lib.decDigits n = [UInt8.ofNat (48 + n / 10), UInt8.ofNat (48 + n % 10)] := by
      rw [decD_step n hn, Lib.decDigits, dif_pos (by omega)]; rfl
    rw [e] at h ⊢
    obtain ⟨b1, l1, d1⟩ := bt_drop (show s.data.toList.drop a = UInt8.ofNat (48 + n / 10) :: (UInt8.ofNat (48 + n % 10) :: 13 :: 10 :: r) from h)
    obtain ⟨b2, l2, d2⟩ := bt_drop d1
    obtain ⟨b3, l3, d3⟩ := bt_drop d2
    rw [dig_ofNat _ (by omega)] at b1 b2
    have b3 : bt s (a + 2) = 13 := b3
    have g1 : dg s a := ⟨l1, by omega, by omega⟩
    have g2 : dg s (a + 1) := ⟨l2, by omega, by omega⟩
    have g3 : ¬ dg s (a + 2) := dg_no b3
    unfold numP
    rw [if_neg (fun h => h g1), if_neg (fun h => h g2), if_neg (by rw [b1, b2]; intro h; rcases h with h | h | h; omega; omega; exact g3 h), tail_at (by omega) d2, b1, b2]
    simp
    omega
theorem bulk_at {s x : ByteArray} {a : Nat} {r : List UInt8} (hx : x.size ≤ 60) (h : s.data.toList.drop a = itemL x ++ r) : bulkP s a = (x, ((a + (itemL x).length : Nat) : Int), 1) := by
  obtain ⟨b1, l1, d1⟩ := bt_drop (show s.data.toList.drop a = 36 :: ((Lib.decDigits x.size ++ crlf (x.data.toList ++ crlf [])) ++ r) from h)
  have b1 : bt s a = 36 := b1
  have d1 : s.data.toList.drop (a + 1) = Lib.decDigits x.size ++ crlf (x.data.toList ++ crlf r) := by rw [d1]; simp [crlf]
  have hn := num_at (most := 60) (by omega) (by omega) d1
  have d2 : s.data.toList.drop (a + 1 + (Lib.decDigits x.size).length + 2) = x.data.toList ++ crlf r := by
    rw [← List.drop_drop, ← List.drop_drop, d1, List.drop_left]; rfl
  have hxl := size_len x
  have d3 : s.data.toList.drop (a + 1 + (Lib.decDigits x.size).length + 2 + x.size) = 13 :: 10 :: r := by
    rw [← List.drop_drop, d2, ← hxl, List.drop_left]; rfl
  obtain ⟨b3, l3, d4⟩ := bt_drop d3
  obtain ⟨b4, l4, d5⟩ := bt_drop d4
  have b3 : bt s (a + 1 + (Lib.decDigits x.size).length + 2 + x.size) = 13 := b3
  have b4 : bt s (a + 1 + (Lib.decDigits x.size).length + 2 + x.size + 1) = 10 := b4
  have hl : (itemL x).length = (Lib.decDigits x.size).length + x.size + 5 := by simp [itemL, crlf, hxl]; omega
  have hex : ByteArray.extract s (a + 1 + (Lib.decDigits x.size).length + 2) (a + 1 + (Lib.decDigits x.size).length + 2 + x.size) = x := bytes_ext (by
    rw [exL, d2, Nat.add_sub_cancel_left, ← hxl, List.take_left])
  unfold bulkP
  rw [if_neg (by omega), if_neg (by simp [b1]), hn, if_neg (by simp)]
  simp only [Int.toNat_natCast]
  rw [if_neg (by rw [b3, b4]; simp), if_neg (by omega), hex, hl]
  simp only [Prod.mk.injEq, true_and, and_true]
  omega
theorem pr_at (s : ByteArray) : ∀ (l : List ByteArray) (a : Nat) (acc : List ByteArray) (r : List UInt8), (∀ x ∈ l, x.size ≤ 60) → s.data.toList.drop a = itemsL l ++ r → prL s l.length a acc = (acc ++ l, ((a + (itemsL l).length : Nat) : Int), 1)
  | [], a, acc, r, _, _ => by simp [prL, itemsL]
  | x :: l, a, acc, r, hx, h => by
    have h1 : s.data.toList.drop a = itemL x ++ (itemsL l ++ r) := by rw [h]; simp [itemsL]
    have hb := bulk_at (hx x (List.mem_cons_self ..)) h1
    have h2 : s.data.toList.drop (a + (itemL x).length) = itemsL l ++ r := by rw [← List.drop_drop, h1, List.drop_left]
    rw [List.length_cons]
    unfold prL
    rw [hb, if_neg (by simp)]
    simp only [Int.toNat_natCast]
    rw [pr_at s l _ (acc ++ [x]) r (fun y hy => hx y (List.mem_cons_of_mem _ hy)) h2]
    simp [itemsL]
    omega
theorem parse_req {s : ByteArray} {l : List ByteArray} {r : List UInt8} (hl : l.length ≤ 8) (hx : ∀ x ∈ l, x.size ≤ 60) (h : s.data.toList = reqL l ++ r) : parseP s = (l, ((reqL l).length : Int), 1) := by
  obtain ⟨b1, l1, d1⟩ := bt_drop (show s.data.toList.drop 0 = 42 :: ((Lib.decDigits l.length ++ crlf (itemsL l)) ++ r) from h)
  have b1 : bt s 0 = 42 := b1
  have d1 : s.data.toList.drop 1 = Lib.decDigits l.length ++ crlf (itemsL l ++ r) := by rw [d1]; simp [crlf]
  have hn := num_at (most := 8) (by omega) (by omega) d1
  have d2 : s.data.toList.drop (1 + (Lib.decDigits l.length).length + 2) = itemsL l ++ r := by
    rw [← List.drop_drop, ← List.drop_drop, d1, List.drop_left]; rfl
  unfold parseP
  rw [if_neg (by rintro rfl; exact absurd l1 (by decide)), if_neg (by simp [b1]), hn, if_neg (by simp)]
  simp only [Int.toNat_natCast]
  rw [pr_at s l _ [] r hx d2]
  simp [reqL, crlf]
  omega
/-! ### the text of a request -/
theorem RequestText_loop (l : List ByteArray) (hl : l.length ≤ 8) (hx : ∀ x ∈ l, x.size ≤ 60) : ∀ (r : List ByteArray) (i : Nat) (acc : ByteArray), l.drop i = r → i + r.length = l.length → acc.size ≤ 1000 + 1000 * i →
    spec_RequestText_L0 l acc (i : Int) = some ((mkB (acc.data.toList ++ itemsL r), true), ())
  | [], i, acc, hd, hi, ha => by
    rw [spec_RequestText_L0_eq, decF (by simp at hi; omega), cond_false]
    simp [itemsL, mkB_self]
  | x :: r, i, acc, hd, hi, ha => by
    rw [List.length_cons] at hi
    have hg : l.getD i ByteArray.empty = x := by
      have := congrArg (·.head?) hd
      simp only [List.head?_drop, List.head?_cons] at this
      rw [List.getD_eq_getElem?_getD, this]; rfl
    have hm : x ∈ l := List.mem_of_mem_drop (by rw [hd]; exact List.mem_cons_self ..)
    have hxs := hx x hm
    have hd' : l.drop (i + 1) = r := by rw [← List.drop_drop, hd]; rfl
    have e1 : w64 ((i : Int) + 1) = ((i + 1 : Nat) : Int) := wrap_succ (by omega)
    have hdl := decB_size (x.size : Int) (by omega) (by omega)
    have s1 : (c___1_253 : ByteArray).size = 1 := by decide
    have s2 : (c____2_7140 : ByteArray).size = 2 := by decide
    have ih := RequestText_loop l hl hx r (i + 1) (((((acc ++ c___1_253) ++ decB (x.size : Int)) ++ c____2_7140) ++ x) ++ c____2_7140) hd' (by omega) (by simp only [ByteArray.size_append, s1, s2]; omega)
    rw [spec_RequestText_L0_eq, decT (show (i : Int) < (l.length : Int) by omega), decT (show (0 : Int) ≤ (i : Int) by omega)]
    simp only [Int.toNat_natCast, hg, Bool.and_self, cond_true]
    rw [decF (show ¬ (x.size : Int) > 60 by omega), spec_Decimal_ok (x.size : Int) (by omega) (by omega)]
    simp only [cond_false, Option.bind_some, ByteArray.size_append, s1, s2]
    rw [limS_true (by omega), limS_true (by omega), limS_true (by omega), limS_true (by omega), limS_true (by omega)]
    simp only [cond_true, e1]
    have he : (((((acc ++ c___1_253) ++ decB (x.size : Int)) ++ c____2_7140) ++ x) ++ c____2_7140).data.toList ++ itemsL r = acc.data.toList ++ itemsL (x :: r) := by simp [itemsL, itemL, crlf, ByteArray.data_append, decB_nat, mkB_data, show (c___1_253 : ByteArray).data.toList = [36] from rfl, show (c____2_7140 : ByteArray).data.toList = [13, 10] from rfl]
    rw [ih, he]
theorem RequestText_ok (l : List ByteArray) (hl : l.length ≤ 8) (hx : ∀ x ∈ l, x.size ≤ 60) : spec_RequestText l = some ((mkB (reqL l), true), ()) := by
  have hdl := decB_size (l.length : Int) (by omega) (by omega)
  have s1 : (c___1_259 : ByteArray).size = 1 := by decide
  have s2 : (c____2_7140 : ByteArray).size = 2 := by decide
  rw [spec_RequestText_eq, decF (show ¬ (l.length : Int) > 8 by omega), spec_Decimal_ok (l.length : Int) (by omega) (by omega)]
  simp only [cond_false, Option.bind_some, ByteArray.size_append, s1, s2]
  rw [limS_true (by omega), limS_true (by omega)]
  simp only [cond_true]
  have := RequestText_loop l hl hx l 0 ((c___1_259 ++ decB (l.length : Int)) ++ c____2_7140) rfl (by omega) (by simp only [ByteArray.size_append, s1, s2]; omega)
  rw [show ((0 : Nat) : Int) = 0 from rfl] at this
  have he : ((c___1_259 ++ decB (l.length : Int)) ++ c____2_7140).data.toList ++ itemsL l = reqL l := by simp [reqL, crlf, ByteArray.data_append, decB_nat, mkB_data, show (c___1_259 : ByteArray).data.toList = [42] from rfl, show (c____2_7140 : ByteArray).data.toList = [13, 10] from rfl]
  rw [this, he]
end Go.Den.S
