/- FcC: equations of the functions of this seat as the executor tells them, or plain facts about them. Conditions: none here. -/
import Derived.Test.YtkpdhadfnanagaaDoorFcB
set_option linter.all false
namespace Go.Den.S
open Go Go.Den
/-! ### drawn requests -/
theorem words_loop' : ∀ (m i : Nat) (L : List (List ByteArray)) (c : Cur), m + i = 4 → L.length = i → (∀ a ∈ L, a.length ≤ 8 ∧ AllS a) → Cu c → ∃ L' : List (List ByteArray), spec_DrawWords_L0 L (i : Int) c.1 c.2.1 c.2.2 = some (L', ()) ∧ L'.length ≤ 4 ∧ ∀ a ∈ L', a.length ≤ 8 ∧ AllS a
  | m, i, L, c, hm, hl, ha, hc => by
    obtain ⟨x, c1, e1, a1, b1, k1⟩ := below_ok hc 5 (by omega) (by omega)
    have e1 : spec_l01Below (c.1, (c.2.1, c.2.2)) 5 = some (x, (c1, ())) := e1
    rw [spec_DrawWords_L0_eq]
    simp only [e1, Option.bind_some]
    by_cases hi : (i : Int) < x
    · match m, hm with
      | 0, hm => omega
      | m + 1, hm =>
        obtain ⟨l, c2, e2, h1, h2, k2⟩ := Args_G k1
        simp only [decide_eq_true hi, cond_true, e2, Option.bind_some, lim_true (show (L.length + 1) * 24 ≤ 140737488355328 by omega), show w64 ((i : Int) + 1) = ((i + 1 : Nat) : Int) from wrap_succ (by omega)]
        exact words_loop' m (i + 1) (L ++ [l]) c2 (by omega) (by simp; omega) (fun a h => by
          rcases List.mem_append.1 h with h | h
          · exact ha a h
          · rw [List.mem_singleton.1 h]; exact ⟨h1, h2⟩) k2
    · simp only [decide_eq_false hi, cond_false]
      exact ⟨L, rfl, by omega, ha⟩
theorem DrawWords_ok (code : List Int) (hl : code.length ≤ 1048576) : ∃ L : List (List ByteArray), spec_DrawWords code = some (L, ()) ∧ L.length ≤ 4 ∧ ∀ a ∈ L, a.length ≤ 8 ∧ AllS a := by
  obtain ⟨c, e, k⟩ := new_ok code hl
  obtain ⟨L, e2, h1, h2⟩ := words_loop' 4 0 [] c rfl rfl (fun a h => by cases h) k
  refine ⟨L, ?_, h1, h2⟩
  rw [spec_DrawWords_eq, e]
  simp only [Option.bind_some]
  exact e2
theorem itemsL_len : ∀ (l : List ByteArray), (∀ x ∈ l, x.size ≤ 20) → (itemsL l).length ≤ 27 * l.length
  | [], _ => by simp [itemsL]
  | x :: l, h => by
    have h1 := h x (List.mem_cons_self ..)
    have h2 := itemsL_len l fun y hy => h y (List.mem_cons_of_mem _ hy)
    have h3 := decD_len 1 x.size (by omega)
    have hx := size_len x
    have : itemsL (x :: l) = itemL x ++ itemsL l := by simp [itemsL]
    rw [this, List.length_append, List.length_cons]
    simp only [itemL, crlf, List.length_cons, List.length_append, List.length_nil]
    omega
theorem reqL_len (l : List ByteArray) (hl : l.length ≤ 8) (h : AllS l) : (reqL l).length ≤ 250 := by
  have h2 := itemsL_len l h
  have h3 := decD_len 1 l.length (by omega)
  simp only [reqL, crlf, List.length_cons, List.length_append]
  omega
/-- A connection that is plain. -/
def pcn (t : ByteArray) : D_Conn := (t, (false, (false, ([], false))))
theorem pcn_ok (t : ByteArray) (h : t.size ≤ 2000) : connB (pcn t) = true := by
  unfold connB pcn
  simp [anyUnk]
  omega
theorem pcn_q (t : ByteArray) : wSS (pcn t).2.2.2.1 ≤ 2097152 := by simp [pcn, wSS, wl]
theorem take_pcn (t u : ByteArray) (h : t.size + u.size ≤ 2000) : impl_TakeIn (pcn t) u = some ((pcn (t ++ u), true), ()) := by
  rw [impl_TakeIn_ok (pcn t) u (pcn_q t) (by omega)]
  unfold tkInB
  rw [if_pos ⟨pcn_ok t (by omega), rfl, by show (t.size : Int) + _ ≤ _; omega⟩]
  rfl
theorem split_app (t : ByteArray) (k : Nat) (h : k ≤ t.size) : ByteArray.extract t 0 k ++ ByteArray.extract t k t.size = t := bytes_ext (by
  have := size_len t
  rw [ByteArray.data_append, Array.toList_append, exL, exL]
  simp only [List.drop_zero, Nat.sub_zero]
  rw [List.take_of_length_le (l := List.drop k _) (by rw [List.length_drop]; omega), List.take_append_drop])
def allL (L : List (List ByteArray)) : List UInt8 := (L.map reqL).flatten
theorem allL_len : ∀ (L : List (List ByteArray)), (∀ a ∈ L, a.length ≤ 8 ∧ AllS a) → (allL L).length ≤ 250 * L.length
  | [], _ => by simp [allL]
  | a :: L, h => by
    have h1 := reqL_len a (h a (List.mem_cons_self ..)).1 (h a (List.mem_cons_self ..)).2
    have h2 := allL_len L fun y hy => h y (List.mem_cons_of_mem _ hy)
    have : allL (a :: L) = reqL a ++ allL L := by simp [allL]
    rw [this, List.length_append, List.length_cons]
    omega
theorem drop_get {α : Type} {L r : List α} {a d : α} {i : Nat} (hd : L.drop i = a :: r) : L.getD i d = a ∧ a ∈ L ∧ L.drop (i + 1) = r := by
  refine ⟨?_, List.mem_of_mem_drop (by rw [hd]; exact List.mem_cons_self ..), by rw [← List.drop_drop, hd]; rfl⟩
  have := congrArg (·.head?) hd
  simp only [List.head?_drop, List.head?_cons] at this
  rw [List.getD_eq_getElem?_getD, this]; rfl
theorem take_loop (code : List Int) (hc : code.length ≤ 1048576) (L : List (List ByteArray)) (hL : L.length ≤ 4) (ha : ∀ a ∈ L, a.length ≤ 8 ∧ AllS a) : ∀ (r : List (List ByteArray)) (i : Nat) (t : ByteArray), L.drop i = r → i + r.length = L.length → t.size ≤ 250 * i →
    laws_FnConns_L0 code L (i : Int) t false false [] false = laws_FnConns_L2 L 0 (t ++ mkB (allL r)) false false [] false
  | [], i, t, hd, hi, hs => by
    rw [laws_FnConns_L0_eq, decF (by simp at hi; omega), cond_false]
    rw [show t ++ mkB (allL []) = t from bytes_ext (by simp [allL, mkB_data])]
  | a :: r, i, t, hd, hi, hs => by
    rw [List.length_cons] at hi
    obtain ⟨hg, hm, hd'⟩ := drop_get (d := []) hd
    obtain ⟨h8, hA⟩ := ha a hm
    have hrl := reqL_len a h8 hA
    obtain ⟨p, ep, hp1, hp2⟩ := DrawPlaces_ok code hc
    have e1 : w64 ((i : Int) + 1) = ((i + 1 : Nat) : Int) := wrap_succ (by omega)
    have hz : (mkB (reqL a)).size = (reqL a).length := mkB_size _
    have hw : w64 (((mkB (reqL a)).size : Int) + 1) = ((mkB (reqL a)).size : Int) + 1 := w64_id (by omega) (by omega)
    have hp0 := hp2 (p.getD 0 0) (getD_mem (by omega))
    obtain ⟨t0, t1⟩ := tmod_in (x := p.getD 0 0) (n := ((mkB (reqL a)).size : Int) + 1) hp0.1 (by omega)
    obtain ⟨k, hk⟩ : ∃ k : Nat, Int.tmod (p.getD 0 0) (((mkB (reqL a)).size : Int) + 1) = (k : Int) := ⟨_, (Int.toNat_of_nonneg t0).symm⟩
    rw [hk] at t1
    rw [laws_FnConns_L0_eq, decT (show (i : Int) < (L.length : Int) by omega), decT (show (0 : Int) ≤ (i : Int) by omega)]
    simp only [Int.toNat_natCast, hg, Bool.and_self, cond_true, RequestText_ok a h8 (fun x hx => Nat.le_trans (hA x hx) (by omega)), ep, Option.bind_some, hw, Int.toNat_zero, hk, e1]
    have q1 : (mkB (reqL a)).extract 0 k ++ (mkB (reqL a)).extract k (mkB (reqL a)).size = mkB (reqL a) := split_app _ k (by omega)
    have z1 : ((mkB (reqL a)).extract 0 k).size = k := by rw [ex_size _ _ _ (by omega)]; omega
    have z2 : ((mkB (reqL a)).extract k (mkB (reqL a)).size).size = (mkB (reqL a)).size - k := by rw [ex_size _ _ _ (Nat.le_refl _)]
    have k1 : impl_TakeIn (t, (false, (false, ([], false)))) ((mkB (reqL a)).extract 0 k) = some ((pcn (t ++ (mkB (reqL a)).extract 0 k), true), ()) := take_pcn t _ (by omega)
    have k2 : impl_TakeIn (pcn (t ++ (mkB (reqL a)).extract 0 k)) ((mkB (reqL a)).extract k (mkB (reqL a)).size) = some ((pcn (t ++ mkB (reqL a)), true), ()) := by
      rw [take_pcn _ _ (by rw [ByteArray.size_append]; omega), ByteArray.append_assoc, q1]
    rw [decT (show (0 : Int) ≤ 0 by omega), decT (show (0 : Int) < (p.length : Int) by omega), neT (show ¬ ((mkB (reqL a)).size : Int) + 1 = 0 by omega), decT (show (0 : Int) ≤ (k : Int) by omega), decT (show (k : Int) ≤ ((mkB (reqL a)).size : Int) by omega), decT (show ((mkB (reqL a)).size : Int) ≤ ((mkB (reqL a)).size : Int) by omega), limS_true (show t.size + (mkB (reqL a)).size ≤ 9223372036854775807 by omega)]
    simp only [Bool.and_self, cond_true, k1, Option.bind_some, k2, Bool.not_true, cond_false, bytes_eq]
    rw [show decide ((pcn (t ++ mkB (reqL a))).1 = t ++ mkB (reqL a)) = true from decT rfl]
    simp only [Bool.not_true, cond_false]
    have ih := take_loop code hc L hL ha r (i + 1) (t ++ mkB (reqL a)) hd' (by omega) (by rw [ByteArray.size_append]; omega)
    refine Eq.trans ?_ (ih.trans ?_)
    · rfl
    · rw [ByteArray.append_assoc, mkB_app, show reqL a ++ allL r = allL (a :: r) by simp [allL]]
theorem next_pcn {t : ByteArray} {l : List ByteArray} {r : List UInt8} (ht : t.size ≤ 2000) (hl : l.length ≤ 8) (hx : ∀ x ∈ l, x.size ≤ 60) (h : t.data.toList = reqL l ++ r) : impl_Next (pcn t) = some ((pcn (mkB r), (l, 1)), ()) := by
  rw [impl_Next_ok _ (pcn_q t)]
  unfold nextB
  rw [pcn_ok t ht, parse_req hl hx (show (pcn t).1.data.toList = _ from h)]
  have : ByteArray.extract t (reqL l).length t.size = mkB r := bytes_ext (by
    have := size_len t
    rw [exL, mkB_data, h, List.drop_left, List.take_of_length_le]
    rw [h] at this
    simp at this
    omega)
  simp only [Bool.not_true, Bool.false_or, Int.toNat_natCast]
  rw [if_neg (by simp [pcn])]
  simp only [if_true]
  show some ((((ByteArray.extract t (reqL l).length t.size, (pcn t).2), (l, 1)), ()) : (D_Conn × List ByteArray × Int) × Unit) = _
  rw [this]; rfl
theorem end_ok : impl_Next (pcn ByteArray.empty) = some ((pcn ByteArray.empty, ([], 0)), ()) := by
  rw [impl_Next_ok _ (pcn_q _)]
  unfold nextB
  rw [pcn_ok _ (by decide), show parseP (pcn ByteArray.empty).1 = ([], 0, 0) from rfl]
  rfl
theorem bad_ok : impl_Next (pcn c__x_2_8149) = some (((ByteArray.empty, (false, (false, ([], true)))), ([], 2)), ()) := by
  rw [impl_Next_ok _ (pcn_q _)]
  unfold nextB
  rw [pcn_ok _ (by decide), show parseP (pcn c__x_2_8149).1 = ([], 0, 2) from by decide +kernel]
  rfl
theorem shut_ok : impl_TakeIn (ByteArray.empty, (false, (false, ([], true)))) c_PING___6_641506 = some ((pcn ByteArray.empty, false), ()) := by
  rw [impl_TakeIn_ok _ _ (by simp [wSS, wl]) (by decide)]
  unfold tkInB
  rw [if_neg (by simp)]
  rfl
theorem next_loop (L : List (List ByteArray)) (hL : L.length ≤ 4) (ha : ∀ a ∈ L, a.length ≤ 8 ∧ AllS a) : ∀ (r : List (List ByteArray)) (i : Nat), L.drop i = r → i + r.length = L.length →
    laws_FnConns_L2 L (i : Int) (mkB (allL r)) false false [] false = some (true, ())
  | [], i, hd, hi => by
    have e0 : mkB (allL []) = ByteArray.empty := rfl
    rw [laws_FnConns_L2_eq, decF (by simp at hi; omega), cond_false, e0]
    have k0 : impl_Next (ByteArray.empty, (false, (false, ([], false)))) = some ((pcn ByteArray.empty, ([], 0)), ()) := end_ok
    have k1 : impl_TakeIn (ByteArray.empty, (false, (false, ([], false)))) c__x_2_8149 = some ((pcn c__x_2_8149, true), ()) := by
      have := take_pcn ByteArray.empty c__x_2_8149 (by decide)
      exact this
    rw [k0, k1]
    simp only [Option.bind_some, bad_ok, shut_ok, bytes_eq, decide_true, beq_self_eq_true, cond_true, Bool.not_false]
  | a :: r, i, hd, hi => by
    rw [List.length_cons] at hi
    obtain ⟨hg, hm, hd'⟩ := drop_get (d := []) hd
    obtain ⟨h8, hA⟩ := ha a hm
    have hlen := allL_len (a :: r) (fun x hx => ha x (List.mem_of_mem_drop (by rw [hd]; exact hx)))
    rw [List.length_cons] at hlen
    have e1 : w64 ((i : Int) + 1) = ((i + 1 : Nat) : Int) := wrap_succ (by omega)
    have hn : impl_Next (mkB (allL (a :: r)), (false, (false, ([], false)))) = some ((pcn (mkB (allL r)), (a, 1)), ()) := next_pcn (t := mkB (allL (a :: r))) (by rw [mkB_size]; omega) h8 (fun x hx => Nat.le_trans (hA x hx) (by omega)) (by rw [mkB_data]; simp [allL])
    have hlen2 := allL_len r (fun x hx => ha x (List.mem_of_mem_drop (by rw [hd]; exact List.mem_cons_of_mem _ hx)))
    rw [laws_FnConns_L2_eq, decT (show (i : Int) < (L.length : Int) by omega), hn, decT (show (0 : Int) ≤ (i : Int) by omega)]
    simp only [cond_true, Option.bind_some, Bool.and_self, Int.toNat_natCast, hg, sameTexts_ok a a (by omega), decide_true, Bool.not_true, cond_false, impl_ConnOk_ok _ (pcn_q _), pcn_ok (mkB (allL r)) (by rw [mkB_size]; omega), e1]
    rw [neF (show (1 : Int) = 1 from rfl), cond_false]
    exact next_loop L hL ha r (i + 1) hd' (by omega)
theorem law_FnConns (code : List Int) : laws_FnConns code = some (true, ()) := by
  rw [laws_FnConns_eq, laws_big_eq]
  by_cases hb : (code.length : Int) > 1048576
  · simp only [decT hb, Option.bind_some, cond_true]
  · simp only [decF hb, Option.bind_some, cond_false]
    obtain ⟨L, e, h1, h2⟩ := DrawWords_ok code (by omega)
    rw [e, Option.bind_some]
    have := take_loop code (by omega) L h1 h2 L 0 ByteArray.empty rfl (by omega) (by decide)
    refine this.trans ?_
    rw [show ByteArray.empty ++ mkB (allL L) = mkB (allL L) from bytes_ext (by simp [mkB_data])]
    exact next_loop L h1 h2 L 0 rfl (by omega)
end Go.Den.S
