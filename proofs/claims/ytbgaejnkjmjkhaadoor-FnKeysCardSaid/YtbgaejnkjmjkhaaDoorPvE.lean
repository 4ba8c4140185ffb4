/- PvE: equations of the functions of this seat as the executor tells them, or plain facts about them. Conditions: none here. -/
import Derived.Test.YtbgaejnkjmjkhaaDoorPvC
set_option linter.all false
namespace Go.Den.S
open Go Go.Den
def qaY : List BA := [eB, c_1, q3c, c_x, c_yy, q6P, c_12, qab]
theorem qaj : (qaY.all fun s => decide (s.size <= 60)) = true := by decide +kernel
theorem q6X {c : Cur} (h : Cu c) : ∃ (w : BA) (c' : Cur), wQ c = some (w, (c', ())) /\ w.size <= 60 /\ Cu c' := by
  obtain ⟨w, c1, e, hm, k⟩ := qd7 h qaY (by decide) (by decide)
  have e : q1e c [eB, c_1, q3c, c_x, c_yy, q6P, c_12, qab] = some (w, (c1, ())) := e
  rw [q63, e]
  exact ⟨w, c1, rfl, of_decide_eq_true (List.all_eq_true.1 qaj w hm), k⟩
def fghi : List BA := [c_f, c_g, c_h, c_i]
theorem qcb : ((List.range 4).all fun i => (fghi.take i).all fun s => blt s (fghi.getD i eB)) = true := by decide +kernel
theorem q7b : (fghi.all fun s => decide (s.size <= 60)) = true := by decide +kernel
theorem qda {i : Nat} (hi : i < 4) {s : BA} (hs : s ∈ fghi.take i) : blt s (gi fghi i) = true :=
  List.all_eq_true.1 (List.all_eq_true.1 qcb i (List.mem_range.2 hi)) s hs
structure FI (i : Nat) (P : List PF) : Prop where
  asc : AscF P
  nam : ∀ p ∈ P, p.1 ∈ fghi.take i
  val : ∀ p ∈ P, p.2.size <= 60
  len : P.length <= i
  pos : 1 <= i -> 1 <= P.length
theorem FI.add {i : Nat} {P : List PF} (h : FI i P) (hi : i < 4) {w : BA} (hw : w.size <= 60) : FI (i + 1) (P ++ [(gi fghi i, w)]) := by
  refine ⟨?_, fun p hp => ?_, fun p hp => ?_, by have := h.len; simp; omega, fun _ => by simp⟩
  · unfold AscF
    refine List.pairwise_append.2 ⟨h.asc, List.pairwise_singleton _ _, fun a ha b hb => ?_⟩
    rw [List.mem_singleton] at hb; subst hb
    exact qda hi (h.nam a ha)
  · rw [q2Q (show i < fghi.length from hi)]
    rcases List.mem_append.1 hp with hp | hp
    · exact List.mem_append.2 (.inl (h.nam p hp))
    · rw [List.mem_singleton] at hp; subst hp
      exact List.mem_append.2 (.inr (List.mem_singleton_self _))
  · rcases List.mem_append.1 hp with hp | hp
    · exact h.val p hp
    · rw [List.mem_singleton] at hp; subst hp; exact hw
theorem FI.skip {i : Nat} {P : List PF} (h : FI i P) (hi : i < 4) (h1 : 1 <= i) : FI (i + 1) P := by
  refine ⟨h.asc, fun p hp => ?_, h.val, by have := h.len; omega, fun _ => h.pos h1⟩
  rw [q2Q (show i < fghi.length from hi)]
  exact List.mem_append.2 (.inl (h.nam p hp))
theorem beqI (a b : Int) : (a == b) = decide (a = b) := by by_cases h : a = b <;> simp [h]
theorem FI.nil : FI 0 [] := ⟨List.Pairwise.nil, fun p h => (by cases h), fun p h => (by cases h), (by simp), fun h => (by omega)⟩
theorem q6Q (u : Int) : ∀ (m i : Nat) (P : List PF) (c : Cur), m + i = 4 -> Cu c -> FI i P ->
    ∃ (P' : List PF) (c' : Cur), qY fghi (i : Int) c.1 c.2.1 c.2.2 0 0 eB [] 3 u eB (yX P) = some ((3, (u, (eB, yX P'))), (c', ())) /\ FI 4 P' /\ Cu c'
  | 0, i, P, c, hm, hc, h => by
    have ei : i = 4 := by omega
    subst ei
    rw [jo]
    simp only [show (fghi.length : Int) = 4 from rfl, dYF (show ¬ ((4 : Nat) : Int) < 4 by omega), cF]
    exact ⟨P, c, rfl, h, hc⟩
  | m + 1, i, P, c, hm, hc, h => by
    have hfl := q40 P
    have hpl := h.len
    have l1 : lim ((yX P).length + 1) 16 = true := wN (by omega)
    have l2 : ∀ x : BA, lim ((yX P ++ [x]).length + 1) 16 = true := fun x => wN (by rw [List.length_append, List.length_singleton]; omega)
    have add : ∀ (c0 c1 : Cur), c0 = c1 -> Cu c1 -> ∃ (P' : List PF) (c' : Cur), ((wQ c0).bind fun r15 => qY fghi ((i + 1 : Nat) : Int) r15.2.1.1 r15.2.1.2.1 r15.2.1.2.2 0 0 eB [] 3 u eB ((yX P ++ [gi fghi i]) ++ [r15.1])) = some ((3, (u, (eB, yX P'))), (c', ())) /\ FI 4 P' /\ Cu c' := fun c0 c1 e0 k1 => by
      subst e0
      obtain ⟨w, c2, e, hw, k2⟩ := q6X k1
      have := q6Q u m (i + 1) (P ++ [(gi fghi i, w)]) c2 (by omega) k2 (h.add (by omega) hw)
      rw [qb7, show yX [(gi fghi i, w)] = [gi fghi i] ++ [w] from rfl, <- List.append_assoc] at this
      simp only [e, oB]
      exact this
    rw [jo]
    simp only [show (fghi.length : Int) = 4 from rfl, dYT (show (i : Int) < 4 by omega), dYT (show (0 : Int) <= (i : Int) by omega), Bool.and_self, cT, Int.toNat_natCast, show ((3 : Int) == 3) = true from rfl, l1, l2, show w64 ((i : Int) + 1) = ((i + 1 : Nat) : Int) from qR (by omega)]
    by_cases h0 : i = 0
    · have : ((i : Int) == 0) = true := by subst h0; rfl
      simp only [this, cT]
      exact add _ c rfl hc
    · have : ((i : Int) == 0) = false := by rw [beqI, dYF (by omega)]
      obtain ⟨b, c1, e1, k1⟩ := q3e hc 2 (by omega) (by omega)
      have e1 : wF (c.1, (c.2.1, c.2.2)) 2 = some (b, (c1, ())) := e1
      simp only [this, cF, e1, oB]
      cases b with
      | true =>
        simp only [cT]
        exact add c1 c1 rfl k1
      | false =>
        simp only [cF]
        exact q6Q u m (i + 1) P c1 (by omega) k1 (h.skip (by omega) (by omega))
theorem q6t (u : Int) : ∀ (m i : Nat) (P : List PF) (c : Cur), m + i = 4 -> Cu c -> FI i P ->
    ∃ (P' : List PF) (c' : Cur), qY fghi (i : Int) c.1 c.2.1 c.2.2 0 0 eB [] 4 u eB (q1K P) = some ((4, (u, (eB, q1K P'))), (c', ())) /\ FI 4 P' /\ Cu c'
  | 0, i, P, c, hm, hc, h => by
    have ei : i = 4 := by omega
    subst ei
    rw [jo]
    simp only [show (fghi.length : Int) = 4 from rfl, dYF (show ¬ ((4 : Nat) : Int) < 4 by omega), cF]
    exact ⟨P, c, rfl, h, hc⟩
  | m + 1, i, P, c, hm, hc, h => by
    have hpl := h.len
    have hkl : (q1K P).length = P.length := List.length_map ..
    have l1 : lim ((q1K P).length + 1) 16 = true := wN (by omega)
    have add : ∀ c1 : Cur, Cu c1 -> ∃ (P' : List PF) (c' : Cur), (qY fghi ((i + 1 : Nat) : Int) c1.1 c1.2.1 c1.2.2 0 0 eB [] 4 u eB (q1K P ++ [gi fghi i])) = some ((4, (u, (eB, q1K P'))), (c', ())) /\ FI 4 P' /\ Cu c' := fun c1 k1 => by
      have := q6t u m (i + 1) (P ++ [(gi fghi i, eB)]) c1 (by omega) k1 (h.add (by omega) (by decide))
      rw [show q1K (P ++ [(gi fghi i, eB)]) = q1K P ++ [gi fghi i] from List.map_append ..] at this
      exact this
    rw [jo]
    simp only [show (fghi.length : Int) = 4 from rfl, dYT (show (i : Int) < 4 by omega), dYT (show (0 : Int) <= (i : Int) by omega), Bool.and_self, cT, Int.toNat_natCast, show ((4 : Int) == 3) = false from rfl, cF, l1, show w64 ((i : Int) + 1) = ((i + 1 : Nat) : Int) from qR (by omega)]
    by_cases h0 : i = 0
    · have : ((i : Int) == 0) = true := by subst h0; rfl
      simp only [this, cT]
      exact add c hc
    · have : ((i : Int) == 0) = false := by rw [beqI, dYF (by omega)]
      obtain ⟨b, c1, e1, k1⟩ := q3e hc 2 (by omega) (by omega)
      have e1 : wF (c.1, (c.2.1, c.2.2)) 2 = some (b, (c1, ())) := e1
      simp only [this, cF, e1, oB]
      cases b with
      | true =>
        simp only [cT]
        exact add c1 k1
      | false =>
        simp only [cF]
        exact q6t u m (i + 1) P c1 (by omega) k1 (h.skip (by omega) (by omega))
theorem q8a (u : Int) : ∀ (m i : Nat) (l : List BA) (c : Cur), m + i = 4 -> Cu c -> l.length = i -> (∀ s ∈ l, s.size <= 60) ->
    ∃ (l' : List BA) (c' : Cur), zJ (i : Int) c.1 c.2.1 c.2.2 0 0 eB [] 2 u eB l = some ((2, (u, (eB, l'))), (c', ())) /\ 1 <= l'.length /\ l'.length <= 4 /\ (∀ s ∈ l', s.size <= 60) /\ Cu c'
  | m, i, l, c, hm, hc, hl, hs => by
    obtain ⟨x, c1, e1, a1, b1, k1⟩ := q1A hc 4 (by omega) (by omega)
    have e1 : yV (c.1, (c.2.1, c.2.2)) 4 = some (x, (c1, ())) := e1
    have w1 : w64 (1 + x) = 1 + x := qH (by omega) (by omega)
    rw [q53]
    simp only [e1, oB, w1]
    by_cases hi : (i : Int) < 1 + x
    · match m, hm with
      | 0, hm => omega
      | m + 1, hm =>
        obtain ⟨w, c2, e2, hw, k2⟩ := q6X k1
        simp only [dYT hi, cT, e2, oB, wN (show (l.length + 1) * 16 <= 140737488355328 by omega), show w64 ((i : Int) + 1) = ((i + 1 : Nat) : Int) from qR (by omega)]
        exact q8a u m (i + 1) (l ++ [w]) c2 (by omega) k2 (by simp [hl]) (fun s hs' => by
          rcases List.mem_append.1 hs' with hs' | hs'
          · exact hs s hs'
          · rw [List.mem_singleton] at hs'; subst hs'; exact hw)
    · simp only [dYF hi, cF]
      exact ⟨l, c1, rfl, by omega, by omega, hs, k1⟩
theorem q8o {c : Cur} (hc : Cu c) (kd u : Int) (hk : 1 <= kd /\ kd <= 4) (hu : 0 <= u /\ u <= 40) : ∃ (v : DV) (c' : Cur),
    (bif (kd == 1) then (wQ c).bind fun r6 => some ((kd, (u, (r6.1, []))), (r6.2.1, ()))
     else bif (kd == 2) then zJ 0 c.1 c.2.1 c.2.2 0 0 eB [] kd u eB []
      else qY [c_f, c_g, c_h, c_i] 0 c.1 c.2.1 c.2.2 0 0 eB [] kd u eB [] : Option (DV × (Cur × Unit))) = some (v, (c', ())) /\ valB v = true /\ v.1 = kd /\ v.2.1 = u /\ Cu c' := by
  have hu' : 0 <= u /\ u <= 100000 := by omega
  have hf : ∀ {P : List PF}, FI 4 P -> ∀ s ∈ yX P, s.size <= 60 := fun h s hs => by
    obtain ⟨p, hp, rfl | rfl⟩ := qbB hs
    · exact of_decide_eq_true (List.all_eq_true.1 q7b _ (List.mem_of_mem_take (h.nam p hp)))
    · exact h.val p hp
  have h4 : kd = 1 \/ kd = 2 \/ kd = 3 \/ kd = 4 := by omega
  rcases h4 with rfl | rfl | rfl | rfl
  · obtain ⟨w, c1, e, hw, k⟩ := q6X hc
    refine ⟨(1, (u, (w, []))), c1, ?_, qbF hu' hw, rfl, rfl, k⟩
    simp only [show ((1 : Int) == 1) = true from rfl, cT, e, oB]
  · obtain ⟨l, c1, e, h1, h2, h3, k⟩ := q8a u 4 0 [] c rfl hc rfl (fun s h => by cases h)
    refine ⟨(2, (u, (eB, l))), c1, ?_, q8F hu' h1 (by omega) h3, rfl, rfl, k⟩
    simp only [show ((2 : Int) == 1) = false from rfl, show ((2 : Int) == 2) = true from rfl, cT, cF]
    exact e
  · obtain ⟨P, c1, e, h, k⟩ := q6Q u 4 0 [] c rfl hc FI.nil
    refine ⟨(3, (u, (eB, yX P))), c1, ?_, qbP hu' (h.pos (by omega)) (by have := h.len; omega) h.asc (hf h), rfl, rfl, k⟩
    simp only [show ((3 : Int) == 1) = false from rfl, show ((3 : Int) == 2) = false from rfl, cF]
    exact e
  · obtain ⟨P, c1, e, h, k⟩ := q6t u 4 0 [] c rfl hc FI.nil
    have hkl : (q1K P).length = P.length := List.length_map ..
    have hp := h.pos (by omega)
    have hpl := h.len
    refine ⟨(4, (u, (eB, q1K P))), c1, ?_, qd4 hu' (by omega) (by omega) ?_ (fun s hs => ?_), rfl, rfl, k⟩
    · simp only [show ((4 : Int) == 1) = false from rfl, show ((4 : Int) == 2) = false from rfl, cF]
      exact e
    · exact List.pairwise_map.2 h.asc
    · obtain ⟨p, hp, rfl⟩ := List.mem_map.1 hs
      exact of_decide_eq_true (List.all_eq_true.1 q7b _ (List.mem_of_mem_take (h.nam p hp)))
theorem qbg {c : Cur} (hc : Cu c) : ∃ (v : DV) (c' : Cur), q1L c = some (v, (c', ())) /\ valB v = true /\ 1 <= v.1 /\ v.1 <= 4 /\ 0 <= v.2.1 /\ v.2.1 <= 40 /\ Cu c' := by
  obtain ⟨x, c1, e1, a1, b1, k1⟩ := q1A hc 4 (by omega) (by omega)
  obtain ⟨b, c2, e2, k2⟩ := q3e k1 4 (by omega) (by omega)
  have w1 : w64 (1 + x) = 1 + x := qH (by omega) (by omega)
  rw [q6h]
  simp only [e1, e2, oB, w1]
  cases b with
  | true =>
    obtain ⟨y, c3, e3, a3, b3, k3⟩ := q1A k2 40 (by omega) (by omega)
    have w3 : w64 (1 + y) = 1 + y := qH (by omega) (by omega)
    obtain ⟨v, c', f1, f2, f3, f4, f5⟩ := q8o k3 (1 + x) (1 + y) (by omega) (by omega)
    simp only [cT, e3, oB, w3]
    exact ⟨v, c', f1, f2, by omega, by omega, by omega, by omega, f5⟩
  | false =>
    obtain ⟨v, c', f1, f2, f3, f4, f5⟩ := q8o k2 (1 + x) 0 (by omega) (by omega)
    simp only [cF]
    exact ⟨v, c', f1, f2, by omega, by omega, by omega, by omega, f5⟩
theorem q7I {t : List DE} (h : t.length <= 20) (ha : Asc t) (hk : ∀ e ∈ t, 1 <= e.1.size /\ e.1.size <= 20 /\ valB e.2 = true) : tabB t = true := by
  unfold tabB
  rw [dYT h, Bool.true_and, List.all_eq_true]
  intro i hi
  have hi := List.mem_range.1 hi
  unfold enB
  have e : ge t i = t[i] := wm hi
  obtain ⟨k1, k2, k3⟩ := hk (ge t i) (by rw [e]; exact List.getElem_mem hi)
  rw [dYT k1, dYT k2, k3]
  by_cases h0 : 0 < i
  · have : blt (ge t (i - 1)).1 (ge t i).1 = true := by
      rw [e, show ge t (i - 1) = t[i - 1]'(by omega) from wm (by omega)]
      unfold Asc at ha
      rw [List.pairwise_iff_getElem] at ha
      exact ha (i - 1) i (by omega) hi (by omega)
    rw [this]; simp
  · rw [dYF h0]; rfl
structure TI (ks : List BA) (i : Nat) (t : List DE) : Prop where
  asc : Asc t
  nam : ∀ e ∈ t, e.1 ∈ ks.take i
  val : ∀ e ∈ t, valB e.2 = true /\ 1 <= e.2.1 /\ e.2.1 <= 4 /\ 0 <= e.2.2.1 /\ e.2.2.1 <= 40
  len : t.length <= i
theorem TI.add {ks : List BA} {i : Nat} {t : List DE} (h : TI ks i t) (hi : i < ks.length) (hlt : ∀ s ∈ ks.take i, blt s (gi ks i) = true) {v : DV} (hv : valB v = true /\ 1 <= v.1 /\ v.1 <= 4 /\ 0 <= v.2.1 /\ v.2.1 <= 40) : TI ks (i + 1) (t ++ [(gi ks i, v)]) := by
  refine ⟨?_, fun p hp => ?_, fun p hp => ?_, by have := h.len; simp; omega⟩
  · unfold Asc
    refine List.pairwise_append.2 ⟨h.asc, List.pairwise_singleton _ _, fun a ha b hb => ?_⟩
    rw [List.mem_singleton] at hb; subst hb
    exact hlt _ (h.nam a ha)
  · rw [q2Q hi]
    rcases List.mem_append.1 hp with hp | hp
    · exact List.mem_append.2 (.inl (h.nam p hp))
    · rw [List.mem_singleton] at hp; subst hp
      exact List.mem_append.2 (.inr (List.mem_singleton_self _))
  · rcases List.mem_append.1 hp with hp | hp
    · exact h.val p hp
    · rw [List.mem_singleton] at hp; subst hp; exact hv
theorem TI.skip {ks : List BA} {i : Nat} {t : List DE} (h : TI ks i t) (hi : i < ks.length) : TI ks (i + 1) t := by
  refine ⟨h.asc, fun p hp => ?_, h.val, by have := h.len; omega⟩
  rw [q2Q hi]
  exact List.mem_append.2 (.inl (h.nam p hp))
theorem TI.nil (ks : List BA) : TI ks 0 [] := ⟨List.Pairwise.nil, fun p h => (by cases h), fun p h => (by cases h), (by simp)⟩
structure Dt (t : List DE) : Prop where
  tab : tabB t = true
  val : ∀ e ∈ t, valB e.2 = true /\ 1 <= e.2.1 /\ e.2.1 <= 4 /\ 0 <= e.2.2.1 /\ e.2.2.1 <= 40
def q2p : List BA := [c_a, c_b, c_c, c_d, qcw, c_kk]
theorem qbb : ((List.range 6).all fun i => (q2p.take i).all fun s => blt s (q2p.getD i eB)) = true := by decide +kernel
theorem qaD : (q2p.all fun s => decide (1 <= s.size) && decide (s.size <= 20)) = true := by decide +kernel
def kks : List BA := (List.range 20).map fun j => c_k ++ mkB [UInt8.ofNat (48 + (10 + j) / 10), UInt8.ofNat (48 + (10 + j) % 10)]
theorem qd3 : ((List.range 20).all fun i => (kks.take i).all fun s => blt s (kks.getD i eB)) = true := by decide +kernel
theorem qcf : (kks.all fun s => decide (1 <= s.size) && decide (s.size <= 20)) = true := by decide +kernel
theorem qcH (n : Nat) (h1 : 10 <= n) (h2 : n < 100) : decB (n : Int) = mkB [UInt8.ofNat (48 + n / 10), UInt8.ofNat (48 + n % 10)] := by
  rw [q0s, Lib.decDigits, dif_neg (by omega), Lib.decDigits, dif_pos (by omega)]
  rfl
theorem qdt {j : Nat} (h : j < 20) : c_k ++ decB ((10 + j : Nat) : Int) = gi kks j := by
  rw [qcH (10 + j) (by omega) (by omega)]
  simp only [gi, List.getD_eq_getElem?_getD, kks]
  rw [List.getElem?_map, List.getElem?_range h]
  rfl
theorem TI.dt {ks : List BA} {i : Nat} {t : List DE} (h : TI ks i t) (hi : i <= 20) (hs : (ks.all fun s => decide (1 <= s.size) && decide (s.size <= 20)) = true) : Dt t := by
  refine ⟨q7I (by have := h.len; omega) h.asc fun e he => ?_, h.val⟩
  have := List.all_eq_true.1 hs _ (List.mem_of_mem_take (h.nam e he))
  simp only [Bool.and_eq_true, decide_eq_true_eq] at this
  exact ⟨this.1, this.2, (h.val e he).1⟩
theorem q84 : ∀ (m i : Nat) (t : List DE) (c : Cur), m + i = 20 -> Cu c -> TI kks i t -> ∃ (t' : List DE) (c' : Cur), jW t (i : Int) c.1 c.2.1 c.2.2 = some (t', (c', ())) /\ Dt t' /\ Cu c'
  | m, i, t, c, hm, hc, h => by
    obtain ⟨x, c1, e1, a1, b1, k1⟩ := q1A hc 2 (by omega) (by omega)
    have e1 : yV (c.1, (c.2.1, c.2.2)) 2 = some (x, (c1, ())) := e1
    have w1 : w64 (20 - x) = 20 - x := qH (by omega) (by omega)
    have hlen := h.len
    rw [q3X]
    simp only [e1, oB, w1]
    by_cases hi : (i : Int) < 20 - x
    · match m, hm with
      | 0, hm => omega
      | m + 1, hm =>
        obtain ⟨v, c2, e2, hv, v1, v2, v3, v4, k2⟩ := qbg k1
        have w2 : w64 (10 + (i : Int)) = ((10 + i : Nat) : Int) := by rw [show w64 (10 + (i : Int)) = 10 + (i : Int) from qH (by omega) (by omega)]; omega
        have hd := jJ ((10 + i : Nat) : Int) (by omega) (by omega)
        have hck : (c_k : BA).size = 1 := rfl
        have hls : limS ((c_k : BA).size + (decB ((10 + i : Nat) : Int)).size) = true := qN (by omega)
        have ih := q84 m (i + 1) (t ++ [(gi kks i, v)]) c2 (by omega) k2 (h.add (show i < 20 by omega) (fun s hs => List.all_eq_true.1 (List.all_eq_true.1 qd3 i (List.mem_range.2 (by omega))) s hs) ⟨hv, v1, v2, v3, v4⟩)
        simp only [dYT hi, cT, w2, q0e ((10 + i : Nat) : Int) (by omega) (by omega), oB, hls, e2, wN (show (t.length + 1) * 72 <= 140737488355328 by omega), show w64 ((i : Int) + 1) = ((i + 1 : Nat) : Int) from qR (by omega), qdt (show i < 20 by omega)]
        exact ih
    · simp only [dYF hi, cF]
      exact ⟨t, c1, rfl, h.dt (by omega) qcf, k1⟩
theorem q5l : ∀ (m i : Nat) (t : List DE) (c : Cur), m + i = 6 -> Cu c -> TI q2p i t -> ∃ (t' : List DE) (c' : Cur), zO t q2p (i : Int) c.1 c.2.1 c.2.2 = some (t', (c', ())) /\ Dt t' /\ Cu c'
  | 0, i, t, c, hm, hc, h => by
    obtain ⟨b, c1, e1, k1⟩ := q3e hc 20 (by omega) (by omega)
    have e1 : wF (c.1, (c.2.1, c.2.2)) 20 = some (b, (c1, ())) := e1
    rw [q1u]
    simp only [show (q2p.length : Int) = 6 from rfl, dYF (show ¬ (i : Int) < 6 by omega), cF, e1, oB]
    cases b with
    | true =>
      simp only [cT]
      exact q84 20 0 [] c1 rfl k1 (TI.nil kks)
    | false =>
      simp only [cF]
      exact ⟨t, c1, rfl, h.dt (by omega) qaD, k1⟩
  | m + 1, i, t, c, hm, hc, h => by
    obtain ⟨b, c1, e1, k1⟩ := q3e hc 3 (by omega) (by omega)
    have e1 : wF (c.1, (c.2.1, c.2.2)) 3 = some (b, (c1, ())) := e1
    have hlen := h.len
    rw [q1u]
    simp only [show (q2p.length : Int) = 6 from rfl, dYT (show (i : Int) < 6 by omega), cT, e1, oB, dYT (show (0 : Int) <= (i : Int) by omega), Bool.and_self, Int.toNat_natCast, show w64 ((i : Int) + 1) = ((i + 1 : Nat) : Int) from qR (by omega)]
    cases b with
    | true =>
      simp only [Bool.not_true, cF]
      exact q5l m (i + 1) t c1 (by omega) k1 (h.skip (show i < 6 by omega))
    | false =>
      obtain ⟨v, c2, e2, hv, v1, v2, v3, v4, k2⟩ := qbg k1
      have ih := q5l m (i + 1) (t ++ [(gi q2p i, v)]) c2 (by omega) k2 (h.add (show i < 6 by omega) (fun s hs => List.all_eq_true.1 (List.all_eq_true.1 qbb i (List.mem_range.2 (by omega))) s hs) ⟨hv, v1, v2, v3, v4⟩)
      simp only [Bool.not_false, cT, e2, oB, wN (show (t.length + 1) * 72 <= 140737488355328 by omega)]
      exact ih
theorem q8n {c : Cur} (hc : Cu c) : ∃ (t : List DE) (c' : Cur), q0R c = some (t, (c', ())) /\ Dt t /\ Cu c' := by
  rw [q5m]
  exact q5l 6 0 [] c rfl hc (TI.nil q2p)
theorem q7o (code : List Int) (hl : code.length <= 1048576) : ∃ a b : List DE, q1k code = some ((a, b), ()) /\ Dt a /\ Dt b := by
  obtain ⟨c, e, k⟩ := qdl code hl
  obtain ⟨a, c1, e1, h1, k1⟩ := q8n k
  obtain ⟨b, c2, e2, h2, _⟩ := q8n k1
  rw [q4C, e]
  simp only [oB, e1, e2]
  exact ⟨a, b, rfl, h1, h2⟩
end Go.Den.S
