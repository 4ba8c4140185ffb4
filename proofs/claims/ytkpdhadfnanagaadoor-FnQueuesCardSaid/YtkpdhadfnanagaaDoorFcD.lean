/- FcD: equations of the functions of this seat as the executor tells them, or plain facts about them. Conditions: none here. -/
import Derived.Test.YtkpdhadfnanagaaDoorFcC
set_option linter.all false
namespace Go.Den.S
open Go Go.Den
/-! ### queues -/
theorem wl_small {a : List ByteArray} (h8 : a.length ≤ 8) (hA : AllS a) : wl ByteArray.size a ≤ 200 := by
  have : ∀ l : List ByteArray, (∀ s ∈ l, s.size ≤ 20) → (l.map ByteArray.size).sum ≤ 20 * l.length := by
    intro l
    induction l with
    | nil => intro _; simp
    | cons x l ih =>
      intro h
      have h1 := h x (List.mem_cons_self ..)
      have h2 := ih fun y hy => h y (List.mem_cons_of_mem _ hy)
      simp only [List.map_cons, List.sum_cons, List.length_cons]; omega
  have := this a hA
  unfold wl
  omega
/-- A connection between MULTI and EXEC. -/
def qcn (b : Bool) (G : List (List ByteArray)) : D_Conn := (c_rest, (true, (b, (G, false))))
theorem one_D (b : Bool) (G : List (List ByteArray)) : settleB (qcn b G) [c_DISCARD] = (plainC (qcn b G), ([], (simpB c_OK, 0))) := by
  unfold settleB
  simp only
  rw [show decide (upB c_DISCARD = c_MULTI) = false by decide +kernel, show decide (upB c_DISCARD = c_DISCARD) = true by decide +kernel]
  rfl
theorem one_E (b : Bool) (G : List (List ByteArray)) : settleB (qcn b G) [c_EXEC] = (plainC (qcn b G), bif b then ([], (faultB c_EXECABORT, 0)) else (G, (ByteArray.empty, 2))) := by
  unfold settleB
  simp only
  rw [show decide (upB c_EXEC = c_MULTI) = false by decide +kernel, show decide (upB c_EXEC = c_DISCARD) = false by decide +kernel, show decide (upB c_EXEC = c_EXEC) = true by decide +kernel]
  cases b <;> rfl
theorem settle_tail (b : Bool) (G : List (List ByteArray)) {a : List ByteArray} (ha : a ≠ []) (h1 : upB (a.getD 0 ByteArray.empty) ≠ c_MULTI) (h2 : upB (a.getD 0 ByteArray.empty) ≠ c_EXEC) (h3 : upB (a.getD 0 ByteArray.empty) ≠ c_DISCARD) : settleB (qcn b G) a = tailB (qcn b G) a := by
  match a, ha with
  | [x], _ =>
    have h1 : upB x ≠ c_MULTI := h1
    have h2 : upB x ≠ c_EXEC := h2
    have h3 : upB x ≠ c_DISCARD := h3
    unfold settleB
    simp only
    rw [decF h1, decF h2, decF h3]; rfl
  | x :: y :: r, _ => rfl
theorem tail_q' (b : Bool) (G : List (List ByteArray)) (a : List ByteArray) (hG : G.length ≤ 4) : tailB (qcn b G) a = if unkB a = ByteArray.empty then (qcn b (G ++ [a]), ([], (simpB c_QUEUED, 0))) else (qcn true G, ([], (unkB a, 0))) := by
  unfold tailB qcn badC
  simp only [Bool.not_true, cond_false]
  by_cases h : unkB a = ByteArray.empty
  · rw [decT h, if_pos h, decF (by omega)]; rfl
  · rw [decF h, if_neg h]; rfl
theorem good_loop (G : List (List ByteArray)) (hG : G.length ≤ 4) (hl : ∀ a ∈ G, a.length ≤ 8) : ∀ (r : List (List ByteArray)) (i : Nat), G.drop i = r → i + r.length = G.length → laws_FnQueues_L2 G G (i : Int) = some (true, ())
  | [], i, hd, hi => by rw [laws_FnQueues_L2_eq, decF (by simp at hi; omega), cond_false]
  | a :: r, i, hd, hi => by
    rw [List.length_cons] at hi
    obtain ⟨hg, hm, hd'⟩ := drop_get (d := []) hd
    have e1 : w64 ((i : Int) + 1) = ((i + 1 : Nat) : Int) := wrap_succ (by omega)
    rw [laws_FnQueues_L2_eq, decT (show (i : Int) < (G.length : Int) by omega), decT (show (0 : Int) ≤ (i : Int) by omega)]
    have := hl a hm
    simp only [Int.toNat_natCast, hg, Bool.and_self, cond_true, sameTexts_ok a a (by omega), Option.bind_some, decide_true, Bool.not_true, cond_false, e1]
    exact good_loop G hG hl r (i + 1) hd' (by omega)
theorem abort_is : faultB c_EXECABORT = c__EXECABORT___12_584111 := by decide +kernel
theorem queued_is : simpB c_QUEUED = c__QUEUED___9_151541 := by decide +kernel
theorem ok_is : simpB c_OK = c__OK___5_540711 := by decide +kernel
theorem queue_end (L G : List (List ByteArray)) (b : Bool) (i : Nat) (hi : i = L.length) (hG : G.length ≤ 4) (hw : wSS G ≤ 1200) (hl : ∀ a ∈ G, a.length ≤ 8) : laws_FnQueues_L0 L G b (i : Int) c_rest true b G false = some (true, ()) := by
  rw [laws_FnQueues_L0_eq, decF (by omega), cond_false]
  have w1 : wl ByteArray.size [c_DISCARD] = 8 := by decide +kernel
  have w2 : wl ByteArray.size [c_EXEC] = 5 := by decide +kernel
  have hDISCARD : wSS (qcn b G).2.2.2.1 + wl ByteArray.size [c_DISCARD] ≤ 1048576 := by show wSS G + _ ≤ _; omega
  have hEXEC : wSS (qcn b G).2.2.2.1 + wl ByteArray.size [c_EXEC] ≤ 1048576 := by show wSS G + _ ≤ _; omega
  have hs1 : impl_Settle (c_rest, (true, (b, (G, false)))) [c_DISCARD] = some ((plainC (qcn b G), ([], (simpB c_OK, 0))), ()) := by
    have := impl_Settle_ok (qcn b G) [c_DISCARD] (hDISCARD)
    rw [one_D] at this; exact this
  have hs2 : impl_Settle (c_rest, (true, (b, (G, false)))) [c_EXEC] = some ((plainC (qcn b G), bif b then ([], (faultB c_EXECABORT, 0)) else (G, (ByteArray.empty, 2))), ()) := by
    have := impl_Settle_ok (qcn b G) [c_EXEC] (hEXEC)
    rw [one_E] at this; exact this
  rw [hs1, hs2]
  have hp : plainC (qcn b G) = pcn c_rest := rfl
  rw [hp]
  simp only [Option.bind_some, bytes_eq, impl_ConnOk_ok _ (pcn_q _), pcn_ok c_rest (by decide)]
  cases b with
  | true =>
    rw [abort_is]
    simp [pcn]
  | false =>
    have := good_loop G hG hl G 0 rfl (by omega)
    rw [show ((0 : Nat) : Int) = 0 from rfl] at this
    simp [pcn, this]
theorem queue_loop (L : List (List ByteArray)) (hL : L.length ≤ 4) (ha : ∀ a ∈ L, a.length ≤ 8 ∧ AllS a) : ∀ (r : List (List ByteArray)) (i : Nat) (G : List (List ByteArray)) (b : Bool), L.drop i = r → i + r.length = L.length → G.length ≤ i → wSS G ≤ 300 * i → (∀ a ∈ G, a.length ≤ 8) →
    laws_FnQueues_L0 L G b (i : Int) c_rest true b G false = some (true, ())
  | [], i, G, b, hd, hi, hG, hw, hl => queue_end L G b i (by simpa using hi) (by simp at hi; omega) (by simp at hi; omega) hl
  | a :: r, i, G, b, hd, hi, hG, hw, hl => by
    rw [List.length_cons] at hi
    obtain ⟨hg, hm, hd'⟩ := drop_get (d := []) hd
    obtain ⟨h8, hA⟩ := ha a hm
    have hwa := wl_small h8 hA
    have e1 : w64 ((i : Int) + 1) = ((i + 1 : Nat) : Int) := wrap_succ (by omega)
    have ih := fun G' b' h1 h2 h3 => queue_loop L hL ha r (i + 1) G' b' hd' (by omega) h1 h2 h3
    have hskip := ih G b (by omega) (by omega) hl
    have k1 : decide ((i : Int) < (L.length : Int)) = true := decT (by omega)
    have k2 : decide ((0 : Int) ≤ (i : Int)) = true := decT (by omega)
    rw [laws_FnQueues_L0_eq]
    simp only [k1, k2, Int.toNat_natCast, Int.toNat_zero, hg, Bool.and_self, cond_true]
    by_cases h0 : a = []
    · subst h0
      rw [decF (show ¬ ((([] : List ByteArray).length : Int) > 0) by simp), cond_false, laws_FnQueues_L1500014_eq]
      simp only [k1, k2, Int.toNat_natCast, hg, Bool.and_self, cond_true, laws_FnQueues_L1000001_eq, e1, hskip]
      rfl
    · have hpos : 0 < a.length := List.length_pos_iff.2 h0
      have hx := AllS_get hA 0
      rw [decT (show (a.length : Int) > 0 by omega), spec_Upper_ok _ (by omega)]
      simp only [Int.le_refl, decide_true, cond_true, Bool.and_self, Option.bind_some]
      rw [laws_FnQueues_L1500014_eq]
      simp only [k1, k2, Int.toNat_natCast, hg, Bool.and_self, cond_true, laws_FnQueues_L1000001_eq, e1, hskip, bytes_eq]
      rw [eqF (show ¬ (a.length : Int) = 0 by omega)]
      by_cases n1 : upB (a.getD 0 ByteArray.empty) = c_MULTI
      · rw [decT n1]; rfl
      · by_cases n2 : upB (a.getD 0 ByteArray.empty) = c_EXEC
        · rw [decF n1, decT n2]; rfl
        · by_cases n3 : upB (a.getD 0 ByteArray.empty) = c_DISCARD
          · rw [decF n1, decF n2, decT n3]; rfl
          · rw [decF n1, decF n2, decF n3]
            have hset : impl_Settle (c_rest, (true, (b, (G, false)))) a = some (tailB (qcn b G) a, ()) := by
              have := impl_Settle_ok (qcn b G) a (by show wSS G + _ ≤ _; omega)
              rw [settle_tail b G h0 n1 n2 n3] at this
              exact this
            rw [hset, tail_q' b G a (by omega), spec_Unknown_ok a (by omega) fun s hs => by have := hA s hs; omega]
            simp only [cond_false, Option.bind_some]
            by_cases hu : unkB a = ByteArray.empty
            · rw [if_pos hu, decT hu, queued_is]
              have hn := ih (G ++ [a]) b (by simp; omega) (by rw [wSS_app]; omega) fun y hy => by
                rcases List.mem_append.1 hy with hy | hy
                · exact hl y hy
                · rw [List.mem_singleton.1 hy]; exact h8
              rw [laws_FnQueues_L1500019_eq]
              simp only [laws_FnQueues_L1500022_eq, laws_FnQueues_L1000001_eq, e1, hg, k1, k2, Int.toNat_natCast, bytes_eq, hu, lim_true (show (G.length + 1) * 24 ≤ 140737488355328 by omega), decide_true, cond_true, Bool.and_self, Bool.not_true]
              unfold qcn
              simp only [hn]
              cases b with
              | true => simp; exact hn
              | false => simp; exact hn
            · rw [if_neg hu, decF hu]
              have hn := ih G true (by omega) (by omega) hl
              rw [laws_FnQueues_L1500019_eq]
              simp only [laws_FnQueues_L1500022_eq, laws_FnQueues_L1000001_eq, e1, bytes_eq, decF hu, cond_false, Bool.not_false]
              unfold qcn
              simp only [hn]
              cases b <;> simp [hn]
theorem law_FnQueues (code : List Int) : laws_FnQueues code = some (true, ()) := by
  rw [laws_FnQueues_eq, laws_big_eq]
  by_cases hb : (code.length : Int) > 1048576
  · simp only [decT hb, Option.bind_some, cond_true]
  · simp only [decF hb, Option.bind_some, cond_false]
    obtain ⟨L, e, h1, h2⟩ := DrawWords_ok code (by omega)
    have hs : impl_Settle (c_rest, (false, (false, ([], false)))) [c_multi] = some ((qcn false [], ([], (simpB c_OK, 0))), ()) := by
      have := impl_Settle_ok (pcn c_rest) [c_multi] (by
        have h1 : wl ByteArray.size [c_multi] = 6 := by decide +kernel
        have h2 : wSS (pcn c_rest).2.2.2.1 = 0 := by simp [pcn, wSS, wl]
        omega)
      have h3 : settleB (pcn c_rest) [c_multi] = (qcn false [], ([], (simpB c_OK, 0))) := by
        unfold settleB
        simp only
        rw [show decide (upB c_multi = c_MULTI) = true by decide +kernel]
        rfl
      rw [h3] at this
      exact this
    rw [e, hs, ok_is]
    have := queue_loop L h1 h2 L 0 [] false rfl (by omega) (by simp) (by simp [wSS, wl]) (fun a h => by cases h)
    rw [show ((0 : Nat) : Int) = 0 from rfl] at this
    simp only [Option.bind_some, bytes_eq, decide_true, Bool.not_true, cond_false, qcn, this]
    simp
end Go.Den.S
