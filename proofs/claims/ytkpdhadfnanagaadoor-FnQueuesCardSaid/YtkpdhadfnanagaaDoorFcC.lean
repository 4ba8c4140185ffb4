/- FcC: equations of the functions of this seat as the executor tells them, or plain facts about them. Conditions: none here. -/
import Derived.Test.YtkpdhadfnanagaaDoorFcB
set_option linter.all false
namespace Go.Den.S
open Go Go.Den
/-! ### drawn requests -/
theorem words_loop' : ∀ (m i : Nat) (L : List (List ByteArray)) (c : Cur), m + i = 4 → L.length = i → (∀ a ∈ L, a.length ≤ 8 ∧ AllS a) → Cu c → ∃ L' : List (List ByteArray), spec_DrawWords_L0 L (i : Int) c.1 c.2.1 c.2.2 = some (L', ()) ∧ L'.length ≤ 4 ∧ ∀ a ∈ L', a.length ≤ 8 ∧ AllS a
  | m, i, L, c, hm, hl, ha, hc => by
    obtain ⟨x, c1, e1, a1, b1, k1⟩ := below_ok hc 5 (by omega) (by omega)
    have e1 : spec_l01Below (c.1, (c.2.1, c.2.2)) 5 = some (x, (c1, ())) := e1
    rw [spec_DrawWords_L0_eq]
    simp only [e1, Option.bind_some]
    by_cases hi : (i : Int) < x
    · match m, hm with
      | 0, hm => omega
      | m + 1, hm =>
        obtain ⟨l, c2, e2, h1, h2, k2⟩ := Args_G k1
        simp only [decide_eq_true hi, cond_true, e2, Option.bind_some, lim_true (show (L.length + 1) * 24 ≤ 140737488355328 by omega), show w64 ((i : Int) + 1) = ((i + 1 : Nat) : Int) from wrap_succ (by omega)]
        exact words_loop' m (i + 1) (L ++ [l]) c2 (by omega) (by simp; omega) (fun a h => by
          rcases List.mem_append.1 h with h | h
          · exact ha a h
          · rw [List.mem_singleton.1 h]; exact ⟨h1, h2⟩) k2
    · simp only [decide_eq_false hi, cond_false]
      exact ⟨L, rfl, by omega, ha⟩
theorem DrawWords_ok (code : List Int) (hl : code.length ≤ 1048576) : ∃ L : List (List ByteArray), spec_DrawWords code = some (L, ()) ∧ L.length ≤ 4 ∧ ∀ a ∈ L, a.length ≤ 8 ∧ AllS a := by
  obtain ⟨c, e, k⟩ := new_ok code hl
  obtain ⟨L, e2, h1, h2⟩ := words_loop' 4 0 [] c rfl rfl (fun a h => by cases h) k
  refine ⟨L, ?_, h1, h2⟩
  rw [spec_DrawWords_eq, e]
  simp only [Option.bind_some]
  exact e2
/-- A connection that is plain. -/
def pcn (t : ByteArray) : D_Conn := (t, (false, (false, ([], false))))
theorem pcn_ok (t : ByteArray) (h : t.size ≤ 2000) : connB (pcn t) = true := by
  unfold connB pcn
  simp [anyUnk]
  omega
theorem pcn_q (t : ByteArray) : wSS (pcn t).2.2.2.1 ≤ 2097152 := by simp [pcn, wSS, wl]
theorem drop_get {α : Type} {L r : List α} {a d : α} {i : Nat} (hd : L.drop i = a :: r) : L.getD i d = a ∧ a ∈ L ∧ L.drop (i + 1) = r := by
  refine ⟨?_, List.mem_of_mem_drop (by rw [hd]; exact List.mem_cons_self ..), by rw [← List.drop_drop, hd]; rfl⟩
  have := congrArg (·.head?) hd
  simp only [List.head?_drop, List.head?_cons] at this
  rw [List.getD_eq_getElem?_getD, this]; rfl
end Go.Den.S
