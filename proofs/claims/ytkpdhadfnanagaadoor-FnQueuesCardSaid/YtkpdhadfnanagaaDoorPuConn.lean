/- PuConn: equations of the functions of this seat as the executor tells them, or plain facts about them. Conditions: none here. -/
import Derived.Test.YtkpdhadfnanagaaDoorPuUnk
set_option linter.all false
namespace Go.Den.S
open Go Go.Den
/-- A request list that is not too great. -/
def wSS (q : List (List ByteArray)) : Nat := wl (wl ByteArray.size) q
theorem ss_mem {q : List (List ByteArray)} (h : wSS q ≤ 2097152) {a : List ByteArray} (ha : a ∈ q) : a.length ≤ 2097152 ∧ ∀ s ∈ a, s.size ≤ 2097152 := by
  have h1 : wl ByteArray.size a ≤ 2097152 := wl_mem (f := wl ByteArray.size) h ha
  exact ⟨wl_len h1, fun s hs => wl_mem h1 hs⟩
theorem ConnOk_1_ok (a : List ByteArray) (hl : a.length ≤ 2097152) (hs : ∀ s ∈ a, s.size ≤ 2097152) : impl_ConnOk_1 a = some (!(decide (unkB a = ByteArray.empty)), ()) := by
  rw [impl_ConnOk_1_eq, impl_Unknown_ok a hl hs, Option.bind_some, bytes_eq]
/-- Is one of them no command? -/
def anyUnk (q : List (List ByteArray)) : Bool := q.any fun a => !(decide (unkB a = ByteArray.empty))
theorem IndexFunc_ok (q : List (List ByteArray)) (h : wSS q ≤ 2097152) : ∃ n : Int, slices_IndexFunc_____string___string_ q () = some (n, ((), ())) ∧ decide (n ≥ 0) = anyUnk q := by
  have hlen : q.length ≤ 2097152 := wl_len (f := wl ByteArray.size) h
  rw [slices_IndexFunc_____string___string__eq]
  refine list_ind q [] (fun i r => ∃ n : Int, slices_IndexFunc_____string___string__L0 q (q.length : Int) (i : Int) = some (n, ((), ())) ∧ decide (n ≥ 0) = anyUnk r) ?_ fun i y r hi hy hm ih => ?_
  · rw [slices_IndexFunc_____string___string__L0_eq]
    exact ⟨-1, by simp, by simp [anyUnk]⟩
  · rw [slices_IndexFunc_____string___string__L0_eq]
    have k1 : decide ((i : Int) < (q.length : Int)) = true := decide_eq_true (by omega)
    have k3 : decide (0 ≤ (i : Int)) = true := decide_eq_true (by omega)
    have k4 : w64 ((i : Int) + 1) = ((i + 1 : Nat) : Int) := wrap_succ (by omega)
    obtain ⟨h1, h2⟩ := ss_mem h hm
    simp only [k1, k3, k4, Bool.and_self, cond_true, Int.toNat_natCast, hy, ConnOk_1_ok y h1 h2, Option.bind_some]
    cases hb : decide (unkB y = ByteArray.empty) with
    | false => exact ⟨i, by simp, by simp [anyUnk, hb]⟩
    | true =>
      obtain ⟨n, e1, e2⟩ := ih
      exact ⟨n, by simp only [Bool.not_true, cond_false, e1], by rw [e2]; simp [anyUnk, hb]⟩
theorem ContainsFunc_ok (q : List (List ByteArray)) (h : wSS q ≤ 2097152) : slices_ContainsFunc_____string___string_ q () = some (anyUnk q, ((), ())) := by
  obtain ⟨n, e1, e2⟩ := IndexFunc_ok q h
  rw [slices_ContainsFunc_____string___string__eq, e1, Option.bind_some, e2]
/-- Is a connection right? -/
def connB (c : D_Conn) : Bool :=
  decide ((c.1.size : Int) ≤ 2000) && (decide ((c.2.2.2.1.length : Int) ≤ 8) && (!(anyUnk c.2.2.2.1) && ((c.2.1 || (((c.2.2.2.1.length : Int) == 0) && !c.2.2.1)) && (!c.2.2.2.2 || (decide (c.1 = ByteArray.empty) && !c.2.1)))))
theorem impl_ConnOk_ok (c : D_Conn) (h : wSS c.2.2.2.1 ≤ 2097152) : impl_ConnOk c = some (connB c, ()) := by
  rw [impl_ConnOk_eq, ContainsFunc_ok _ h]
  simp only [Option.bind_some, bytes_eq, connB]
  by_cases h1 : (c.1.size : Int) > 2000
  · simp [h1]; omega
  · have h1' : decide ((c.1.size : Int) ≤ 2000) = true := decide_eq_true (by omega)
    by_cases h2 : (c.2.2.2.1.length : Int) > 8
    · simp [h2]; omega
    · have h2' : decide ((c.2.2.2.1.length : Int) ≤ 8) = true := decide_eq_true (by omega)
      simp only [decide_eq_false h1, decide_eq_false h2, h1', h2', cond_false, Bool.true_and]
      generalize anyUnk c.2.2.2.1 = b1
      generalize c.2.1 = b2
      generalize c.2.2.1 = b3
      generalize c.2.2.2.2 = b4
      generalize ((c.2.2.2.1.length : Int) == 0) = b5
      generalize decide (c.1 = ByteArray.empty) = b6
      cases b1 <;> cases b2 <;> cases b3 <;> cases b4 <;> cases b5 <;> cases b6 <;> rfl
end Go.Den.S
