/- PvC: equations of the functions of this seat as the executor tells them, or plain facts about them. Conditions: none here. -/
import Derived.Test.YtbgaejnkjmjkhaaDoorPvB
set_option linter.all false
namespace Go.Den.S
open Go Go.Den
structure Sh (l : List BA) : Prop where
 len : l.length <= 24
 sz : ∀ s ∈ l, s.size <= 60
theorem Sh.ok {l : List BA} (h : Sh l) : l = [] \/ valB (2, (0, (eB, l))) = true := by
 cases l with
 | nil => exact .inl rfl
 | cons a r => exact .inr (q8F (by decide) (by simp) h.len h.sz)
theorem Sh.tab {l : List BA} (h : Sh l) : tabB (oneT c_q 2 l) = true := qd8 kq h.ok
theorem Sh.bd {l : List BA} (h : Sh l) : Bd (oneT c_q 2 l) := q1q h.tab
theorem Sh.drop {l : List BA} (h : Sh l) (i : Nat) : Sh (l.drop i) := ⟨by have := h.len; rw [List.length_drop]; omega, fun s hs => h.sz s (List.mem_of_mem_drop hs)⟩
theorem Sh.take {l : List BA} (h : Sh l) (i : Nat) : Sh (l.take i) := ⟨by have := h.len; rw [List.length_take]; omega, fun s hs => h.sz s (List.mem_of_mem_take hs)⟩
theorem w2 : wB [q8N, c_q] <= 1048576 /\ wB [q8m, c_q] <= 1048576 /\ wB [q81, c_q] <= 1048576 := by
 refine ⟨?_, ?_, ?_⟩ <;> exact wsm (by decide) (fun s hs => by revert s; decide)
theorem q2Q {l : List BA} {i : Nat} (h : i < l.length) : l.take (i + 1) = l.take i ++ [gi l i] := by
 rw [List.take_add_one, List.getElem?_eq_getElem h]
 simp only [gi, List.getD_eq_getElem?_getD, List.getElem?_eq_getElem h, Option.toList, Option.getD]
end Go.Den.S
