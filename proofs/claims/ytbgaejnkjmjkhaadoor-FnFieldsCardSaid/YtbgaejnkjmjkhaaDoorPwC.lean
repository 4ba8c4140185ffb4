/- PwC: equations of the functions of this seat as the executor tells them, or plain facts about them. Conditions: none here. -/
import Derived.Test.YtbgaejnkjmjkhaaDoorPwB
set_option linter.all false
namespace Go.Den.S
open Go Go.Den
theorem q6l : upB wN = wN := by decide +kernel
theorem q68 : upB wM = wM := by decide +kernel
theorem q6e : upB za = za := by decide +kernel
theorem q6i : upB zI = zI := by decide +kernel
theorem q3t : upB yQ = yQ := by decide +kernel
theorem q5h : upB zY = zY := by decide +kernel
theorem qfh : ¬ wM = wN := by decide +kernel
theorem qbn : ¬ za = wN /\ ¬ za = wM := ⟨by decide +kernel, by decide +kernel⟩
theorem q8g : ¬ zI = wN /\ ¬ zI = wM /\ ¬ zI = za := ⟨by decide +kernel, by decide +kernel, by decide +kernel⟩
theorem q3w : ¬ yQ = wN /\ ¬ yQ = wM /\ ¬ yQ = za /\ ¬ yQ = zI := ⟨by decide +kernel, by decide +kernel, by decide +kernel, by decide +kernel⟩
theorem q42 : ¬ zY = wN /\ ¬ zY = wM /\ ¬ zY = za /\ ¬ zY = zI /\ ¬ zY = yQ := ⟨by decide +kernel, by decide +kernel, by decide +kernel, by decide +kernel, by decide +kernel⟩
section
variable {k : BA} (hk : 1 <= k.size /\ k.size <= 20) {P : List PF} (hl : qb P = [] \/ valB (3, (0, (eB, qb P))) = true)
include hk hl
theorem qf9 (x v : BA) (hr : tabB (oneT k 3 (qb (setF P x v))) = true) : wX (oneT k 3 (qb P)) [wN, k, x, v] = (oneT k 3 (qb (setF P x v)), (numB (bif hasF P x then 0 else 1), true)) := by
 unfold wX
 rw [show isB (oneT k 3 (qb P)) [wN, k, x, v] fldN = true from q2g (yO hk hl) (by rw [q6l]; decide +kernel) (by rw [q6l]; decide +kernel) (by rw [q6l, ar_3 (by decide +kernel)]; rfl)]
 dsimp only
 unfold fldD
 simp only [cT, q6l, zS, cF, decide_true, q0b, jO, show gi [x, v] 0 = x from rfl, show gi [x, v] 1 = v from rfl]
 rw [qev, <- q17 (qfc P x v)]
 exact jH hr
theorem qfk (x : BA) : wX (oneT k 3 (qb P)) [wM, k, x] = (oneT k 3 (qb P), ((bif hasF P x then yj (gi (qb P) (posF P x * 2 + 1)) else nilR), true)) := by
 unfold wX
 rw [show isB (oneT k 3 (qb P)) [wM, k, x] fldN = true from q2g (yO hk hl) (by rw [q68]; decide +kernel) (by rw [q68]; decide +kernel) (by rw [q68, ar_2 (by decide +kernel)]; rfl)]
 dsimp only
 unfold fldD
 simp only [cT, q68, zS, cF, decide_true, dYF qfh, q0b, jO, show gi [x] 0 = x from rfl]
 exact jH (yO hk hl)
theorem qeE (vals : List BA) (h : 1 <= vals.length) (hr : tabB (oneT k 3 (qb (zi P vals))) = true) : wX (oneT k 3 (qb P)) (za :: k :: vals) = (oneT k 3 (qb (zi P vals)), (numB ((P.length : Int) - ((zi P vals).length : Int)), true)) := by
 unfold wX
 rw [show isB (oneT k 3 (qb P)) (za :: k :: vals) fldN = true from q2g (yO hk hl) (by rw [q6e]; decide +kernel) (by rw [q6e]; decide +kernel) (by rw [q6e, ar_5 (by decide +kernel)]; exact dYT (by simp only [List.length_cons]; omega))]
 dsimp only
 unfold fldD
 simp only [cT, q6e, zS, cF, decide_true, dYF qbn.1, dYF qbn.2, q0b, jO, q9q]
 exact jH hr
theorem qf0 : wX (oneT k 3 (qb P)) [zI, k] = (oneT k 3 (qb P), (numB (P.length : Int), true)) := by
 unfold wX
 rw [show isB (oneT k 3 (qb P)) [zI, k] fldN = true from q2g (yO hk hl) (by rw [q6i]; decide +kernel) (by rw [q6i]; decide +kernel) (by rw [q6i, ar_1 (by decide +kernel)]; rfl)]
 dsimp only
 unfold fldD
 simp only [cT, q6i, zS, cF, decide_true, dYF q8g.1, dYF q8g.2.1, dYF q8g.2.2, q0b, jO]
 exact jH (yO hk hl)
theorem qct : wX (oneT k 3 (qb P)) [yQ, k] = (oneT k 3 (qb P), (arrB ((qb P).map yj), true)) := by
 unfold wX
 rw [show isB (oneT k 3 (qb P)) [yQ, k] fldN = true from q2g (yO hk hl) (by rw [q3t]; decide +kernel) (by rw [q3t]; decide +kernel) (by rw [q3t, ar_1 (by decide +kernel)]; rfl)]
 dsimp only
 unfold fldD
 simp only [cT, q3t, zS, cF, decide_true, dYF q3w.1, dYF q3w.2.1, dYF q3w.2.2.1, dYF q3w.2.2.2, q0b]
 exact jH (yO hk hl)
theorem qdH : wX (oneT k 3 (qb P)) [zY, k] = (oneT k 3 (qb P), (arrB ((jg P).map yj), true)) := by
 unfold wX
 rw [show isB (oneT k 3 (qb P)) [zY, k] fldN = true from q2g (yO hk hl) (by rw [q5h]; decide +kernel) (by rw [q5h]; decide +kernel) (by rw [q5h, ar_1 (by decide +kernel)]; rfl)]
 dsimp only
 unfold fldD
 simp only [cT, q5h, zS, cF, dYF q42.1, dYF q42.2.1, dYF q42.2.2.1, dYF q42.2.2.2.1, dYF q42.2.2.2.2, q0b, jO]
 exact jH (yO hk hl)
end
theorem qdW {P : List PF} (x v : BA) : lowF (setF P x v) x = lowF P x := by
 unfold setF lowF q2Y
 rw [List.filter_append, List.filter_cons_of_neg (by simp [q0n]), List.filter_filter]
 have h2 : (P.filter fun e => blt x e.1).filter (fun e => blt e.1 x) = [] := by
  rw [List.filter_eq_nil_iff]
  intro a ha
  have := (List.mem_filter.1 ha).2
  rw [q4j this]
  decide
 rw [h2, List.append_nil]
 congr 1; funext e; rw [Bool.and_self]
theorem qdN (P : List PF) (x v : BA) : hasF (setF P x v) x = true := by
 unfold hasF setF
 rw [List.any_append, List.any_cons]
 simp
theorem qek (P : List PF) (x v : BA) : gi (qb (setF P x v)) (posF (setF P x v) x * 2 + 1) = v := by
 unfold posF
 rw [qdW]
 have hlt : (lowF P x).length < (setF P x v).length := by unfold setF; simp
 have := (zq (setF P x v) (lowF P x).length hlt).2
 refine this.trans ?_
 have : (setF P x v)[(lowF P x).length]? = some (x, v) := by
  show (lowF P x ++ (x, v) :: q2Y P x)[(lowF P x).length]? = _
  simp
 rw [List.getElem?_eq_getElem hlt] at this
 rw [Option.some.inj this]
theorem qeY (s : BA) (h : 1 <= s.size) (h2 : s.size <= 1000000) : yj s ≠ nilR := by
 intro e
 have h1 : (yj s).size = (nilR : BA).size := by rw [e]
 unfold yj at h1
 have e1 : (wP : BA).size = 1 := rfl
 have e2 : (qm : BA).size = 2 := rfl
 have e3 : (nilR : BA).size = 5 := rfl
 have hd : 1 <= (decB (s.size : Int)).size := by
  rw [q75, q77]
  obtain ⟨c, r, hc, _⟩ := q8G s.size
  rw [hc]; simp
 simp only [ByteArray.size_append, e1, e2, e3] at h1
 omega
theorem qdv {P : List PF} {x : BA} {p : PF} (h : p ∈ delP P x) : p ∈ P /\ p.1 ≠ x := by
 unfold delP lowF q2Y at h
 rcases List.mem_append.1 h with h | h
 ·have := List.mem_filter.1 h
  exact ⟨this.1, q23 this.2⟩
 ·have := List.mem_filter.1 h
  exact ⟨this.1, fun e => q23 this.2 e.symm⟩
theorem q6R : ∀ (xs : List BA) {P : List PF} {p : PF}, p ∈ zi P xs -> p ∈ P /\ p.1 ∉ xs
 | [], P, p, h => ⟨h, by simp⟩
 | x :: r, P, p, h => by
  obtain ⟨h1, h2⟩ := q6R r (P := delP P x) h
  obtain ⟨h3, h4⟩ := qdv h1
  exact ⟨h3, by simp only [List.mem_cons, not_or]; exact ⟨h4, h2⟩⟩
theorem qcA {P : List PF} {xs : List BA} (h : ∀ p ∈ P, p.1 ∈ xs) : zi P xs = [] := by
 apply List.eq_nil_iff_forall_not_mem.2
 intro p hp
 obtain ⟨h1, h2⟩ := q6R xs hp
 exact h2 (h p h1)
theorem q9T {P : List PF} {x v : BA} {p : PF} (h : p ∈ setF P x v) : p ∈ P \/ p = (x, v) := by
 unfold setF lowF q2Y at h
 rcases List.mem_append.1 h with h | h
 ·exact .inl (List.mem_filter.1 h).1
 ·rcases List.mem_cons.1 h with h | h
  ·exact .inr h
  ·exact .inl (List.mem_filter.1 h).1
end Go.Den.S
