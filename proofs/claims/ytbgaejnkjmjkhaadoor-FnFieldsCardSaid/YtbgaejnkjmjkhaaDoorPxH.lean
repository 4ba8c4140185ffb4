/- PxH: equations of the functions of this seat as the executor tells them, or plain facts about them. Conditions: none here. -/
import Derived.Test.YtbgaejnkjmjkhaaDoorPxG
set_option linter.all false
namespace Go.Den.S
open Go Go.Den
def setN : List BA := [yP, wZ, qV, wS, w9]
theorem qfJ : strings_Fields jG = some (setN, ()) := (yR _).trans (by kernel_rfl)
theorem qfy (l : List BA) (x : BA) (h : AscS l) (hl : l.length <= 10000000) :
  ∃ n : Nat, qQ l x = some (((n : Int), memB x l), ()) /\ q3x l 1 x = some (((n : Int), memB x l), ()) /\
   (memB x l = false -> qW l (n : Int) [x] = some (addS l x, ()) /\ q3s l (n : Int) [x] = some (addS l x, ())) /\ (memB x l = true -> q4y l (n : Int) 1 = some (delS l x, ())) := by
 obtain ⟨A, B, h1, h2, h3, h4, h5, h6, h7⟩ := q4M h x
 have hlen : l.length = A.length + B.length := by rw [h1, List.length_append]
 have e1 : l.take A.length = A := by rw [h1]; simp
 have e2 : l.drop A.length = B := by rw [h1]; simp
 refine ⟨A.length, by rw [qeC l x (by omega) h1 h2 h3, h4], by rw [show q3x l 1 x = qQ l x from if_pos rfl, qeC l x (by omega) h1 h2 h3, h4], fun hm => ⟨?_, ?_⟩, fun hm => ?_⟩
 ·rw [q8C l [x] A.length (by omega) (by simp) (by simp; omega), e1, e2, h5 (h4.trans hm)]
 ·rw [q74 l [x] A.length (by omega) (by simp; omega), e1, e2, h5 (h4.trans hm)]
 ·obtain ⟨C, hC, _, h8⟩ := h6 (h4.trans hm)
  have := q8J l A.length 1 (by rw [hC] at hlen; simp at hlen; omega) (by omega)
  rw [show ((1 : Nat) : Int) = 1 from rfl] at this
  rw [this, e1, <- List.drop_drop, e2, hC]
  unfold delS
  rw [h8]; rfl
theorem qen {l : List BA} (x : BA) (h : AscS l) : AscS (delS l x) := List.Pairwise.filter _ h
theorem qeo {l : List BA} {x : BA} (h : AscS l) (hm : memB x l = true) : (delS l x).length + 1 = l.length := by
 obtain ⟨A, B, h1, h2, h3, h4, h5, h6, h7⟩ := q4M h x
 obtain ⟨C, hC, _, h8⟩ := h6 (h4.trans hm)
 unfold delS
 rw [h8]
 conv => rhs; rw [h1, hC]
 simp only [List.length_append, List.length_cons]; omega
theorem qdp (k : BA) (vals : List BA) (d : DD) (n u : Int) (x : BA) (l : List BA) (x10 : Int) (h : AscS l) (hl : l.length + vals.length <= 5000000) :
  qB k x10 vals (vals.length : Int) 0 d.1 d.2.1 d.2.2 n u x l = (qA d k (n, (u, (x, wo l vals)))).bind fun r14 =>
   (y7 (w64 (((wo l vals).length : Int) - x10))).bind fun r15 => (qc r14.2.1 r15.1).bind fun r16 => some ((), (r16.2.1, ())) :=
 q0j (fun acc i => qB k x10 vals (vals.length : Int) i d.1 d.2.1 d.2.2 n u x acc) vals eB addS (fun acc => (qA d k (n, (u, (x, acc)))).bind fun r14 =>
   (y7 (w64 ((acc.length : Int) - x10))).bind fun r15 => (qc r14.2.1 r15.1).bind fun r16 => some ((), (r16.2.1, ()))) (fun acc i => AscS acc /\ acc.length <= l.length + i)
  (fun acc i hi hI => by
   obtain ⟨m, k1, _, k3, _⟩ := qfy acc (vals.getD i eB) hI.1 (by omega)
   obtain ⟨_, _, _, _, _, _, _, _, h7⟩ := q4M hI.1 (vals.getD i eB)
   have hlen := q7c acc (vals.getD i eB) hI.1
   constructor
   ·conv => lhs; rw [zo]
    have e1 : decide ((i : Int) < (vals.length : Int)) = true := dYT (by omega)
    have e2 : decide (0 <= (i : Int)) = true := dYT (by omega)
    have e3 : w64 ((i : Int) + 1) = ((i + 1 : Nat) : Int) := qM (by omega)
    simp only [e1, e2, e3, Bool.and_self, cT, Int.toNat_natCast, k1, oB]
    cases hm : memB (vals.getD i eB) acc with
    | true =>
     simp only [Bool.not_true, cF]
     have : addS acc (vals.getD i eB) = acc := by unfold addS; rw [hm, cT]
     rw [this]
    | false =>
     simp only [Bool.not_false, cT, (k3 hm).1, oB]
   ·refine ⟨h7, ?_⟩
    rw [hlen]
    have : (bif memB (vals.getD i eB) acc then 0 else 1) <= 1 := by cases memB (vals.getD i eB) acc <;> decide
    omega)
  (fun acc hI => by
   show qB k x10 vals (vals.length : Int) (vals.length : Int) d.1 d.2.1 d.2.2 n u x acc = _
   rw [zo]
   simp only [Int.lt_irrefl, decide_false, cF]) l ⟨h, by omega⟩
theorem qbG (l vals : List BA) : (q0N l vals).length <= l.length := List.length_filter_le _ _
theorem qbj (x : BA) (l : List BA) (hl : l.length <= 2097152) : yF x l = some (memB x l, ()) := by
 rw [q0e, q4m l x hl]; rfl
theorem q96 (l vals : List BA) (hl : l.length <= 5000000) (hv : vals.length <= 2097152) : yS l (vals, ()) = some (q0N l vals, ((), ())) := by
 rw [q11, q1c]
 have hi := q78 (fun i => y9 l (l.length : Int) i vals) (fun s => memB s vals) eB l (fun n => some (n, ((), ())))
  (fun i hi => by
   conv => lhs; rw [zG]
   have e1 : decide ((i : Int) < (l.length : Int)) = true := dYT (by omega)
   have e2 : decide (0 <= (i : Int)) = true := dYT (by omega)
   have e3 : w64 ((i : Int) + 1) = ((i + 1 : Nat) : Int) := qM (by omega)
   simp only [e1, e2, e3, Bool.and_self, cT, Int.toNat_natCast, qbj _ vals hv, oB])
  (by
   show y9 l (l.length : Int) (l.length : Int) vals = _
   rw [zG]
   simp only [Int.lt_irrefl, decide_false, cF])
 rw [hi]
 simp only [oB]
 unfold q0N
 rcases q5Q (fun s => memB s vals) l 0 with ⟨h1, h2⟩ | ⟨j, h1, h2, h3, h4⟩
 ·rw [h1, filter_none h2]; rfl
 ·rw [h2]
  have hne : ((((0 + j : Nat) : Int)) == -1) = false := by rw [q3K]; exact dYF (by omega)
  rw [hne, cF, Nat.zero_add, show w64 ((j : Int) + 1) = ((j + 1 : Nat) : Int) from qM (by omega)]
  exact qbs (fun xs i j => qO xs i j vals) (fun s => memB s vals) eB l (fun l => some (l, ((), ())))
   (fun xs i j hj hij hxs _ => by
    conv => lhs; rw [zA]
    have e1 : decide ((j : Int) < (xs.length : Int)) = true := dYT (by omega)
    have e2 : decide (0 <= (j : Int)) = true := dYT (by omega)
    have e3 : w64 ((j : Int) + 1) = ((j + 1 : Nat) : Int) := qM (by omega)
    have e4 : w64 ((i : Int) + 1) = ((i + 1 : Nat) : Int) := qM (by omega)
    have e5 : decide ((i : Int) < (xs.length : Int)) = true := dYT (by omega)
    have e6 : decide (0 <= (i : Int)) = true := dYT (by omega)
    simp only [e1, e2, e3, e4, e5, e6, Bool.and_self, cT, Int.toNat_natCast, qbj _ vals hv, oB])
   (fun xs i hi hxs => by
    show qO xs (i : Int) (l.length : Int) vals = _
    rw [zA, <- hxs]
    have hz : (((List.take i xs) ++ (List.replicate (xs.length - i) eB)) ++ (List.drop xs.length xs)).length = xs.length := by
     simp only [List.length_append, List.length_take, List.length_replicate, List.length_drop]; omega
    simp only [Int.lt_irrefl, decide_false, cF, dYT (show (0 : Int) <= (i : Int) by omega), dYT (show (i : Int) <= (xs.length : Int) by omega), Int.le_refl, decide_true, Bool.and_self, cT, Int.toNat_natCast, hz, show Int.toNat 0 = 0 from rfl, Nat.sub_zero, List.drop_zero]
    rw [List.append_assoc, List.take_append_of_le_length (by rw [List.length_take]; omega), List.take_take, Nat.min_self])
   j h1 h3 h4
theorem qeD {v : DV} (h : valB v = true) (h4 : v.1 = 4) : AscS v.2.2.2 := by
 unfold valB at h
 have h1 : ¬ v.1 = 1 := by omega
 simp only [dYF h1, cF, Bool.and_eq_true] at h
 have hi := h.2.2
 have hs : stB v.1 = 1 := by unfold stB; rw [if_neg (by omega), if_neg (by omega)]
 rw [hs] at hi
 unfold itsB at hi
 rw [List.all_eq_true] at hi
 have := q5a (fun a b : BA => blt a b = true) (fun _ _ _ h k => q18 h k) (gi v.2.2.2) v.2.2.2.length fun i hlt => by
  have := hi (i + 1) (List.mem_range.2 hlt)
  unfold itB at this
  simp only [Bool.and_eq_true, Bool.or_eq_true, Bool.not_eq_true', Nat.mod_one, decide_true, Nat.add_sub_cancel, Bool.and_eq_false_iff, decide_eq_false_iff_not] at this
  rcases this.2 with h | h
  ·rcases h with h | h
   ·rcases h with h | h
    ·omega
    ·simp at h
   ·omega
  ·exact h
 unfold AscS
 rw [List.pairwise_iff_getElem]
 intro i j hi hj hij
 have := this i j hij hj
 rwa [show gi v.2.2.2 i = v.2.2.2[i] from yU hi, show gi v.2.2.2 j = v.2.2.2[j] from yU hj] at this
end Go.Den.S
