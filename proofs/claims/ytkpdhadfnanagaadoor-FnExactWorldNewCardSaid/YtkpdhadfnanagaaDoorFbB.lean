/- FbB: equations of the functions of this seat as the executor tells them, or plain facts about them. Conditions: none here. -/
import Derived.Test.YtkpdhadfnanagaaDoorFbA
set_option linter.all false
namespace Go.Den.S
open Go Go.Den
abbrev Fl := ByteArray × ByteArray × Int
noncomputable def mF (k : Int) : Fl := (mkT k, (mkT (k + 1), k + 2))
theorem eqF1 (f : Fl) : laws_eqFileS [f] [f] = some (true, ()) := by
  have h1 : laws_eqFileS_L0 [f] [f] 0 = laws_eqFileS_L0 [f] [f] 1 := by
    rw [laws_eqFileS_L0_eq]
    simp only [List.length_singleton, Int.toNat_zero, List.getD_cons_zero, laws_eqFile_eq, beq_self_eq_true, bne_self_eq_false, Bool.not_true, cond_false, Option.bind_some, show decide ((0 : Int) < ((1 : Nat) : Int)) = true from rfl, show decide ((0 : Int) ≤ 0) = true from rfl, Bool.and_self, cond_true]
    rfl
  rw [laws_eqFileS_eq]
  simp only [bne_self_eq_false, cond_false, h1]
  rw [laws_eqFileS_L0_eq, decF (by simp), cond_false]
theorem markF1 (f : Fl) (k : Int) (h0 : 0 ≤ k) (h1 : k ≤ 900) : laws_markFileS [f] k = some (k + 3, [mF k], ()) := by
  have e1 : w64 (k + 1) = k + 1 := w64_id (by omega) (by omega)
  have e2 : w64 (k + 1 + 1) = k + 2 := (w64_id (by omega) (by omega)).trans (by omega)
  have e3 : w64 (k + 2 + 1) = k + 3 := (w64_id (by omega) (by omega)).trans (by omega)
  have d0 : decide ((0 : Int) < ((1 : Nat) : Int)) = true := rfl
  have d1 : decide ((0 : Int) ≤ 0) = true := rfl
  rw [laws_markFileS_eq, laws_markFileS_L1700000_eq, laws_markFileS_L1700001_eq, laws_markFileS_L0_eq, laws_markFileS_L1700002_eq, markText_ok k (by omega)]
  simp only [List.length_singleton, d0, d1, Bool.and_self, cond_true, Option.bind_some, Int.toNat_zero, List.getD_cons_zero, List.set_cons_zero, laws_markFileS_L1700004_eq, e1, laws_markFileS_L1700005_eq, markText_ok (k + 1) (by omega)]
  simp only [laws_markFileS_L1700006_eq, e2, laws_markFileS_L1700007_eq, List.length_singleton, d0, d1, Bool.and_self, cond_true, Int.toNat_zero, List.getD_cons_zero, List.set_cons_zero]
  rw [laws_markFileS_L1700008_eq, e3, laws_markFileS_L0_eq, laws_markFileS_L1700002_eq, laws_markFileS_L1700010_eq]
  rfl
theorem heldF1 (k : Int) (h0 : 0 ≤ k) (h1 : k ≤ 900) : laws_heldFileS [mF k] k = some (k + 3, ()) := by
  have e1 : w64 (k + 1) = k + 1 := w64_id (by omega) (by omega)
  have e2 : w64 (k + 1 + 1) = k + 2 := (w64_id (by omega) (by omega)).trans (by omega)
  have e3 : w64 (k + 2 + 1) = k + 3 := (w64_id (by omega) (by omega)).trans (by omega)
  have h1 : laws_heldFileS_L0 [mF k] k 0 = laws_heldFileS_L0 [mF k] (k + 3) 1 := by
    rw [laws_heldFileS_L0_eq]
    simp only [List.length_singleton, Int.toNat_zero, List.getD_cons_zero, markText_ok k (by omega), e1, markText_ok (k + 1) (by omega), mF, e2, e3, beq_self_eq_true, bne_self_eq_false, Bool.not_true, cond_false, Option.bind_some, show decide ((0 : Int) < ((1 : Nat) : Int)) = true from rfl, show decide ((0 : Int) ≤ 0) = true from rfl, Bool.and_self, cond_true]
    rfl
  rw [laws_heldFileS_eq, h1, laws_heldFileS_L0_eq]
  rfl
theorem eqF0 : laws_eqFileS [] [] = some (true, ()) := by rw [laws_eqFileS_eq, laws_eqFileS_L0_eq]; rfl
theorem eqC0 : laws_eqConnS [] [] = some (true, ()) := by rw [laws_eqConnS_eq, laws_eqConnS_L0_eq]; rfl
theorem eqP0 : laws_eqSpotS [] [] = some (true, ()) := by rw [laws_eqSpotS_eq, laws_eqSpotS_L0_eq]; rfl
theorem eqE0 : laws_eqEntryS [] [] = some (true, ()) := by rw [laws_eqEntryS_eq, laws_eqEntryS_L0_eq]; rfl
theorem eqU0 : laws_eqUnitS [] [] = some (true, ()) := by rw [laws_eqUnitS_eq, laws_eqUnitS_L0_eq]; rfl
theorem eqS0 (l : List ByteArray) (h : l.length ≤ 100) : laws_eqStringS l l = some (true, ()) := by rw [eqStringS_ok l l (by omega), decide_eq_true rfl]
theorem markF0 (k : Int) : laws_markFileS [] k = some (k, [], ()) := by
  rw [laws_markFileS_eq, laws_markFileS_L1700000_eq, laws_markFileS_L1700001_eq, laws_markFileS_L0_eq, laws_markFileS_L1700002_eq, laws_markFileS_L1700010_eq]; rfl
theorem markC0 (k : Int) : laws_markConnS [] k = some (k, [], ()) := by
  rw [laws_markConnS_eq, laws_markConnS_L1700000_eq, laws_markConnS_L1700001_eq, laws_markConnS_L0_eq, laws_markConnS_L1700002_eq, laws_markConnS_L1700013_eq]; rfl
theorem heldF0 (k : Int) : laws_heldFileS [] k = some (k, ()) := by rw [laws_heldFileS_eq, laws_heldFileS_L0_eq]; rfl
theorem heldC0 (k : Int) : laws_heldConnS [] k = some (k, ()) := by rw [laws_heldConnS_eq, laws_heldConnS_L0_eq]; rfl
theorem heldP0 (k : Int) : laws_heldSpotS [] k = some (k, ()) := by rw [laws_heldSpotS_eq, laws_heldSpotS_L0_eq]; rfl
theorem heldE0 (k : Int) : laws_heldEntryS [] k = some (k, ()) := by rw [laws_heldEntryS_eq, laws_heldEntryS_L0_eq]; rfl
theorem heldU0 (k : Int) : laws_heldUnitS [] k = some (k, ()) := by rw [laws_heldUnitS_eq, laws_heldUnitS_L0_eq]; rfl
theorem markP0 (k : Int) : laws_markSpotS [] k = some (k, [], ()) := by
  rw [laws_markSpotS_eq, laws_markSpotS_L1700000_eq, laws_markSpotS_L1700001_eq, laws_markSpotS_L0_eq, laws_markSpotS_L1700002_eq, laws_markSpotS_L1700012_eq]; rfl
theorem markE0 (k : Int) : laws_markEntryS [] k = some (k, [], ()) := by
  rw [laws_markEntryS_eq, laws_markEntryS_L1700000_eq, laws_markEntryS_L1700001_eq, laws_markEntryS_L0_eq, laws_markEntryS_L1700002_eq, laws_markEntryS_L1700013_eq]; rfl
theorem markU0 (k : Int) : laws_markUnitS [] k = some (k, [], ()) := by
  rw [laws_markUnitS_eq, laws_markUnitS_L1700000_eq, laws_markUnitS_L1700001_eq, laws_markUnitS_L0_eq, laws_markUnitS_L1700002_eq, laws_markUnitS_L1700015_eq]; rfl
/-! ### the worlds -/
def wN (d : List Fl) (room : Int) (cs : List Cn) (os : List ByteArray) : D_World := ((d, (room, (0, (0, [])))), ([], (0, (cs, (os, ([], false))))))
noncomputable def headF : Fl := (nmO 0, ((htO 0 0).1, ((htO 0 0).1.size : Int)))
noncomputable def newW (room : Int) : D_World × Bool := if 100 ≤ room ∧ room ≤ 20000 then (wN [headF] room [zC, zC, zC] [ByteArray.empty, ByteArray.empty, ByteArray.empty], true) else (wN [] 0 [] [], false)
theorem impl_New_ok (room : Int) : impl_WorldNew room = some (newW room, ()) := by
  rw [impl_WorldNew_eq, impl_FormatEngine_eq, within_ok, in_iff, impl_HeadText_ok, impl_SegName_ok]
  unfold newW
  by_cases h : 100 ≤ room ∧ room ≤ 20000
  · rw [if_pos h, decT h]
    simp only [Option.bind_some, Bool.not_true, cond_false, show Int.toNat 3 = 3 from rfl, lim_true (show 3 * 56 ≤ 140737488355328 by omega), lim_true (show 3 * 16 ≤ 140737488355328 by omega), show decide ((0 : Int) ≤ 3) = true from rfl, show decide ((3 : Int) ≤ 3) = true from rfl, Bool.and_self, cond_true]
    rfl
  · rw [if_neg h, decF h]; rfl
theorem spec_New_ok (room : Int) : spec_WorldNew room = some (newW room, ()) := by
  rw [spec_WorldNew_eq, spec_FormatEngine_eq, l01In_ok, in_iff, spec_HeadText_ok, spec_SegName_ok]
  unfold newW
  by_cases h : 100 ≤ room ∧ room ≤ 20000
  · rw [if_pos h, decT h]
    simp only [Option.bind_some, Bool.not_true, cond_false, show Int.toNat 3 = 3 from rfl, lim_true (show 3 * 56 ≤ 140737488355328 by omega), lim_true (show 3 * 16 ≤ 140737488355328 by omega), show decide ((0 : Int) ≤ 3) = true from rfl, show decide ((3 : Int) ≤ 3) = true from rfl, Bool.and_self, cond_true]
    rfl
  · rw [if_neg h, decF h]; rfl
theorem law_New (room : Int) : laws_FnExactWorldNew room = some (true, ()) := by
  rw [laws_FnExactWorldNew_eq, spec_New_ok, impl_New_ok]
  unfold newW
  by_cases h : 100 ≤ room ∧ room ≤ 20000
  · rw [if_pos h]
    have hm : laws_markStringS [ByteArray.empty, ByteArray.empty, ByteArray.empty] 16 = some (19, mkL 16 3, ()) := markStringS_ok _ 16 (by omega) (by simp)
    have hh : laws_heldStringS (mkL 16 3) 16 = some (19, ()) := heldStringS_ok 3 16 (by omega) (by omega)
    simp only [Option.bind_some, laws_eqWorld_eq, laws_eqEngine_eq, laws_eqDisk_eq, wN, eqF1, eqP0, eqE0, eqC3, eqU0, eqS0 [ByteArray.empty, ByteArray.empty, ByteArray.empty] (by decide), bne_self_eq_false, beq_self_eq_true, Bool.not_true, cond_false, laws_markWorld_eq, laws_markEngine_eq, laws_markDisk_eq, markF1 headF 1 (by omega) (by omega), markP0, markE0]
    rw [show (1 : Int) + 3 = 4 from rfl, markC3 4 (by omega) (by omega)]
    simp only [Option.bind_some]
    rw [show (4 : Int) + 12 = 16 from rfl, hm]
    simp only [Option.bind_some, markU0, laws_heldWorld_eq, laws_heldEngine_eq, laws_heldDisk_eq, heldF1 1 (by omega) (by omega), heldP0, heldE0, show decide ((1 : Int) + 3 < 0) = false from rfl, cond_false]
    rw [show (1 : Int) + 3 = 4 from rfl]
    simp only [heldC3 4 (by omega) (by omega), Option.bind_some, show decide ((4 : Int) + 12 < 0) = false from rfl, show decide ((4 : Int) < 0) = false from rfl, cond_false]
    rw [show (4 : Int) + 12 = 16 from rfl, hh]
    simp [heldU0]
  · rw [if_neg h]
    have hm : laws_markStringS [] 1 = some (1, [], ()) := by
      have := markStringS_ok [] 1 (by omega) (by simp)
      simpa [mkL] using this
    have hh : laws_heldStringS [] 1 = some (1, ()) := by
      have := heldStringS_ok 0 1 (by omega) (by omega)
      simpa [mkL] using this
    simp [wN, laws_eqWorld_eq, laws_eqEngine_eq, laws_eqDisk_eq, eqF0, eqP0, eqE0, eqC0, eqU0, eqS0 [] (by decide), laws_markWorld_eq, laws_markEngine_eq, laws_markDisk_eq, markF0, markP0, markE0, markC0, hm, markU0, laws_heldWorld_eq, laws_heldEngine_eq, laws_heldDisk_eq, heldF0, heldP0, heldE0, heldC0, hh, heldU0]
end Go.Den.S
