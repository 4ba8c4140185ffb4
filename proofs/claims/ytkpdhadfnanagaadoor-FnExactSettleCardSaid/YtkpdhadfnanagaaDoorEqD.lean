/- EqD: equations of the functions of this seat as the executor tells them, or plain facts about them. Conditions: none here. -/
import Derived.Test.YtkpdhadfnanagaaDoorTabD
import Derived.KernelRfl
import Derived.Lib.FieldsLaws
set_option linter.all false
set_option linter.unusedSimpArgs false
set_option linter.unusedVariables false
namespace Go.Den.S
open Go Go.Den Go.Proofs
set_option linter.unusedVariables false
def H (v : Nat) : Nat → Hint := (bif Nat.ble v 37
  then (bif Nat.ble v 28
  then (bif Nat.ble v 25
  then (bif Nat.ble v 18
  then (bif Nat.beq v 18 then (fun bid => bif Nat.beq bid 0 then ⟨[(3, .row (.int .u8)), (4, .v)], [], []⟩ else ⟨[], [], []⟩) else (fun _ => ⟨[], [], []⟩))
  else (bif Nat.beq v 25 then (fun bid => bif Nat.beq bid 0 then ⟨[(0, .v), (1, .v), (5, .v)], [], []⟩ else ⟨[], [], []⟩) else (fun _ => ⟨[], [], []⟩)))
  else (bif Nat.ble v 27
  then (bif Nat.beq v 27 then (fun bid => bif Nat.beq bid 0 then ⟨[(0, .v), (3, .row .str), (4, .v)], [], []⟩ else ⟨[], [], []⟩) else (fun _ => ⟨[], [], []⟩))
  else (bif Nat.beq v 28 then (fun bid => bif Nat.beq bid 0 then ⟨[(0, .v), (1, .v), (5, .v)], [], []⟩ else ⟨[], [], []⟩) else (fun _ => ⟨[], [], []⟩))))
  else (bif Nat.ble v 30
  then (bif Nat.ble v 29
  then (bif Nat.beq v 29 then (fun bid => bif Nat.beq bid 0 then ⟨[(0, .v), (1, .v), (5, .v)], [], []⟩ else ⟨[], [], []⟩) else (fun _ => ⟨[], [], []⟩))
  else (bif Nat.beq v 30 then (fun bid => bif Nat.beq bid 0 then ⟨[(0, .v), (1, .v), (5, .v)], [], [(3000000, [])]⟩ else ⟨[], [], []⟩) else (fun _ => ⟨[], [], []⟩)))
  else (bif Nat.ble v 31
  then (bif Nat.beq v 31 then (fun bid => bif Nat.beq bid 0 then ⟨[(0, .v), (1, .v), (5, .v)], [], [(3000000, [])]⟩ else ⟨[], [], []⟩) else (fun _ => ⟨[], [], []⟩))
  else (bif Nat.ble v 32
  then (bif Nat.beq v 32 then (fun bid => bif Nat.beq bid 0 then ⟨[(0, .v), (1, .v), (5, .v)], [], []⟩ else ⟨[], [], []⟩) else (fun _ => ⟨[], [], []⟩))
  else (bif Nat.beq v 37 then (fun bid => bif Nat.beq bid 0 then ⟨[(0, .v), (1, .v), (5, .v)], [], []⟩ else ⟨[], [], []⟩) else (fun _ => ⟨[], [], []⟩))))))
  else (bif Nat.ble v 56
  then (bif Nat.ble v 44
  then (bif Nat.ble v 43
  then (bif Nat.beq v 43 then (fun bid => bif Nat.beq bid 0 then ⟨[(0, .v), (1, .v), (5, .v)], [], []⟩ else ⟨[], [], []⟩) else (fun _ => ⟨[], [], []⟩))
  else (bif Nat.beq v 44 then (fun bid => bif Nat.beq bid 0 then ⟨[(1, .v), (3, .v)], [], [(0, [(0, .v), (1, .v), (2, .v), (3, .v), (4, .v)])]⟩ else ⟨[], [], []⟩) else (fun _ => ⟨[], [], []⟩)))
  else (bif Nat.ble v 45
  then (bif Nat.beq v 45 then (fun bid => bif Nat.beq bid 0 then ⟨[(0, .v), (3, .row (.sl .str)), (4, .v)], [], []⟩ else ⟨[], [], []⟩) else (fun _ => ⟨[], [], []⟩))
  else (bif Nat.ble v 53
  then (bif Nat.beq v 53 then (fun bid => bif Nat.beq bid 0 then ⟨[(3, .v), (8, .v), (9, .v), (10, .v)], [], [(1040, [])]⟩ else ⟨[], [], []⟩) else (fun _ => ⟨[], [], []⟩))
  else (bif Nat.beq v 56 then (fun bid => bif Nat.beq bid 0 then ⟨[(3, .row (.sl .str)), (6, .v), (7, .v), (8, .v)], [], []⟩ else ⟨[], [], []⟩) else (fun _ => ⟨[], [], []⟩)))))
  else (bif Nat.ble v 62
  then (bif Nat.ble v 58
  then (bif Nat.beq v 58 then (fun bid => bif Nat.beq bid 0 then ⟨[(0, .v), (1, .v), (5, .v)], [], []⟩ else ⟨[], [], []⟩) else (fun _ => ⟨[], [], []⟩))
  else (bif Nat.beq v 62 then (fun bid => bif Nat.beq bid 0 then ⟨[(1, .v), (2, .v), (3, .row (.sl .str)), (4, .v)], [], [(0, [(0, .v), (1, .v), (2, .v), (3, .v), (4, .v)]), (16, [(0, .v), (1, .v), (2, .v), (3, .row (.sl .str)), (4, .v)])]⟩ else ⟨[], [], []⟩) else (fun _ => ⟨[], [], []⟩)))
  else (bif Nat.ble v 65
  then (bif Nat.beq v 65 then (fun bid => bif Nat.beq bid 0 then ⟨[(0, .v), (3, .v)], [], []⟩ else ⟨[], [], []⟩) else (fun _ => ⟨[], [], []⟩))
  else (bif Nat.ble v 84
  then (bif Nat.beq v 84 then (fun bid => bif Nat.beq bid 0 then ⟨[(0, .v), (1, .v), (7, .v), (8, .v)], [], []⟩ else ⟨[], [], []⟩) else (fun _ => ⟨[], [], []⟩))
  else (bif Nat.beq v 129 then (fun bid => bif Nat.beq bid 0 then ⟨[(0, .v), (1, .v), (7, .v), (8, .v)], [], []⟩ else ⟨[], [], []⟩) else (fun _ => ⟨[], [], []⟩)))))))
noncomputable def strings_FieldsF (x : ByteArray × Unit) : Option (List ByteArray × Unit) := bif x.1.data.toList.all (fun b => decide (b.toNat < 128)) && decide (x.1.size < 4294967281) then some ((Lib.fields x.1.data.toList).map (fun l => ⟨l.toArray⟩), ()) else none
noncomputable def ext : (v : Nat) → Option (ArgsD (V v).pars → Option (V v).RetD)
  | 114 => some (fun x => strings_FieldsF x)
  | _ => none
noncomputable def X : Cx := { P := Tryd.prog, V := V, cands := fun g => [g], hint := H, ext := ext }
noncomputable def strings_Fields (a0 : ByteArray) : Option (List ByteArray × Unit) := DF X 114 ((a0, ()) : ByteArray × Unit)
theorem strings_Fields_eq (a0 : ByteArray) : strings_Fields a0 = strings_FieldsF (a0, ()) := DF_ext X rfl _
noncomputable def laws_FnExactConnOk (a0 : D_Conn) : Option (Bool × Unit) := DF X 3 ((a0, ()) : (D_Conn) × Unit)
noncomputable def laws_FnExactTakeIn (a0 : D_Conn) (a1 : ByteArray) : Option (Bool × Unit) := DF X 5 ((a0, a1, ()) : (D_Conn) × (ByteArray) × Unit)
noncomputable def laws_FnExactSettle (a0 : D_Conn) (a1 : (List ByteArray)) : Option (Bool × Unit) := DF X 6 ((a0, a1, ()) : (D_Conn) × ((List ByteArray)) × Unit)
noncomputable def laws_szConn (a0 : D_Conn) (a1 : Int) : Option (Int × Unit) := DF X 10 ((a0, a1, ()) : (D_Conn) × (Int) × Unit)
noncomputable def spec_ConnOk (a0 : D_Conn) : Option (Bool × Unit) := DF X 11 ((a0, ()) : (D_Conn) × Unit)
noncomputable def laws_toConn (a0 : D_Conn) : Option (D_Conn × Unit) := DF X 12 ((a0, ()) : (D_Conn) × Unit)
noncomputable def impl_ConnOk (a0 : D_Conn) : Option (Bool × Unit) := DF X 13 ((a0, ()) : (D_Conn) × Unit)
noncomputable def laws_eqConn (a0 : D_Conn) (a1 : D_Conn) : Option (Bool × Unit) := DF X 14 ((a0, a1, ()) : (D_Conn) × (D_Conn) × Unit)
noncomputable def impl_Settle (a0 : D_Conn) (a1 : (List ByteArray)) : Option ((D_Conn × (List (List ByteArray)) × ByteArray × Int) × Unit) := DF X 17 ((a0, a1, ()) : (D_Conn) × ((List ByteArray)) × Unit)
noncomputable def spec_Upper (a0 : ByteArray) : Option (ByteArray × Unit) := DF X 18 ((a0, ()) : (ByteArray) × Unit)
noncomputable def spec_Upper_L0 (x3 : (List Int)) (x4 : Int) : Option (ByteArray × Unit) := loopAt X 18 0 [] (mkSt 35 [(3, .sv (.own 1000003)), (4, .sv (.int .i64 x4))] [(1000003, .live (.row (.int .u8) x3 0))])
noncomputable def spec_Unknown (a0 : (List ByteArray)) : Option (ByteArray × Unit) := DF X 19 ((a0, ()) : ((List ByteArray)) × Unit)
noncomputable def spec_TakeIn (a0 : D_Conn) (a1 : ByteArray) : Option ((D_Conn × Bool) × Unit) := DF X 21 ((a0, a1, ()) : (D_Conn) × (ByteArray) × Unit)
noncomputable def impl_TakeIn (a0 : D_Conn) (a1 : ByteArray) : Option ((D_Conn × Bool) × Unit) := DF X 22 ((a0, a1, ()) : (D_Conn) × (ByteArray) × Unit)
noncomputable def laws_markConn (a0 : D_Conn) (a1 : Int) : Option (Int × (D_Conn × Unit)) := DF X 23 ((a0, a1, ()) : (D_Conn) × (Int) × Unit)
noncomputable def laws_heldConn (a0 : D_Conn) (a1 : Int) : Option (Int × Unit) := DF X 24 ((a0, a1, ()) : (D_Conn) × (Int) × Unit)
noncomputable def laws_szStringS (a0 : (List ByteArray)) (a1 : Int) : Option (Int × Unit) := DF X 25 ((a0, a1, ()) : ((List ByteArray)) × (Int) × Unit)
noncomputable def laws_szStringS_L0 (x0 : (List ByteArray)) (x1 : Int) (x5 : Int) : Option (Int × Unit) := loopAt X 25 0 [] (mkSt 28 [(0, .sv (.lst .str x0)), (1, .sv (.int .i64 x1)), (5, .sv (.int .i64 x5))] [])
noncomputable def spec_Settle (a0 : D_Conn) (a1 : (List ByteArray)) : Option ((D_Conn × (List (List ByteArray)) × ByteArray × Int) × Unit) := DF X 26 ((a0, a1, ()) : (D_Conn) × ((List ByteArray)) × Unit)
noncomputable def laws_toStringS (a0 : (List ByteArray)) : Option ((List ByteArray) × Unit) := DF X 27 ((a0, ()) : ((List ByteArray)) × Unit)
noncomputable def laws_toStringS_L0 (x0 : (List ByteArray)) (x3 : (List ByteArray)) (x4 : Int) : Option ((List ByteArray) × Unit) := loopAt X 27 0 [] (mkSt 22 [(0, .sv (.lst .str x0)), (3, .sv (.own 1000003)), (4, .sv (.int .i64 x4))] [(1000003, .live (.row .str x3 0))])
noncomputable def laws_eqStringSS (a0 : (List (List ByteArray))) (a1 : (List (List ByteArray))) : Option (Bool × Unit) := DF X 28 ((a0, a1, ()) : ((List (List ByteArray))) × ((List (List ByteArray))) × Unit)
noncomputable def laws_eqStringSS_L0 (x0 : (List (List ByteArray))) (x1 : (List (List ByteArray))) (x5 : Int) : Option (Bool × Unit) := loopAt X 28 0 [] (mkSt 27 [(0, .sv (.lst (.sl .str) x0)), (1, .sv (.lst (.sl .str) x1)), (5, .sv (.int .i64 x5))] [])
noncomputable def laws_eqStringS (a0 : (List ByteArray)) (a1 : (List ByteArray)) : Option (Bool × Unit) := DF X 29 ((a0, a1, ()) : ((List ByteArray)) × ((List ByteArray)) × Unit)
noncomputable def laws_eqStringS_L0 (x0 : (List ByteArray)) (x1 : (List ByteArray)) (x5 : Int) : Option (Bool × Unit) := loopAt X 29 0 [] (mkSt 26 [(0, .sv (.lst .str x0)), (1, .sv (.lst .str x1)), (5, .sv (.int .i64 x5))] [])
noncomputable def laws_markStringS (a0 : (List ByteArray)) (a1 : Int) : Option (Int × ((List ByteArray) × Unit)) := DF X 30 ((a0, a1, ()) : ((List ByteArray)) × (Int) × Unit)
noncomputable def laws_markStringS_L0 (x1 : Int) (x5 : Int) (r3000000 : (List ByteArray)) : Option (Int × ((List ByteArray) × Unit)) := loopAt X 30 0 [] (mkSt 20 [(0, .sv (.own 3000000)), (1, .sv (.int .i64 x1)), (5, .sv (.int .i64 x5))] [(3000000, .live (.row .str r3000000 0))])
noncomputable def laws_markStringSS (a0 : (List (List ByteArray))) (a1 : Int) : Option (Int × ((List (List ByteArray)) × Unit)) := DF X 31 ((a0, a1, ()) : ((List (List ByteArray))) × (Int) × Unit)
noncomputable def laws_markStringSS_L0 (x1 : Int) (x5 : Int) (r3000000 : (List (List ByteArray))) : Option (Int × ((List (List ByteArray)) × Unit)) := loopAt X 31 0 [] (mkSt 19 [(0, .sv (.own 3000000)), (1, .sv (.int .i64 x1)), (5, .sv (.int .i64 x5))] [(3000000, .live (.row (.sl .str) r3000000 0))])
noncomputable def laws_heldStringSS (a0 : (List (List ByteArray))) (a1 : Int) : Option (Int × Unit) := DF X 32 ((a0, a1, ()) : ((List (List ByteArray))) × (Int) × Unit)
noncomputable def laws_heldStringSS_L0 (x0 : (List (List ByteArray))) (x1 : Int) (x5 : Int) : Option (Int × Unit) := loopAt X 32 0 [] (mkSt 21 [(0, .sv (.lst (.sl .str) x0)), (1, .sv (.int .i64 x1)), (5, .sv (.int .i64 x5))] [])
noncomputable def laws_heldStringS (a0 : (List ByteArray)) (a1 : Int) : Option (Int × Unit) := DF X 37 ((a0, a1, ()) : ((List ByteArray)) × (Int) × Unit)
noncomputable def laws_heldStringS_L0 (x0 : (List ByteArray)) (x1 : Int) (x5 : Int) : Option (Int × Unit) := loopAt X 37 0 [] (mkSt 22 [(0, .sv (.lst .str x0)), (1, .sv (.int .i64 x1)), (5, .sv (.int .i64 x5))] [])
noncomputable def laws_szStringSS (a0 : (List (List ByteArray))) (a1 : Int) : Option (Int × Unit) := DF X 43 ((a0, a1, ()) : ((List (List ByteArray))) × (Int) × Unit)
noncomputable def laws_szStringSS_L0 (x0 : (List (List ByteArray))) (x1 : Int) (x5 : Int) : Option (Int × Unit) := loopAt X 43 0 [] (mkSt 27 [(0, .sv (.lst (.sl .str) x0)), (1, .sv (.int .i64 x1)), (5, .sv (.int .i64 x5))] [])
noncomputable def spec_l18QueueOk (a0 : D_Conn) : Option (Bool × Unit) := DF X 44 ((a0, ()) : (D_Conn) × Unit)
noncomputable def spec_l18QueueOk_L0 (x3 : Int) (b0_0 : ByteArray) (b0_1 : Bool) (b0_2 : Bool) (b0_3 : (List (List ByteArray))) (b0_4 : Bool) : Option (Bool × Unit) := loopAt X 44 0 [] (mkSt 22 [(1, .sv (.ptr 0 0)), (3, .sv (.int .i64 x3))] [(0, .live (.box [(.str b0_0), (.bool b0_1), (.bool b0_2), (.lst (.sl .str) b0_3), (.bool b0_4)]))])
noncomputable def laws_toStringSS (a0 : (List (List ByteArray))) : Option ((List (List ByteArray)) × Unit) := DF X 45 ((a0, ()) : ((List (List ByteArray))) × Unit)
noncomputable def laws_toStringSS_L0 (x0 : (List (List ByteArray))) (x3 : (List (List ByteArray))) (x4 : Int) : Option ((List (List ByteArray)) × Unit) := loopAt X 45 0 [] (mkSt 23 [(0, .sv (.lst (.sl .str) x0)), (3, .sv (.own 1000003)), (4, .sv (.int .i64 x4))] [(1000003, .live (.row (.sl .str) x3 0))])
noncomputable def slices_ContainsFunc_____string___string_ (a0 : (List (List ByteArray))) (a1 : Unit) : Option (Bool × ((Unit) × Unit)) := DF X 46 ((a0, a1, ()) : ((List (List ByteArray))) × (Unit) × Unit)
noncomputable def impl_ConnOk_1 (a0 : (List ByteArray)) : Option (Bool × Unit) := DF X 47 ((a0, ()) : ((List ByteArray)) × Unit)
noncomputable def impl_Unknown (a0 : (List ByteArray)) : Option (ByteArray × Unit) := DF X 48 ((a0, ()) : ((List ByteArray)) × Unit)
noncomputable def impl_copyConn (a0 : D_Conn) : Option (D_Conn × Unit) := DF X 52 ((a0, ()) : (D_Conn) × Unit)
noncomputable def impl_Upper (a0 : ByteArray) : Option (ByteArray × Unit) := DF X 53 ((a0, ()) : (ByteArray) × Unit)
noncomputable def impl_Upper_L0 (x9 : Int) (x10 : Int) (r1040 : (List Int)) : Option (ByteArray × Unit) := loopAt X 53 0 [] (mkSt 29 [(3, .sv (.own 1040)), (8, .sv (.own 1040)), (9, .sv (.int .i64 x9)), (10, .sv (.int .i64 x10))] [(1040, .live (.row (.int .u8) r1040 0))])
noncomputable def impl_Fault (a0 : ByteArray) : Option (ByteArray × Unit) := DF X 54 ((a0, ()) : (ByteArray) × Unit)
noncomputable def impl_Simple (a0 : ByteArray) : Option (ByteArray × Unit) := DF X 55 ((a0, ()) : (ByteArray) × Unit)
noncomputable def impl_copyList (a0 : (List (List ByteArray))) : Option ((List (List ByteArray)) × Unit) := DF X 56 ((a0, ()) : ((List (List ByteArray))) × Unit)
noncomputable def impl_copyList_L0 (x3 : (List (List ByteArray))) (x6 : (List (List ByteArray))) (x7 : Int) (x8 : Int) : Option ((List (List ByteArray)) × Unit) := loopAt X 56 0 [] (mkSt 19 [(3, .sv (.own 1000003)), (6, .sv (.lst (.sl .str) x6)), (7, .sv (.int .i64 x7)), (8, .sv (.int .i64 x8))] [(1000003, .live (.row (.sl .str) x3 0))])
noncomputable def impl_settleOne (a0 : D_Conn) (a1 : (List ByteArray)) : Option ((D_Conn × (List (List ByteArray)) × ByteArray × Int) × Unit) := DF X 57 ((a0, a1, ()) : (D_Conn) × ((List ByteArray)) × Unit)
noncomputable def spec_l13In (a0 : (List ByteArray)) (a1 : ByteArray) : Option (Bool × Unit) := DF X 58 ((a0, a1, ()) : ((List ByteArray)) × (ByteArray) × Unit)
noncomputable def spec_l13In_L0 (x0 : (List ByteArray)) (x1 : ByteArray) (x5 : Int) : Option (Bool × Unit) := loopAt X 58 0 [] (mkSt 18 [(0, .sv (.lst .str x0)), (1, .sv (.str x1)), (5, .sv (.int .i64 x5))] [])
noncomputable def spec_Commands : Option ((List ByteArray) × Unit) := DF X 59 (() : Unit)
noncomputable def spec_Fault (a0 : ByteArray) : Option (ByteArray × Unit) := DF X 60 ((a0, ()) : (ByteArray) × Unit)
noncomputable def spec_ArityOk (a0 : (List ByteArray)) : Option (Bool × Unit) := DF X 61 ((a0, ()) : ((List ByteArray)) × Unit)
noncomputable def spec_l18Copy (a0 : D_Conn) : Option (D_Conn × Unit) := DF X 62 ((a0, ()) : (D_Conn) × Unit)
noncomputable def spec_l18Copy_L0 (x3 : (List (List ByteArray))) (x4 : Int) (b0_0 : ByteArray) (b0_1 : Bool) (b0_2 : Bool) (b0_3 : (List (List ByteArray))) (b0_4 : Bool) (b16_0 : ByteArray) (b16_1 : Bool) (b16_2 : Bool) (b16_3 : (List (List ByteArray))) (b16_4 : Bool) : Option (D_Conn × Unit) := loopAt X 62 0 [] (mkSt 26 [(1, .sv (.ptr 0 0)), (2, .sv (.ptr 16 0)), (3, .sv (.own 1000003)), (4, .sv (.int .i64 x4))] [(1000003, .live (.row (.sl .str) x3 0)), (0, .live (.box [(.str b0_0), (.bool b0_1), (.bool b0_2), (.lst (.sl .str) b0_3), (.bool b0_4)])), (2001027, .live (.row (.sl .str) b16_3 0)), (16, .live (.box [(.str b16_0), (.bool b16_1), (.bool b16_2), (.own 2001027), (.bool b16_4)]))])
noncomputable def spec_Simple (a0 : ByteArray) : Option (ByteArray × Unit) := DF X 63 ((a0, ()) : (ByteArray) × Unit)
noncomputable def spec_l18Plain (a0 : D_Conn) : Option (D_Conn × Unit) := DF X 64 ((a0, ()) : (D_Conn) × Unit)
noncomputable def laws_markText (a0 : Int) : Option (ByteArray × Unit) := DF X 65 ((a0, ()) : (Int) × Unit)
noncomputable def laws_markText_L0 (x0 : Int) (x3 : ByteArray) : Option (ByteArray × Unit) := loopAt X 65 0 [] (mkSt 20 [(0, .sv (.int .i64 x0)), (3, .sv (.str x3))] [])
noncomputable def slices_IndexFunc_____string___string_ (a0 : (List (List ByteArray))) (a1 : Unit) : Option (Int × ((Unit) × Unit)) := DF X 84 ((a0, a1, ()) : ((List (List ByteArray))) × (Unit) × Unit)
noncomputable def slices_IndexFunc_____string___string__L0 (x0 : (List (List ByteArray))) (x7 : Int) (x8 : Int) : Option (Int × ((Unit) × Unit)) := loopAt X 84 0 [] (mkSt 19 [(0, .sv (.lst (.sl .str) x0)), (1, .sv (.clo 47 [])), (7, .sv (.int .i64 x7)), (8, .sv (.int .i64 x8))] [])
noncomputable def impl_oneOf (a0 : (List ByteArray)) (a1 : ByteArray) : Option (Bool × Unit) := DF X 85 ((a0, a1, ()) : ((List ByteArray)) × (ByteArray) × Unit)
noncomputable def impl_ArityOk (a0 : (List ByteArray)) : Option (Bool × Unit) := DF X 86 ((a0, ()) : ((List ByteArray)) × Unit)
noncomputable def slices_Contains___string_string_ (a0 : (List ByteArray)) (a1 : ByteArray) : Option (Bool × Unit) := DF X 113 ((a0, a1, ()) : ((List ByteArray)) × (ByteArray) × Unit)
noncomputable def slices_Index___string_string_ (a0 : (List ByteArray)) (a1 : ByteArray) : Option (Int × Unit) := DF X 129 ((a0, a1, ()) : ((List ByteArray)) × (ByteArray) × Unit)
noncomputable def slices_Index___string_string__L0 (x0 : (List ByteArray)) (x1 : ByteArray) (x7 : Int) (x8 : Int) : Option (Int × Unit) := loopAt X 129 0 [] (mkSt 19 [(0, .sv (.lst .str x0)), (1, .sv (.str x1)), (7, .sv (.int .i64 x7)), (8, .sv (.int .i64 x8))] [])
theorem laws_FnExactConnOk_eq (a0 : D_Conn) : laws_FnExactConnOk a0 =
  ((laws_szConn a0 1048576).bind fun r3 =>
  bif (decide (r3.1 < 0))
  then some (true, ())
  else (laws_toConn a0).bind fun r4 =>
   (spec_ConnOk r4.1).bind fun r5 =>
   (laws_toConn a0).bind fun r6 =>
   (impl_ConnOk r6.1).bind fun r7 =>
   bif (!(r7.1 == r5.1))
   then some (false, ())
   else (laws_toConn a0).bind fun r8 =>
    (laws_eqConn r6.1 r8.1).bind fun r9 =>
    bif (!r9.1)
    then some (false, ())
    else some (true, ()) : Option (Bool × Unit)) := (DF_eq X rfl _).trans (by kernel_rfl)
theorem laws_FnExactTakeIn_eq (a0 : D_Conn) (a1 : ByteArray) : laws_FnExactTakeIn a0 a1 =
  (bif (decide ((ByteArray.size a1 : Int) > 1048576))
  then some (true, ())
  else (laws_szConn a0 1048576).bind fun r4 =>
   bif (decide (r4.1 < 0))
   then some (true, ())
   else (laws_toConn a0).bind fun r5 =>
    (spec_TakeIn r5.1 a1).bind fun r6 =>
    (laws_toConn a0).bind fun r7 =>
    (impl_TakeIn r7.1 a1).bind fun r8 =>
    (laws_eqConn r8.1.1 r6.1.1).bind fun r9 =>
    bif (!r9.1)
    then some (false, ())
    else bif (!(r8.1.2 == r6.1.2))
     then some (false, ())
     else (laws_toConn a0).bind fun r10 =>
      (laws_eqConn r7.1 r10.1).bind fun r11 =>
      bif (!r11.1)
      then some (false, ())
      else (laws_markConn r7.1 1).bind fun r12 =>
       bif (decide (r12.1 < 0))
       then some (false, ())
       else (laws_eqConn r8.1.1 r6.1.1).bind fun r13 =>
        bif (!r13.1)
        then some (false, ())
        else bif (!(r8.1.2 == r6.1.2))
         then some (false, ())
         else (laws_markConn r8.1.1 1).bind fun r14 =>
          (laws_heldConn (r8.1.1.1, (r8.1.1.2.1, (r8.1.1.2.2.1, (r14.2.1.2.2.2.1, r8.1.1.2.2.2.2)))) 1).bind fun r15 =>
          bif (decide (r15.1 < 0))
          then some (false, ())
          else bif (r15.1 != r14.1)
           then some (false, ())
           else (laws_toConn a0).bind fun r16 =>
            (impl_TakeIn r16.1 a1).bind fun r17 =>
            (laws_eqConn r17.1.1 r6.1.1).bind fun r18 =>
            bif (!r18.1)
            then some (false, ())
            else bif (!(r17.1.2 == r6.1.2))
             then some (false, ())
             else (laws_heldConn (r8.1.1.1, (r8.1.1.2.1, (r8.1.1.2.2.1, (r14.2.1.2.2.2.1, r8.1.1.2.2.2.2)))) 1).bind fun r19 =>
              bif (decide (r19.1 < 0))
              then some (false, ())
              else bif (r19.1 != r14.1)
               then some (false, ())
               else some (true, ()) : Option (Bool × Unit)) := (DF_eq X rfl _).trans (by kernel_rfl)
theorem laws_FnExactSettle_eq (a0 : D_Conn) (a1 : (List ByteArray)) : laws_FnExactSettle a0 a1 =
  ((laws_szConn a0 1048576).bind fun r4 =>
  bif (decide (r4.1 < 0))
  then some (true, ())
  else (laws_szStringS a1 r4.1).bind fun r5 =>
   bif (decide (r5.1 < 0))
   then some (true, ())
   else (laws_toConn a0).bind fun r6 =>
    (laws_toStringS a1).bind fun r7 =>
    (spec_Settle r6.1 r7.1).bind fun r8 =>
    (laws_toConn a0).bind fun r9 =>
    (laws_toStringS a1).bind fun r10 =>
    (impl_Settle r9.1 r10.1).bind fun r11 =>
    (laws_eqConn r11.1.1 r8.1.1).bind fun r12 =>
    bif (!r12.1)
    then some (false, ())
    else (laws_eqStringSS r11.1.2.1 r8.1.2.1).bind fun r13 =>
     bif (!r13.1)
     then some (false, ())
     else bif (!((ByteArray.toList r11.1.2.2.1) == (ByteArray.toList r8.1.2.2.1)))
      then some (false, ())
      else bif (r11.1.2.2.2 != r8.1.2.2.2)
       then some (false, ())
       else (laws_toConn a0).bind fun r14 =>
        (laws_eqConn r9.1 r14.1).bind fun r15 =>
        bif (!r15.1)
        then some (false, ())
        else (laws_toStringS a1).bind fun r16 =>
         (laws_eqStringS r10.1 r16.1).bind fun r17 =>
         bif (!r17.1)
         then some (false, ())
         else (laws_markConn r9.1 1).bind fun r18 =>
          (laws_markStringS r10.1 r18.1).bind fun r19 =>
          bif (decide (r19.1 < 0))
          then some (false, ())
          else (laws_eqConn r11.1.1 r8.1.1).bind fun r20 =>
           bif (!r20.1)
           then some (false, ())
           else (laws_eqStringSS r11.1.2.1 r8.1.2.1).bind fun r21 =>
            bif (!r21.1)
            then some (false, ())
            else bif (!((ByteArray.toList r11.1.2.2.1) == (ByteArray.toList r8.1.2.2.1)))
             then some (false, ())
             else bif (r11.1.2.2.2 != r8.1.2.2.2)
              then some (false, ())
              else (laws_markConn r11.1.1 1).bind fun r22 =>
               (laws_markStringSS r11.1.2.1 r22.1).bind fun r23 =>
               (laws_heldConn (r11.1.1.1, (r11.1.1.2.1, (r11.1.1.2.2.1, (r22.2.1.2.2.2.1, r11.1.1.2.2.2.2)))) 1).bind fun r24 =>
               bif (decide (r24.1 < 0))
               then some (false, ())
               else (laws_heldStringSS r23.2.1 r24.1).bind fun r25 =>
                bif (decide (r25.1 < 0))
                then some (false, ())
                else bif (r25.1 != r23.1)
                 then some (false, ())
                 else (laws_toConn a0).bind fun r26 =>
                  (laws_toStringS a1).bind fun r27 =>
                  (impl_Settle r26.1 r27.1).bind fun r28 =>
                  (laws_eqConn r28.1.1 r8.1.1).bind fun r29 =>
                  bif (!r29.1)
                  then some (false, ())
                  else (laws_eqStringSS r28.1.2.1 r8.1.2.1).bind fun r30 =>
                   bif (!r30.1)
                   then some (false, ())
                   else bif (!((ByteArray.toList r28.1.2.2.1) == (ByteArray.toList r8.1.2.2.1)))
                    then some (false, ())
                    else bif (r28.1.2.2.2 != r8.1.2.2.2)
                     then some (false, ())
                     else (laws_heldConn (r11.1.1.1, (r11.1.1.2.1, (r11.1.1.2.2.1, (r22.2.1.2.2.2.1, r11.1.1.2.2.2.2)))) 1).bind fun r31 =>
                      bif (decide (r31.1 < 0))
                      then some (false, ())
                      else (laws_heldStringSS r23.2.1 r31.1).bind fun r32 =>
                       bif (decide (r32.1 < 0))
                       then some (false, ())
                       else bif (r32.1 != r23.1)
                        then some (false, ())
                        else some (true, ()) : Option (Bool × Unit)) := (DF_eq X rfl _).trans (by kernel_rfl)
theorem laws_szConn_eq (a0 : D_Conn) (a1 : Int) : laws_szConn a0 a1 =
  (bif (decide ((w64 (a1 - (ByteArray.size a0.1 : Int))) < 0))
  then some ((-1), ())
  else (laws_szStringSS a0.2.2.2.1 (w64 (a1 - (ByteArray.size a0.1 : Int)))).bind fun r4 =>
   bif (decide (r4.1 < 0))
   then some ((-1), ())
   else some (r4.1, ()) : Option (Int × Unit)) := (DF_eq X rfl _).trans (by kernel_rfl)
theorem spec_ConnOk_eq (a0 : D_Conn) : spec_ConnOk a0 =
  (bif (decide ((ByteArray.size a0.1 : Int) ≤ 2000))
  then (spec_l18QueueOk a0).bind fun r3 =>
   bif r3.1
   then bif a0.2.1
    then bif (!a0.2.2.2.2)
     then some (true, ())
     else bif ((ByteArray.toList a0.1) == (ByteArray.toList ByteArray.empty))
      then some ((!a0.2.1), ())
      else some (false, ())
    else bif ((List.length a0.2.2.2.1 : Int) == 0)
     then bif (!a0.2.2.1)
      then bif (!a0.2.2.2.2)
       then some (true, ())
       else bif ((ByteArray.toList a0.1) == (ByteArray.toList ByteArray.empty))
        then some ((!a0.2.1), ())
        else some (false, ())
      else some (false, ())
     else some (false, ())
   else some (false, ())
  else some (false, ()) : Option (Bool × Unit)) := (DF_eq X rfl _).trans (by kernel_rfl)
theorem laws_toConn_eq (a0 : D_Conn) : laws_toConn a0 =
  ((laws_toStringSS a0.2.2.2.1).bind fun r3 =>
  some ((a0.1, (a0.2.1, (a0.2.2.1, (r3.1, a0.2.2.2.2)))), ()) : Option (D_Conn × Unit)) := (DF_eq X rfl _).trans (by kernel_rfl)
theorem impl_ConnOk_eq (a0 : D_Conn) : impl_ConnOk a0 =
  (bif (decide ((ByteArray.size a0.1 : Int) > 2000))
  then some (false, ())
  else bif (decide ((List.length a0.2.2.2.1 : Int) > 8))
   then some (false, ())
   else (slices_ContainsFunc_____string___string_ a0.2.2.2.1 ()).bind fun r3 =>
    bif r3.1
    then some (false, ())
    else bif a0.2.1
     then bif (!a0.2.2.2.2)
      then some (true, ())
      else bif ((ByteArray.toList a0.1) == (ByteArray.toList ByteArray.empty))
       then some ((!a0.2.1), ())
       else some (false, ())
     else bif ((List.length a0.2.2.2.1 : Int) == 0)
      then bif (!a0.2.2.1)
       then bif (!a0.2.2.2.2)
        then some (true, ())
        else bif ((ByteArray.toList a0.1) == (ByteArray.toList ByteArray.empty))
         then some ((!a0.2.1), ())
         else some (false, ())
       else some (false, ())
      else some (false, ()) : Option (Bool × Unit)) := (DF_eq X rfl _).trans (by kernel_rfl)
theorem laws_eqConn_eq (a0 : D_Conn) (a1 : D_Conn) : laws_eqConn a0 a1 =
  (bif (!((ByteArray.toList a0.1) == (ByteArray.toList a1.1)))
  then some (false, ())
  else bif (!(a0.2.1 == a1.2.1))
   then some (false, ())
   else bif (!(a0.2.2.1 == a1.2.2.1))
    then some (false, ())
    else (laws_eqStringSS a0.2.2.2.1 a1.2.2.2.1).bind fun r4 =>
     bif (!r4.1)
     then some (false, ())
     else bif (!(a0.2.2.2.2 == a1.2.2.2.2))
      then some (false, ())
      else some (true, ()) : Option (Bool × Unit)) := (DF_eq X rfl _).trans (by kernel_rfl)
theorem impl_Settle_eq (a0 : D_Conn) (a1 : (List ByteArray)) : impl_Settle a0 a1 =
  ((impl_copyConn a0).bind fun r4 =>
  bif ((List.length a1 : Int) == 0)
  then some ((r4.1, ([], (ByteArray.empty, 0))), ())
  else bif ((List.length a1 : Int) == 1)
   then bif ((decide ((0 : Int) ≤ 0)) && (decide (0 < (List.length a1 : Int))))
    then (impl_Upper (List.getD a1 (Int.toNat 0) ByteArray.empty)).bind fun r5 =>
     (impl_copyConn a0).bind fun r6 =>
     bif ((ByteArray.toList r5.1) == (ByteArray.toList c_MULTI))
     then bif a0.2.1
      then (impl_Fault c_ERR_nested).bind fun r7 =>
       some ((r4.1, ([], (r7.1, 0))), ())
      else bif ((ByteArray.toList r5.1) == (ByteArray.toList c_MULTI))
       then (impl_Simple c_OK).bind fun r7 =>
        some (((r4.1.1, (true, r4.1.2.2)), ([], (r7.1, 0))), ())
       else bif ((ByteArray.toList r5.1) == (ByteArray.toList c_DISCARD))
        then bif (!a0.2.1)
         then (impl_Fault c_ERR_no_multi).bind fun r7 =>
          some ((r4.1, ([], (r7.1, 0))), ())
         else bif ((ByteArray.toList r5.1) == (ByteArray.toList c_DISCARD))
          then (impl_Simple c_OK).bind fun r7 =>
           some (((r6.1.1, (false, (false, ([], r6.1.2.2.2.2)))), ([], (r7.1, 0))), ())
          else bif ((ByteArray.toList r5.1) == (ByteArray.toList c_EXEC))
           then bif a0.2.2.1
            then (impl_Fault c_EXECABORT).bind fun r7 =>
             some (((r6.1.1, (false, (false, ([], r6.1.2.2.2.2)))), ([], (r7.1, 0))), ())
            else bif ((ByteArray.toList r5.1) == (ByteArray.toList c_EXEC))
             then (impl_copyList a0.2.2.2.1).bind fun r7 =>
              some (((r6.1.1, (false, (false, ([], r6.1.2.2.2.2)))), (r7.1, (ByteArray.empty, 2))), ())
             else (impl_settleOne r4.1 a1).bind fun r7 =>
              some (r7.1, ())
           else bif ((ByteArray.toList r5.1) == (ByteArray.toList c_EXEC))
            then (impl_copyList a0.2.2.2.1).bind fun r7 =>
             some (((r6.1.1, (false, (false, ([], r6.1.2.2.2.2)))), (r7.1, (ByteArray.empty, 2))), ())
            else (impl_settleOne r4.1 a1).bind fun r7 =>
             some (r7.1, ())
        else bif ((ByteArray.toList r5.1) == (ByteArray.toList c_EXEC))
         then bif (!a0.2.1)
          then (impl_Fault c_ERR_no_multi).bind fun r7 =>
           some ((r4.1, ([], (r7.1, 0))), ())
          else bif ((ByteArray.toList r5.1) == (ByteArray.toList c_DISCARD))
           then (impl_Simple c_OK).bind fun r7 =>
            some (((r6.1.1, (false, (false, ([], r6.1.2.2.2.2)))), ([], (r7.1, 0))), ())
           else bif ((ByteArray.toList r5.1) == (ByteArray.toList c_EXEC))
            then bif a0.2.2.1
             then (impl_Fault c_EXECABORT).bind fun r7 =>
              some (((r6.1.1, (false, (false, ([], r6.1.2.2.2.2)))), ([], (r7.1, 0))), ())
             else bif ((ByteArray.toList r5.1) == (ByteArray.toList c_EXEC))
              then (impl_copyList a0.2.2.2.1).bind fun r7 =>
               some (((r6.1.1, (false, (false, ([], r6.1.2.2.2.2)))), (r7.1, (ByteArray.empty, 2))), ())
              else (impl_settleOne r4.1 a1).bind fun r7 =>
               some (r7.1, ())
            else bif ((ByteArray.toList r5.1) == (ByteArray.toList c_EXEC))
             then (impl_copyList a0.2.2.2.1).bind fun r7 =>
              some (((r6.1.1, (false, (false, ([], r6.1.2.2.2.2)))), (r7.1, (ByteArray.empty, 2))), ())
             else (impl_settleOne r4.1 a1).bind fun r7 =>
              some (r7.1, ())
         else bif ((ByteArray.toList r5.1) == (ByteArray.toList c_DISCARD))
          then (impl_Simple c_OK).bind fun r7 =>
           some (((r6.1.1, (false, (false, ([], r6.1.2.2.2.2)))), ([], (r7.1, 0))), ())
          else bif ((ByteArray.toList r5.1) == (ByteArray.toList c_EXEC))
           then bif a0.2.2.1
            then (impl_Fault c_EXECABORT).bind fun r7 =>
             some (((r6.1.1, (false, (false, ([], r6.1.2.2.2.2)))), ([], (r7.1, 0))), ())
            else bif ((ByteArray.toList r5.1) == (ByteArray.toList c_EXEC))
             then (impl_copyList a0.2.2.2.1).bind fun r7 =>
              some (((r6.1.1, (false, (false, ([], r6.1.2.2.2.2)))), (r7.1, (ByteArray.empty, 2))), ())
             else (impl_settleOne r4.1 a1).bind fun r7 =>
              some (r7.1, ())
           else bif ((ByteArray.toList r5.1) == (ByteArray.toList c_EXEC))
            then (impl_copyList a0.2.2.2.1).bind fun r7 =>
             some (((r6.1.1, (false, (false, ([], r6.1.2.2.2.2)))), (r7.1, (ByteArray.empty, 2))), ())
            else (impl_settleOne r4.1 a1).bind fun r7 =>
             some (r7.1, ())
     else bif ((ByteArray.toList r5.1) == (ByteArray.toList c_MULTI))
      then (impl_Simple c_OK).bind fun r7 =>
       some (((r4.1.1, (true, r4.1.2.2)), ([], (r7.1, 0))), ())
      else bif ((ByteArray.toList r5.1) == (ByteArray.toList c_DISCARD))
       then bif (!a0.2.1)
        then (impl_Fault c_ERR_no_multi).bind fun r7 =>
         some ((r4.1, ([], (r7.1, 0))), ())
        else bif ((ByteArray.toList r5.1) == (ByteArray.toList c_DISCARD))
         then (impl_Simple c_OK).bind fun r7 =>
          some (((r6.1.1, (false, (false, ([], r6.1.2.2.2.2)))), ([], (r7.1, 0))), ())
         else bif ((ByteArray.toList r5.1) == (ByteArray.toList c_EXEC))
          then bif a0.2.2.1
           then (impl_Fault c_EXECABORT).bind fun r7 =>
            some (((r6.1.1, (false, (false, ([], r6.1.2.2.2.2)))), ([], (r7.1, 0))), ())
           else bif ((ByteArray.toList r5.1) == (ByteArray.toList c_EXEC))
            then (impl_copyList a0.2.2.2.1).bind fun r7 =>
             some (((r6.1.1, (false, (false, ([], r6.1.2.2.2.2)))), (r7.1, (ByteArray.empty, 2))), ())
            else (impl_settleOne r4.1 a1).bind fun r7 =>
             some (r7.1, ())
          else bif ((ByteArray.toList r5.1) == (ByteArray.toList c_EXEC))
           then (impl_copyList a0.2.2.2.1).bind fun r7 =>
            some (((r6.1.1, (false, (false, ([], r6.1.2.2.2.2)))), (r7.1, (ByteArray.empty, 2))), ())
           else (impl_settleOne r4.1 a1).bind fun r7 =>
            some (r7.1, ())
       else bif ((ByteArray.toList r5.1) == (ByteArray.toList c_EXEC))
        then bif (!a0.2.1)
         then (impl_Fault c_ERR_no_multi).bind fun r7 =>
          some ((r4.1, ([], (r7.1, 0))), ())
         else bif ((ByteArray.toList r5.1) == (ByteArray.toList c_DISCARD))
          then (impl_Simple c_OK).bind fun r7 =>
           some (((r6.1.1, (false, (false, ([], r6.1.2.2.2.2)))), ([], (r7.1, 0))), ())
          else bif ((ByteArray.toList r5.1) == (ByteArray.toList c_EXEC))
           then bif a0.2.2.1
            then (impl_Fault c_EXECABORT).bind fun r7 =>
             some (((r6.1.1, (false, (false, ([], r6.1.2.2.2.2)))), ([], (r7.1, 0))), ())
            else bif ((ByteArray.toList r5.1) == (ByteArray.toList c_EXEC))
             then (impl_copyList a0.2.2.2.1).bind fun r7 =>
              some (((r6.1.1, (false, (false, ([], r6.1.2.2.2.2)))), (r7.1, (ByteArray.empty, 2))), ())
             else (impl_settleOne r4.1 a1).bind fun r7 =>
              some (r7.1, ())
           else bif ((ByteArray.toList r5.1) == (ByteArray.toList c_EXEC))
            then (impl_copyList a0.2.2.2.1).bind fun r7 =>
             some (((r6.1.1, (false, (false, ([], r6.1.2.2.2.2)))), (r7.1, (ByteArray.empty, 2))), ())
            else (impl_settleOne r4.1 a1).bind fun r7 =>
             some (r7.1, ())
        else bif ((ByteArray.toList r5.1) == (ByteArray.toList c_DISCARD))
         then (impl_Simple c_OK).bind fun r7 =>
          some (((r6.1.1, (false, (false, ([], r6.1.2.2.2.2)))), ([], (r7.1, 0))), ())
         else bif ((ByteArray.toList r5.1) == (ByteArray.toList c_EXEC))
          then bif a0.2.2.1
           then (impl_Fault c_EXECABORT).bind fun r7 =>
            some (((r6.1.1, (false, (false, ([], r6.1.2.2.2.2)))), ([], (r7.1, 0))), ())
           else bif ((ByteArray.toList r5.1) == (ByteArray.toList c_EXEC))
            then (impl_copyList a0.2.2.2.1).bind fun r7 =>
             some (((r6.1.1, (false, (false, ([], r6.1.2.2.2.2)))), (r7.1, (ByteArray.empty, 2))), ())
            else (impl_settleOne r4.1 a1).bind fun r7 =>
             some (r7.1, ())
          else bif ((ByteArray.toList r5.1) == (ByteArray.toList c_EXEC))
           then (impl_copyList a0.2.2.2.1).bind fun r7 =>
            some (((r6.1.1, (false, (false, ([], r6.1.2.2.2.2)))), (r7.1, (ByteArray.empty, 2))), ())
           else (impl_settleOne r4.1 a1).bind fun r7 =>
            some (r7.1, ())
    else none
   else (impl_copyConn a0).bind fun r5 =>
    (impl_settleOne r4.1 a1).bind fun r6 =>
    some (r6.1, ()) : Option ((D_Conn × (List (List ByteArray)) × ByteArray × Int) × Unit)) := (DF_eq X rfl _).trans (by kernel_rfl)
theorem spec_Upper_eq (a0 : ByteArray) : spec_Upper a0 =
  (spec_Upper_L0 (bytesL a0) 0 : Option (ByteArray × Unit)) := (DF_eq X rfl _).trans (by kernel_rfl)
theorem spec_Upper_L0_eq (x3 : (List Int)) (x4 : Int) : spec_Upper_L0 x3 x4 =
  (bif (decide (x4 < (List.length x3 : Int)))
  then bif ((decide (0 ≤ x4)) && (decide (x4 < (List.length x3 : Int))))
   then bif (decide ((List.getD x3 (Int.toNat x4) 0) ≥ 97))
    then bif ((decide (0 ≤ x4)) && (decide (x4 < (List.length x3 : Int))))
     then bif (decide ((List.getD x3 (Int.toNat x4) 0) ≤ 122))
      then bif ((decide (0 ≤ x4)) && (decide (x4 < (List.length x3 : Int))))
       then bif ((decide (0 ≤ x4)) && (decide (x4 < (List.length x3 : Int))))
        then spec_Upper_L0 (List.set x3 (Int.toNat x4) (Go.IntKind.u8.wrap ((List.getD x3 (Int.toNat x4) 0) - 32))) (w64 (x4 + 1))
        else none
       else none
      else spec_Upper_L0 x3 (w64 (x4 + 1))
     else none
    else spec_Upper_L0 x3 (w64 (x4 + 1))
   else none
  else some ((⟨(List.toArray (List.map (fun n => (UInt8.ofNat (Int.toNat n))) x3))⟩ : ByteArray), ()) : Option (ByteArray × Unit)) := (loopAt_mk X 18 0 [] _ _ _).trans (by kernel_rfl)
theorem spec_Unknown_eq (a0 : (List ByteArray)) : spec_Unknown a0 =
  (bif ((List.length a0 : Int) == 0)
  then (spec_Fault c_ERR_unknown).bind fun r3 =>
   some (r3.1, ())
  else (spec_Commands).bind fun r3 =>
   bif ((decide ((0 : Int) ≤ 0)) && (decide (0 < (List.length a0 : Int))))
   then (spec_Upper (List.getD a0 (Int.toNat 0) ByteArray.empty)).bind fun r4 =>
    (spec_l13In r3.1 r4.1).bind fun r5 =>
    bif (!r5.1)
    then (spec_Fault c_ERR_unknown).bind fun r6 =>
     some (r6.1, ())
    else (spec_ArityOk a0).bind fun r6 =>
     bif (!r6.1)
     then (spec_Fault c_ERR_arguments).bind fun r7 =>
      some (r7.1, ())
     else some (ByteArray.empty, ())
   else none : Option (ByteArray × Unit)) := (DF_eq X rfl _).trans (by kernel_rfl)
theorem spec_TakeIn_eq (a0 : D_Conn) (a1 : ByteArray) : spec_TakeIn a0 a1 =
  ((spec_ConnOk a0).bind fun r4 =>
  bif (!r4.1)
  then some (((ByteArray.empty, (false, (false, ([], false)))), false), ())
  else bif a0.2.2.2.2
   then some (((ByteArray.empty, (false, (false, ([], false)))), false), ())
   else bif (decide ((ByteArray.size a1 : Int) > 2000))
    then some (((ByteArray.empty, (false, (false, ([], false)))), false), ())
    else bif (decide ((w64 ((ByteArray.size a0.1 : Int) + (ByteArray.size a1 : Int))) > 2000))
     then some (((ByteArray.empty, (false, (false, ([], false)))), false), ())
     else (spec_l18Copy a0).bind fun r5 =>
      bif (limS ((ByteArray.size a0.1) + (ByteArray.size a1)))
      then some ((((a0.1 ++ a1), r5.1.2), true), ())
      else none : Option ((D_Conn × Bool) × Unit)) := (DF_eq X rfl _).trans (by kernel_rfl)
theorem impl_TakeIn_eq (a0 : D_Conn) (a1 : ByteArray) : impl_TakeIn a0 a1 =
  ((impl_ConnOk a0).bind fun r4 =>
  bif (!r4.1)
  then some (((ByteArray.empty, (false, (false, ([], false)))), false), ())
  else bif a0.2.2.2.2
   then some (((ByteArray.empty, (false, (false, ([], false)))), false), ())
   else bif (decide ((w64 ((ByteArray.size a0.1 : Int) + (ByteArray.size a1 : Int))) > 2000))
    then some (((ByteArray.empty, (false, (false, ([], false)))), false), ())
    else (impl_copyConn a0).bind fun r5 =>
     bif (limS ((ByteArray.size r5.1.1) + (ByteArray.size a1)))
     then some ((((r5.1.1 ++ a1), r5.1.2), true), ())
     else none : Option ((D_Conn × Bool) × Unit)) := (DF_eq X rfl _).trans (by kernel_rfl)
theorem laws_markConn_eq (a0 : D_Conn) (a1 : Int) : laws_markConn a0 a1 =
  ((laws_markStringSS a0.2.2.2.1 a1).bind fun r4 =>
  some (r4.1, ((ByteArray.empty, (false, (false, (r4.2.1, false)))), ())) : Option (Int × (D_Conn × Unit))) := (DF_eq X rfl _).trans (by kernel_rfl)
theorem laws_heldConn_eq (a0 : D_Conn) (a1 : Int) : laws_heldConn a0 a1 =
  ((laws_heldStringSS a0.2.2.2.1 a1).bind fun r4 =>
  bif (decide (r4.1 < 0))
  then some ((-1), ())
  else some (r4.1, ()) : Option (Int × Unit)) := (DF_eq X rfl _).trans (by kernel_rfl)
theorem laws_szStringS_eq (a0 : (List ByteArray)) (a1 : Int) : laws_szStringS a0 a1 =
  (bif (decide ((w64 (a1 - (List.length a0 : Int))) < 0))
  then some ((-1), ())
  else laws_szStringS_L0 a0 (w64 (a1 - (List.length a0 : Int))) 0 : Option (Int × Unit)) := (DF_eq X rfl _).trans (by kernel_rfl)
theorem laws_szStringS_L0_eq (x0 : (List ByteArray)) (x1 : Int) (x5 : Int) : laws_szStringS_L0 x0 x1 x5 =
  (bif (decide (x5 < (List.length x0 : Int)))
  then bif ((decide (0 ≤ x5)) && (decide (x5 < (List.length x0 : Int))))
   then bif (decide ((w64 (x1 - (ByteArray.size (List.getD x0 (Int.toNat x5) ByteArray.empty) : Int))) < 0))
    then some ((-1), ())
    else laws_szStringS_L0 x0 (w64 (x1 - (ByteArray.size (List.getD x0 (Int.toNat x5) ByteArray.empty) : Int))) (w64 (x5 + 1))
   else none
  else some (x1, ()) : Option (Int × Unit)) := (loopAt_mk X 25 0 [] _ _ _).trans (by kernel_rfl)
theorem spec_Settle_eq (a0 : D_Conn) (a1 : (List ByteArray)) : spec_Settle a0 a1 =
  ((spec_l18Copy a0).bind fun r4 =>
  bif ((List.length a1 : Int) == 0)
  then some ((r4.1, ([], (ByteArray.empty, 0))), ())
  else bif ((List.length a1 : Int) == 1)
   then bif ((decide ((0 : Int) ≤ 0)) && (decide (0 < (List.length a1 : Int))))
    then (spec_Upper (List.getD a1 (Int.toNat 0) ByteArray.empty)).bind fun r5 =>
     bif ((ByteArray.toList r5.1) == (ByteArray.toList c_MULTI))
     then bif a0.2.1
      then (spec_Fault c_ERR_nested).bind fun r6 =>
       some ((r4.1, ([], (r6.1, 0))), ())
      else (spec_Simple c_OK).bind fun r6 =>
       some (((r4.1.1, (true, r4.1.2.2)), ([], (r6.1, 0))), ())
     else bif ((ByteArray.toList r5.1) == (ByteArray.toList c_DISCARD))
      then bif ((ByteArray.toList r5.1) == (ByteArray.toList c_DISCARD))
       then bif (!a0.2.1)
        then (spec_Fault c_ERR_no_multi).bind fun r6 =>
         some ((r4.1, ([], (r6.1, 0))), ())
        else bif ((ByteArray.toList r5.1) == (ByteArray.toList c_DISCARD))
         then (spec_l18Plain a0).bind fun r6 =>
          (spec_Simple c_OK).bind fun r7 =>
          some ((r6.1, ([], (r7.1, 0))), ())
         else bif a0.2.2.1
          then (spec_l18Plain a0).bind fun r6 =>
           (spec_Fault c_EXECABORT).bind fun r7 =>
           some ((r6.1, ([], (r7.1, 0))), ())
          else (spec_l18Plain a0).bind fun r6 =>
           some ((r6.1, (r4.1.2.2.2.1, (ByteArray.empty, 2))), ())
       else bif (!a0.2.1)
        then bif (lim (0 + (List.length a1)) 16)
         then some ((r4.1, ([([] ++ a1)], (ByteArray.empty, 1))), ())
         else none
        else (spec_Unknown a1).bind fun r6 =>
         bif ((ByteArray.toList r6.1) == (ByteArray.toList ByteArray.empty))
         then bif (decide ((List.length a0.2.2.2.1 : Int) ≥ 8))
          then (spec_Fault c_ERR_limit).bind fun r7 =>
           bif (!((ByteArray.toList r7.1) == (ByteArray.toList ByteArray.empty)))
           then some (((r4.1.1, (r4.1.2.1, (true, r4.1.2.2.2))), ([], (r7.1, 0))), ())
           else bif (lim (0 + (List.length a1)) 16)
            then bif (lim ((List.length r4.1.2.2.2.1) + 1) 24)
             then (spec_Simple c_QUEUED).bind fun r8 =>
              some (((r4.1.1, (r4.1.2.1, (r4.1.2.2.1, ((r4.1.2.2.2.1 ++ [([] ++ a1)]), r4.1.2.2.2.2)))), ([], (r8.1, 0))), ())
             else none
            else none
          else bif (!((ByteArray.toList r6.1) == (ByteArray.toList ByteArray.empty)))
           then some (((r4.1.1, (r4.1.2.1, (true, r4.1.2.2.2))), ([], (r6.1, 0))), ())
           else bif (lim (0 + (List.length a1)) 16)
            then bif (lim ((List.length r4.1.2.2.2.1) + 1) 24)
             then (spec_Simple c_QUEUED).bind fun r7 =>
              some (((r4.1.1, (r4.1.2.1, (r4.1.2.2.1, ((r4.1.2.2.2.1 ++ [([] ++ a1)]), r4.1.2.2.2.2)))), ([], (r7.1, 0))), ())
             else none
            else none
         else bif (!((ByteArray.toList r6.1) == (ByteArray.toList ByteArray.empty)))
          then some (((r4.1.1, (r4.1.2.1, (true, r4.1.2.2.2))), ([], (r6.1, 0))), ())
          else bif (lim (0 + (List.length a1)) 16)
           then bif (lim ((List.length r4.1.2.2.2.1) + 1) 24)
            then (spec_Simple c_QUEUED).bind fun r7 =>
             some (((r4.1.1, (r4.1.2.1, (r4.1.2.2.1, ((r4.1.2.2.2.1 ++ [([] ++ a1)]), r4.1.2.2.2.2)))), ([], (r7.1, 0))), ())
            else none
           else none
      else bif ((ByteArray.toList r5.1) == (ByteArray.toList c_EXEC))
       then bif (!a0.2.1)
        then (spec_Fault c_ERR_no_multi).bind fun r6 =>
         some ((r4.1, ([], (r6.1, 0))), ())
        else bif ((ByteArray.toList r5.1) == (ByteArray.toList c_DISCARD))
         then (spec_l18Plain a0).bind fun r6 =>
          (spec_Simple c_OK).bind fun r7 =>
          some ((r6.1, ([], (r7.1, 0))), ())
         else bif a0.2.2.1
          then (spec_l18Plain a0).bind fun r6 =>
           (spec_Fault c_EXECABORT).bind fun r7 =>
           some ((r6.1, ([], (r7.1, 0))), ())
          else (spec_l18Plain a0).bind fun r6 =>
           some ((r6.1, (r4.1.2.2.2.1, (ByteArray.empty, 2))), ())
       else bif (!a0.2.1)
        then bif (lim (0 + (List.length a1)) 16)
         then some ((r4.1, ([([] ++ a1)], (ByteArray.empty, 1))), ())
         else none
        else (spec_Unknown a1).bind fun r6 =>
         bif ((ByteArray.toList r6.1) == (ByteArray.toList ByteArray.empty))
         then bif (decide ((List.length a0.2.2.2.1 : Int) ≥ 8))
          then (spec_Fault c_ERR_limit).bind fun r7 =>
           bif (!((ByteArray.toList r7.1) == (ByteArray.toList ByteArray.empty)))
           then some (((r4.1.1, (r4.1.2.1, (true, r4.1.2.2.2))), ([], (r7.1, 0))), ())
           else bif (lim (0 + (List.length a1)) 16)
            then bif (lim ((List.length r4.1.2.2.2.1) + 1) 24)
             then (spec_Simple c_QUEUED).bind fun r8 =>
              some (((r4.1.1, (r4.1.2.1, (r4.1.2.2.1, ((r4.1.2.2.2.1 ++ [([] ++ a1)]), r4.1.2.2.2.2)))), ([], (r8.1, 0))), ())
             else none
            else none
          else bif (!((ByteArray.toList r6.1) == (ByteArray.toList ByteArray.empty)))
           then some (((r4.1.1, (r4.1.2.1, (true, r4.1.2.2.2))), ([], (r6.1, 0))), ())
           else bif (lim (0 + (List.length a1)) 16)
            then bif (lim ((List.length r4.1.2.2.2.1) + 1) 24)
             then (spec_Simple c_QUEUED).bind fun r7 =>
              some (((r4.1.1, (r4.1.2.1, (r4.1.2.2.1, ((r4.1.2.2.2.1 ++ [([] ++ a1)]), r4.1.2.2.2.2)))), ([], (r7.1, 0))), ())
             else none
            else none
         else bif (!((ByteArray.toList r6.1) == (ByteArray.toList ByteArray.empty)))
          then some (((r4.1.1, (r4.1.2.1, (true, r4.1.2.2.2))), ([], (r6.1, 0))), ())
          else bif (lim (0 + (List.length a1)) 16)
           then bif (lim ((List.length r4.1.2.2.2.1) + 1) 24)
            then (spec_Simple c_QUEUED).bind fun r7 =>
             some (((r4.1.1, (r4.1.2.1, (r4.1.2.2.1, ((r4.1.2.2.2.1 ++ [([] ++ a1)]), r4.1.2.2.2.2)))), ([], (r7.1, 0))), ())
            else none
           else none
    else none
   else bif (!a0.2.1)
    then bif (lim (0 + (List.length a1)) 16)
     then some ((r4.1, ([([] ++ a1)], (ByteArray.empty, 1))), ())
     else none
    else (spec_Unknown a1).bind fun r5 =>
     bif ((ByteArray.toList r5.1) == (ByteArray.toList ByteArray.empty))
     then bif (decide ((List.length a0.2.2.2.1 : Int) ≥ 8))
      then (spec_Fault c_ERR_limit).bind fun r6 =>
       bif (!((ByteArray.toList r6.1) == (ByteArray.toList ByteArray.empty)))
       then some (((r4.1.1, (r4.1.2.1, (true, r4.1.2.2.2))), ([], (r6.1, 0))), ())
       else bif (lim (0 + (List.length a1)) 16)
        then bif (lim ((List.length r4.1.2.2.2.1) + 1) 24)
         then (spec_Simple c_QUEUED).bind fun r7 =>
          some (((r4.1.1, (r4.1.2.1, (r4.1.2.2.1, ((r4.1.2.2.2.1 ++ [([] ++ a1)]), r4.1.2.2.2.2)))), ([], (r7.1, 0))), ())
         else none
        else none
      else bif (!((ByteArray.toList r5.1) == (ByteArray.toList ByteArray.empty)))
       then some (((r4.1.1, (r4.1.2.1, (true, r4.1.2.2.2))), ([], (r5.1, 0))), ())
       else bif (lim (0 + (List.length a1)) 16)
        then bif (lim ((List.length r4.1.2.2.2.1) + 1) 24)
         then (spec_Simple c_QUEUED).bind fun r6 =>
          some (((r4.1.1, (r4.1.2.1, (r4.1.2.2.1, ((r4.1.2.2.2.1 ++ [([] ++ a1)]), r4.1.2.2.2.2)))), ([], (r6.1, 0))), ())
         else none
        else none
     else bif (!((ByteArray.toList r5.1) == (ByteArray.toList ByteArray.empty)))
      then some (((r4.1.1, (r4.1.2.1, (true, r4.1.2.2.2))), ([], (r5.1, 0))), ())
      else bif (lim (0 + (List.length a1)) 16)
       then bif (lim ((List.length r4.1.2.2.2.1) + 1) 24)
        then (spec_Simple c_QUEUED).bind fun r6 =>
         some (((r4.1.1, (r4.1.2.1, (r4.1.2.2.1, ((r4.1.2.2.2.1 ++ [([] ++ a1)]), r4.1.2.2.2.2)))), ([], (r6.1, 0))), ())
        else none
       else none : Option ((D_Conn × (List (List ByteArray)) × ByteArray × Int) × Unit)) := (DF_eq X rfl _).trans (by kernel_rfl)
theorem laws_toStringS_eq (a0 : (List ByteArray)) : laws_toStringS a0 =
  (bif ((decide (0 ≤ (List.length a0 : Int))) && ((decide ((List.length a0 : Int) ≤ (List.length a0 : Int))) && (lim (Int.toNat (List.length a0 : Int)) 16)))
  then laws_toStringS_L0 a0 (List.replicate (Int.toNat (List.length a0 : Int)) ByteArray.empty) 0
  else none : Option ((List ByteArray) × Unit)) := (DF_eq X rfl _).trans (by kernel_rfl)
theorem laws_toStringS_L0_eq (x0 : (List ByteArray)) (x3 : (List ByteArray)) (x4 : Int) : laws_toStringS_L0 x0 x3 x4 =
  (bif (decide (x4 < (List.length x0 : Int)))
  then bif ((decide (0 ≤ x4)) && (decide (x4 < (List.length x0 : Int))))
   then bif ((decide (0 ≤ x4)) && (decide (x4 < (List.length x3 : Int))))
    then laws_toStringS_L0 x0 (List.set x3 (Int.toNat x4) (List.getD x0 (Int.toNat x4) ByteArray.empty)) (w64 (x4 + 1))
    else none
   else none
  else some (x3, ()) : Option ((List ByteArray) × Unit)) := (loopAt_mk X 27 0 [] _ _ _).trans (by kernel_rfl)
theorem laws_eqStringSS_eq (a0 : (List (List ByteArray))) (a1 : (List (List ByteArray))) : laws_eqStringSS a0 a1 =
  (bif ((List.length a0 : Int) != (List.length a1 : Int))
  then some (false, ())
  else laws_eqStringSS_L0 a0 a1 0 : Option (Bool × Unit)) := (DF_eq X rfl _).trans (by kernel_rfl)
theorem laws_eqStringSS_L0_eq (x0 : (List (List ByteArray))) (x1 : (List (List ByteArray))) (x5 : Int) : laws_eqStringSS_L0 x0 x1 x5 =
  (bif (decide (x5 < (List.length x0 : Int)))
  then bif ((decide (0 ≤ x5)) && (decide (x5 < (List.length x0 : Int))))
   then bif ((decide (0 ≤ x5)) && (decide (x5 < (List.length x1 : Int))))
    then (laws_eqStringS (List.getD x0 (Int.toNat x5) []) (List.getD x1 (Int.toNat x5) [])).bind fun r5 =>
     bif (!r5.1)
     then some (false, ())
     else laws_eqStringSS_L0 x0 x1 (w64 (x5 + 1))
    else none
   else none
  else some (true, ()) : Option (Bool × Unit)) := (loopAt_mk X 28 0 [] _ _ _).trans (by kernel_rfl)
theorem laws_eqStringS_eq (a0 : (List ByteArray)) (a1 : (List ByteArray)) : laws_eqStringS a0 a1 =
  (bif ((List.length a0 : Int) != (List.length a1 : Int))
  then some (false, ())
  else laws_eqStringS_L0 a0 a1 0 : Option (Bool × Unit)) := (DF_eq X rfl _).trans (by kernel_rfl)
theorem laws_eqStringS_L0_eq (x0 : (List ByteArray)) (x1 : (List ByteArray)) (x5 : Int) : laws_eqStringS_L0 x0 x1 x5 =
  (bif (decide (x5 < (List.length x0 : Int)))
  then bif ((decide (0 ≤ x5)) && (decide (x5 < (List.length x0 : Int))))
   then bif ((decide (0 ≤ x5)) && (decide (x5 < (List.length x1 : Int))))
    then bif (!((ByteArray.toList (List.getD x0 (Int.toNat x5) ByteArray.empty)) == (ByteArray.toList (List.getD x1 (Int.toNat x5) ByteArray.empty))))
     then some (false, ())
     else laws_eqStringS_L0 x0 x1 (w64 (x5 + 1))
    else none
   else none
  else some (true, ()) : Option (Bool × Unit)) := (loopAt_mk X 29 0 [] _ _ _).trans (by kernel_rfl)
theorem laws_markStringS_eq (a0 : (List ByteArray)) (a1 : Int) : laws_markStringS a0 a1 =
  (laws_markStringS_L0 a1 0 a0 : Option (Int × ((List ByteArray) × Unit))) := (DF_eq X rfl _).trans (by kernel_rfl)
theorem laws_markStringS_L0_eq (x1 : Int) (x5 : Int) (r3000000 : (List ByteArray)) : laws_markStringS_L0 x1 x5 r3000000 =
  (bif (decide (x5 < (List.length r3000000 : Int)))
  then (laws_markText x1).bind fun r5 =>
   bif ((decide (0 ≤ x5)) && (decide (x5 < (List.length r3000000 : Int))))
   then laws_markStringS_L0 (w64 (x1 + 1)) (w64 (x5 + 1)) (List.set r3000000 (Int.toNat x5) r5.1)
   else none
  else some (x1, (r3000000, ())) : Option (Int × ((List ByteArray) × Unit))) := (loopAt_mk X 30 0 [] _ _ _).trans (by kernel_rfl)
theorem laws_markStringSS_eq (a0 : (List (List ByteArray))) (a1 : Int) : laws_markStringSS a0 a1 =
  (laws_markStringSS_L0 a1 0 a0 : Option (Int × ((List (List ByteArray)) × Unit))) := (DF_eq X rfl _).trans (by kernel_rfl)
theorem laws_markStringSS_L0_eq (x1 : Int) (x5 : Int) (r3000000 : (List (List ByteArray))) : laws_markStringSS_L0 x1 x5 r3000000 =
  (bif (decide (x5 < (List.length r3000000 : Int)))
  then bif ((decide (0 ≤ x5)) && (decide (x5 < (List.length r3000000 : Int))))
   then (laws_markStringS (List.getD r3000000 (Int.toNat x5) []) x1).bind fun r5 =>
    laws_markStringSS_L0 r5.1 (w64 (x5 + 1)) (List.set r3000000 (Int.toNat x5) r5.2.1)
   else none
  else some (x1, (r3000000, ())) : Option (Int × ((List (List ByteArray)) × Unit))) := (loopAt_mk X 31 0 [] _ _ _).trans (by kernel_rfl)
theorem laws_heldStringSS_eq (a0 : (List (List ByteArray))) (a1 : Int) : laws_heldStringSS a0 a1 =
  (laws_heldStringSS_L0 a0 a1 0 : Option (Int × Unit)) := (DF_eq X rfl _).trans (by kernel_rfl)
theorem laws_heldStringSS_L0_eq (x0 : (List (List ByteArray))) (x1 : Int) (x5 : Int) : laws_heldStringSS_L0 x0 x1 x5 =
  (bif (decide (x5 < (List.length x0 : Int)))
  then bif ((decide (0 ≤ x5)) && (decide (x5 < (List.length x0 : Int))))
   then (laws_heldStringS (List.getD x0 (Int.toNat x5) []) x1).bind fun r5 =>
    bif (decide (r5.1 < 0))
    then some ((-1), ())
    else laws_heldStringSS_L0 x0 r5.1 (w64 (x5 + 1))
   else none
  else some (x1, ()) : Option (Int × Unit)) := (loopAt_mk X 32 0 [] _ _ _).trans (by kernel_rfl)
theorem laws_heldStringS_eq (a0 : (List ByteArray)) (a1 : Int) : laws_heldStringS a0 a1 =
  (laws_heldStringS_L0 a0 a1 0 : Option (Int × Unit)) := (DF_eq X rfl _).trans (by kernel_rfl)
theorem laws_heldStringS_L0_eq (x0 : (List ByteArray)) (x1 : Int) (x5 : Int) : laws_heldStringS_L0 x0 x1 x5 =
  (bif (decide (x5 < (List.length x0 : Int)))
  then bif ((decide (0 ≤ x5)) && (decide (x5 < (List.length x0 : Int))))
   then (laws_markText x1).bind fun r5 =>
    bif (!((ByteArray.toList (List.getD x0 (Int.toNat x5) ByteArray.empty)) == (ByteArray.toList r5.1)))
    then some ((-1), ())
    else laws_heldStringS_L0 x0 (w64 (x1 + 1)) (w64 (x5 + 1))
   else none
  else some (x1, ()) : Option (Int × Unit)) := (loopAt_mk X 37 0 [] _ _ _).trans (by kernel_rfl)
theorem laws_szStringSS_eq (a0 : (List (List ByteArray))) (a1 : Int) : laws_szStringSS a0 a1 =
  (bif (decide ((w64 (a1 - (List.length a0 : Int))) < 0))
  then some ((-1), ())
  else laws_szStringSS_L0 a0 (w64 (a1 - (List.length a0 : Int))) 0 : Option (Int × Unit)) := (DF_eq X rfl _).trans (by kernel_rfl)
theorem laws_szStringSS_L0_eq (x0 : (List (List ByteArray))) (x1 : Int) (x5 : Int) : laws_szStringSS_L0 x0 x1 x5 =
  (bif (decide (x5 < (List.length x0 : Int)))
  then bif ((decide (0 ≤ x5)) && (decide (x5 < (List.length x0 : Int))))
   then (laws_szStringS (List.getD x0 (Int.toNat x5) []) x1).bind fun r5 =>
    bif (decide (r5.1 < 0))
    then some ((-1), ())
    else laws_szStringSS_L0 x0 r5.1 (w64 (x5 + 1))
   else none
  else some (x1, ()) : Option (Int × Unit)) := (loopAt_mk X 43 0 [] _ _ _).trans (by kernel_rfl)
theorem spec_l18QueueOk_eq (a0 : D_Conn) : spec_l18QueueOk a0 =
  (spec_l18QueueOk_L0 0 a0.1 a0.2.1 a0.2.2.1 a0.2.2.2.1 a0.2.2.2.2 : Option (Bool × Unit)) := (DF_eq X rfl _).trans (by kernel_rfl)
theorem spec_l18QueueOk_L0_eq (x3 : Int) (b0_0 : ByteArray) (b0_1 : Bool) (b0_2 : Bool) (b0_3 : (List (List ByteArray))) (b0_4 : Bool) : spec_l18QueueOk_L0 x3 b0_0 b0_1 b0_2 b0_3 b0_4 =
  (bif (decide (x3 < (List.length b0_3 : Int)))
  then bif ((decide (0 ≤ x3)) && (decide (x3 < (List.length b0_3 : Int))))
   then (spec_Unknown (List.getD b0_3 (Int.toNat x3) [])).bind fun r8 =>
    bif (!((ByteArray.toList r8.1) == (ByteArray.toList ByteArray.empty)))
    then some (false, ())
    else spec_l18QueueOk_L0 (w64 (x3 + 1)) b0_0 b0_1 b0_2 b0_3 b0_4
   else none
  else some ((decide ((List.length b0_3 : Int) ≤ 8)), ()) : Option (Bool × Unit)) := (loopAt_mk X 44 0 [] _ _ _).trans (by kernel_rfl)
theorem laws_toStringSS_eq (a0 : (List (List ByteArray))) : laws_toStringSS a0 =
  (bif ((decide (0 ≤ (List.length a0 : Int))) && ((decide ((List.length a0 : Int) ≤ (List.length a0 : Int))) && (lim (Int.toNat (List.length a0 : Int)) 24)))
  then laws_toStringSS_L0 a0 (List.replicate (Int.toNat (List.length a0 : Int)) []) 0
  else none : Option ((List (List ByteArray)) × Unit)) := (DF_eq X rfl _).trans (by kernel_rfl)
theorem laws_toStringSS_L0_eq (x0 : (List (List ByteArray))) (x3 : (List (List ByteArray))) (x4 : Int) : laws_toStringSS_L0 x0 x3 x4 =
  (bif (decide (x4 < (List.length x0 : Int)))
  then bif ((decide (0 ≤ x4)) && (decide (x4 < (List.length x0 : Int))))
   then (laws_toStringS (List.getD x0 (Int.toNat x4) [])).bind fun r5 =>
    bif ((decide (0 ≤ x4)) && (decide (x4 < (List.length x3 : Int))))
    then laws_toStringSS_L0 x0 (List.set x3 (Int.toNat x4) r5.1) (w64 (x4 + 1))
    else none
   else none
  else some (x3, ()) : Option ((List (List ByteArray)) × Unit)) := (loopAt_mk X 45 0 [] _ _ _).trans (by kernel_rfl)
theorem slices_ContainsFunc_____string___string__eq (a0 : (List (List ByteArray))) (a1 : Unit) : slices_ContainsFunc_____string___string_ a0 a1 =
  ((slices_IndexFunc_____string___string_ a0 ()).bind fun r4 =>
  some ((decide (r4.1 ≥ 0)), ((), ())) : Option (Bool × ((Unit) × Unit))) := (DF_eq X rfl _).trans (by kernel_rfl)
theorem impl_ConnOk_1_eq (a0 : (List ByteArray)) : impl_ConnOk_1 a0 =
  ((impl_Unknown a0).bind fun r3 =>
  some ((!((ByteArray.toList r3.1) == (ByteArray.toList ByteArray.empty))), ()) : Option (Bool × Unit)) := (DF_eq X rfl _).trans (by kernel_rfl)
theorem impl_Unknown_eq (a0 : (List ByteArray)) : impl_Unknown a0 =
  ((impl_oneOf a0 c_PING_ECHO_GE_244_482754).bind fun r3 =>
  bif (!r3.1)
  then (impl_Fault c_ERR_unknown).bind fun r4 =>
   some (r4.1, ())
  else (impl_ArityOk a0).bind fun r4 =>
   bif (!r4.1)
   then (impl_Fault c_ERR_arguments).bind fun r5 =>
    some (r5.1, ())
   else some (ByteArray.empty, ()) : Option (ByteArray × Unit)) := (DF_eq X rfl _).trans (by kernel_rfl)
theorem impl_copyConn_eq (a0 : D_Conn) : impl_copyConn a0 =
  ((impl_copyList a0.2.2.2.1).bind fun r3 =>
  some ((a0.1, (a0.2.1, (a0.2.2.1, (r3.1, a0.2.2.2.2)))), ()) : Option (D_Conn × Unit)) := (DF_eq X rfl _).trans (by kernel_rfl)
theorem impl_Upper_eq (a0 : ByteArray) : impl_Upper a0 =
  (impl_Upper_L0 (List.length (bytesL a0) : Int) 0 (bytesL a0) : Option (ByteArray × Unit)) := (DF_eq X rfl _).trans (by kernel_rfl)
theorem impl_Upper_L0_eq (x9 : Int) (x10 : Int) (r1040 : (List Int)) : impl_Upper_L0 x9 x10 r1040 =
  (bif (decide (x10 < x9))
  then bif ((decide (0 ≤ x10)) && (decide (x10 < (List.length r1040 : Int))))
   then bif (decide ((List.getD r1040 (Int.toNat x10) 0) ≥ 97))
    then bif (decide ((List.getD r1040 (Int.toNat x10) 0) ≤ 122))
     then bif ((decide (0 ≤ x10)) && (decide (x10 < (List.length r1040 : Int))))
      then impl_Upper_L0 x9 (w64 (x10 + 1)) (List.set r1040 (Int.toNat x10) (Go.IntKind.u8.wrap ((List.getD r1040 (Int.toNat x10) 0) - 32)))
      else none
     else impl_Upper_L0 x9 (w64 (x10 + 1)) r1040
    else impl_Upper_L0 x9 (w64 (x10 + 1)) r1040
   else none
  else some ((⟨(List.toArray (List.map (fun n => (UInt8.ofNat (Int.toNat n))) r1040))⟩ : ByteArray), ()) : Option (ByteArray × Unit)) := (loopAt_mk X 53 0 [] _ _ _).trans (by kernel_rfl)
theorem impl_Fault_eq (a0 : ByteArray) : impl_Fault a0 =
  (bif (limS ((ByteArray.size c___1_262) + (ByteArray.size a0)))
  then bif (limS ((ByteArray.size (c___1_262 ++ a0)) + (ByteArray.size c____2_7140)))
   then some (((c___1_262 ++ a0) ++ c____2_7140), ())
   else none
  else none : Option (ByteArray × Unit)) := (DF_eq X rfl _).trans (by kernel_rfl)
theorem impl_Simple_eq (a0 : ByteArray) : impl_Simple a0 =
  (bif (limS ((ByteArray.size c___1_260) + (ByteArray.size a0)))
  then bif (limS ((ByteArray.size (c___1_260 ++ a0)) + (ByteArray.size c____2_7140)))
   then some (((c___1_260 ++ a0) ++ c____2_7140), ())
   else none
  else none : Option (ByteArray × Unit)) := (DF_eq X rfl _).trans (by kernel_rfl)
theorem impl_copyList_eq (a0 : (List (List ByteArray))) : impl_copyList a0 =
  (impl_copyList_L0 [] a0 (List.length a0 : Int) 0 : Option ((List (List ByteArray)) × Unit)) := (DF_eq X rfl _).trans (by kernel_rfl)
theorem impl_copyList_L0_eq (x3 : (List (List ByteArray))) (x6 : (List (List ByteArray))) (x7 : Int) (x8 : Int) : impl_copyList_L0 x3 x6 x7 x8 =
  (bif (decide (x8 < x7))
  then bif ((decide (0 ≤ x8)) && (decide (x8 < (List.length x6 : Int))))
   then bif (lim (0 + (List.length (List.getD x6 (Int.toNat x8) []))) 16)
    then bif (lim ((List.length x3) + 1) 24)
     then impl_copyList_L0 (x3 ++ [([] ++ (List.getD x6 (Int.toNat x8) []))]) x6 x7 (w64 (x8 + 1))
     else none
    else none
   else none
  else some (x3, ()) : Option ((List (List ByteArray)) × Unit)) := (loopAt_mk X 56 0 [] _ _ _).trans (by kernel_rfl)
theorem impl_settleOne_eq (a0 : D_Conn) (a1 : (List ByteArray)) : impl_settleOne a0 a1 =
  (bif (!a0.2.1)
  then (impl_copyList [a1]).bind fun r4 =>
   some ((a0, (r4.1, (ByteArray.empty, 1))), ())
  else (impl_Unknown a1).bind fun r4 =>
   bif (!((ByteArray.toList r4.1) == (ByteArray.toList ByteArray.empty)))
   then some (((a0.1, (a0.2.1, (true, a0.2.2.2))), ([], (r4.1, 0))), ())
   else bif (decide ((List.length a0.2.2.2.1 : Int) ≥ 8))
    then (impl_Fault c_ERR_limit).bind fun r5 =>
     some (((a0.1, (a0.2.1, (true, a0.2.2.2))), ([], (r5.1, 0))), ())
    else bif (lim (0 + (List.length a1)) 16)
     then bif (lim ((List.length a0.2.2.2.1) + 1) 24)
      then (impl_Simple c_QUEUED).bind fun r5 =>
       some (((a0.1, (a0.2.1, (a0.2.2.1, ((a0.2.2.2.1 ++ [([] ++ a1)]), a0.2.2.2.2)))), ([], (r5.1, 0))), ())
      else none
     else none : Option ((D_Conn × (List (List ByteArray)) × ByteArray × Int) × Unit)) := (DF_eq X rfl _).trans (by kernel_rfl)
theorem spec_l13In_eq (a0 : (List ByteArray)) (a1 : ByteArray) : spec_l13In a0 a1 =
  (spec_l13In_L0 a0 a1 0 : Option (Bool × Unit)) := (DF_eq X rfl _).trans (by kernel_rfl)
theorem spec_l13In_L0_eq (x0 : (List ByteArray)) (x1 : ByteArray) (x5 : Int) : spec_l13In_L0 x0 x1 x5 =
  (bif (decide (x5 < (List.length x0 : Int)))
  then bif ((decide (0 ≤ x5)) && (decide (x5 < (List.length x0 : Int))))
   then bif ((ByteArray.toList (List.getD x0 (Int.toNat x5) ByteArray.empty)) == (ByteArray.toList x1))
    then some (true, ())
    else spec_l13In_L0 x0 x1 (w64 (x5 + 1))
   else none
  else some (false, ()) : Option (Bool × Unit)) := (loopAt_mk X 58 0 [] _ _ _).trans (by kernel_rfl)
theorem spec_Commands_eq : spec_Commands =
  (some ([c_PING, c_ECHO, c_GET, c_SET, c_SETNX, c_GETSET, c_APPEND, c_STRLEN, c_INCR, c_DECR, c_INCRBY, c_DECRBY, c_MGET, c_MSET, c_DEL, c_EXISTS, c_TYPE, c_EXPIRE, c_TTL, c_PERSIST, c_KEYS, c_DBSIZE, c_FLUSHALL, c_LPUSH, c_RPUSH, c_LPOP, c_RPOP, c_LLEN, c_LRANGE, c_LINDEX, c_HSET, c_HGET, c_HDEL, c_HLEN, c_HGETALL, c_HKEYS, c_SADD, c_SREM, c_SISMEMBER, c_SCARD, c_SMEMBERS], ()) : Option ((List ByteArray) × Unit)) := (DF_eq X rfl _).trans (by kernel_rfl)
theorem spec_Fault_eq (a0 : ByteArray) : spec_Fault a0 =
  (bif (limS ((ByteArray.size c___1_262) + (ByteArray.size a0)))
  then bif (limS ((ByteArray.size (c___1_262 ++ a0)) + (ByteArray.size c____2_7140)))
   then some (((c___1_262 ++ a0) ++ c____2_7140), ())
   else none
  else none : Option (ByteArray × Unit)) := (DF_eq X rfl _).trans (by kernel_rfl)
theorem spec_ArityOk_eq (a0 : (List ByteArray)) : spec_ArityOk a0 =
  (bif ((List.length a0 : Int) == 0)
  then some (false, ())
  else (spec_Commands).bind fun r3 =>
   bif ((decide ((0 : Int) ≤ 0)) && (decide (0 < (List.length a0 : Int))))
   then (spec_Upper (List.getD a0 (Int.toNat 0) ByteArray.empty)).bind fun r4 =>
    (spec_l13In r3.1 r4.1).bind fun r5 =>
    bif (!r5.1)
    then some (false, ())
    else bif ((decide ((0 : Int) ≤ 0)) && (decide (0 < (List.length a0 : Int))))
     then (spec_Upper (List.getD a0 (Int.toNat 0) ByteArray.empty)).bind fun r6 =>
      (spec_l13In ([c_PING, c_KEYS, c_DBSIZE, c_FLUSHALL]) r6.1).bind fun r7 =>
      bif r7.1
      then some (((w64 ((List.length a0 : Int) - 1)) == 0), ())
      else (spec_l13In ([c_SET, c_SETNX, c_GETSET, c_APPEND, c_INCRBY, c_DECRBY, c_EXPIRE, c_LINDEX, c_HGET, c_SISMEMBER]) r6.1).bind fun r8 =>
       bif r8.1
       then some (((w64 ((List.length a0 : Int) - 1)) == 2), ())
       else (spec_l13In ([c_LRANGE, c_HSET]) r6.1).bind fun r9 =>
        bif r9.1
        then some (((w64 ((List.length a0 : Int) - 1)) == 3), ())
        else (spec_l13In ([c_MGET, c_DEL, c_EXISTS]) r6.1).bind fun r10 =>
         bif r10.1
         then some ((decide ((w64 ((List.length a0 : Int) - 1)) ≥ 1)), ())
         else (spec_l13In ([c_LPUSH, c_RPUSH, c_HDEL, c_SADD, c_SREM]) r6.1).bind fun r11 =>
          bif r11.1
          then some ((decide ((w64 ((List.length a0 : Int) - 1)) ≥ 2)), ())
          else bif ((ByteArray.toList r6.1) == (ByteArray.toList c_MSET))
           then bif ((w64 ((List.length a0 : Int) - 1)) == 2)
            then some (true, ())
            else bif ((w64 ((List.length a0 : Int) - 1)) == 4)
             then some (true, ())
             else some (((w64 ((List.length a0 : Int) - 1)) == 6), ())
           else some (((w64 ((List.length a0 : Int) - 1)) == 1), ())
     else none
   else none : Option (Bool × Unit)) := (DF_eq X rfl _).trans (by kernel_rfl)
theorem spec_l18Copy_eq (a0 : D_Conn) : spec_l18Copy a0 =
  (spec_l18Copy_L0 [] 0 a0.1 a0.2.1 a0.2.2.1 a0.2.2.2.1 a0.2.2.2.2 ByteArray.empty false false [] false : Option (D_Conn × Unit)) := (DF_eq X rfl _).trans (by kernel_rfl)
theorem spec_l18Copy_L0_eq (x3 : (List (List ByteArray))) (x4 : Int) (b0_0 : ByteArray) (b0_1 : Bool) (b0_2 : Bool) (b0_3 : (List (List ByteArray))) (b0_4 : Bool) (b16_0 : ByteArray) (b16_1 : Bool) (b16_2 : Bool) (b16_3 : (List (List ByteArray))) (b16_4 : Bool) : spec_l18Copy_L0 x3 x4 b0_0 b0_1 b0_2 b0_3 b0_4 b16_0 b16_1 b16_2 b16_3 b16_4 =
  (bif (decide (x4 < (List.length b0_3 : Int)))
  then bif ((decide (0 ≤ x4)) && (decide (x4 < (List.length b0_3 : Int))))
   then bif (lim (0 + (List.length (List.getD b0_3 (Int.toNat x4) []))) 16)
    then bif (lim ((List.length x3) + 1) 24)
     then spec_l18Copy_L0 (x3 ++ [([] ++ (List.getD b0_3 (Int.toNat x4) []))]) (w64 (x4 + 1)) b0_0 b0_1 b0_2 b0_3 b0_4 b16_0 b16_1 b16_2 b16_3 b16_4
     else none
    else none
   else none
  else some ((b0_0, (b0_1, (b0_2, (x3, b0_4)))), ()) : Option (D_Conn × Unit)) := (loopAt_mk X 62 0 [] _ _ _).trans (by kernel_rfl)
theorem spec_Simple_eq (a0 : ByteArray) : spec_Simple a0 =
  (bif (limS ((ByteArray.size c___1_260) + (ByteArray.size a0)))
  then bif (limS ((ByteArray.size (c___1_260 ++ a0)) + (ByteArray.size c____2_7140)))
   then some (((c___1_260 ++ a0) ++ c____2_7140), ())
   else none
  else none : Option (ByteArray × Unit)) := (DF_eq X rfl _).trans (by kernel_rfl)
theorem spec_l18Plain_eq (a0 : D_Conn) : spec_l18Plain a0 =
  (some ((a0.1, (false, (false, ([], a0.2.2.2.2)))), ()) : Option (D_Conn × Unit)) := (DF_eq X rfl _).trans (by kernel_rfl)
theorem laws_markText_eq (a0 : Int) : laws_markText a0 =
  (bif (decide (a0 ≤ 0))
  then some (c_m0, ())
  else laws_markText_L0 a0 ByteArray.empty : Option (ByteArray × Unit)) := (DF_eq X rfl _).trans (by kernel_rfl)
theorem laws_markText_L0_eq (x0 : Int) (x3 : ByteArray) : laws_markText_L0 x0 x3 =
  (bif (decide (x0 > 0))
  then bif (limS ((ByteArray.size (⟨(List.toArray (List.map (fun n => (UInt8.ofNat (Int.toNat n))) ([(Go.IntKind.u8.wrap (w64 (48 + (Int.tmod x0 10))))])))⟩ : ByteArray)) + (ByteArray.size x3)))
   then laws_markText_L0 (w64 (Int.tdiv x0 10)) ((⟨(List.toArray (List.map (fun n => (UInt8.ofNat (Int.toNat n))) ([(Go.IntKind.u8.wrap (w64 (48 + (Int.tmod x0 10))))])))⟩ : ByteArray) ++ x3)
   else none
  else bif (limS ((ByteArray.size c_m) + (ByteArray.size x3)))
   then some ((c_m ++ x3), ())
   else none : Option (ByteArray × Unit)) := (loopAt_mk X 65 0 [] _ _ _).trans (by kernel_rfl)
theorem slices_IndexFunc_____string___string__eq (a0 : (List (List ByteArray))) (a1 : Unit) : slices_IndexFunc_____string___string_ a0 a1 =
  (slices_IndexFunc_____string___string__L0 a0 (List.length a0 : Int) 0 : Option (Int × ((Unit) × Unit))) := (DF_eq X rfl _).trans (by kernel_rfl)
theorem slices_IndexFunc_____string___string__L0_eq (x0 : (List (List ByteArray))) (x7 : Int) (x8 : Int) : slices_IndexFunc_____string___string__L0 x0 x7 x8 =
  (bif (decide (x8 < x7))
  then bif ((decide (0 ≤ x8)) && (decide (x8 < (List.length x0 : Int))))
   then (impl_ConnOk_1 (List.getD x0 (Int.toNat x8) [])).bind fun r5 =>
    bif r5.1
    then some (x8, ((), ()))
    else slices_IndexFunc_____string___string__L0 x0 x7 (w64 (x8 + 1))
   else none
  else some ((-1), ((), ())) : Option (Int × ((Unit) × Unit))) := (loopAt_mk X 84 0 [] _ _ _).trans (by kernel_rfl)
theorem impl_oneOf_eq (a0 : (List ByteArray)) (a1 : ByteArray) : impl_oneOf a0 a1 =
  (bif (decide ((List.length a0 : Int) > 0))
  then (strings_Fields a1).bind fun r4 =>
   bif ((decide ((0 : Int) ≤ 0)) && (decide (0 < (List.length a0 : Int))))
   then (impl_Upper (List.getD a0 (Int.toNat 0) ByteArray.empty)).bind fun r5 =>
    (slices_Contains___string_string_ r4.1 r5.1).bind fun r6 =>
    some (r6.1, ())
   else none
  else some (false, ()) : Option (Bool × Unit)) := (DF_eq X rfl _).trans (by kernel_rfl)
theorem impl_ArityOk_eq (a0 : (List ByteArray)) : impl_ArityOk a0 =
  ((impl_oneOf a0 c_PING_ECHO_GE_244_482754).bind fun r3 =>
  bif (!r3.1)
  then some (false, ())
  else (impl_oneOf a0 c_PING_KEYS_DB_25_770361).bind fun r4 =>
   bif r4.1
   then some (((w64 ((List.length a0 : Int) - 1)) == 0), ())
   else (impl_oneOf a0 c_ECHO_GET_STR_91_76732).bind fun r5 =>
    bif r5.1
    then some (((w64 ((List.length a0 : Int) - 1)) == 1), ())
    else (impl_oneOf a0 c_SET_SETNX_GE_66_689460).bind fun r6 =>
     bif r6.1
     then some (((w64 ((List.length a0 : Int) - 1)) == 2), ())
     else (impl_oneOf a0 c_LRANGE_HSET).bind fun r7 =>
      bif r7.1
      then some (((w64 ((List.length a0 : Int) - 1)) == 3), ())
      else (impl_oneOf a0 c_MGET_DEL_EXISTS).bind fun r8 =>
       bif r8.1
       then some ((decide ((w64 ((List.length a0 : Int) - 1)) ≥ 1)), ())
       else (impl_oneOf a0 c_LPUSH_RPUSH__26_457431).bind fun r9 =>
        bif r9.1
        then some ((decide ((w64 ((List.length a0 : Int) - 1)) ≥ 2)), ())
        else bif ((w64 ((List.length a0 : Int) - 1)) == 2)
         then some (true, ())
         else bif ((w64 ((List.length a0 : Int) - 1)) == 4)
          then some (true, ())
          else some (((w64 ((List.length a0 : Int) - 1)) == 6), ()) : Option (Bool × Unit)) := (DF_eq X rfl _).trans (by kernel_rfl)
theorem slices_Contains___string_string__eq (a0 : (List ByteArray)) (a1 : ByteArray) : slices_Contains___string_string_ a0 a1 =
  ((slices_Index___string_string_ a0 a1).bind fun r4 =>
  some ((decide (r4.1 ≥ 0)), ()) : Option (Bool × Unit)) := (DF_eq X rfl _).trans (by kernel_rfl)
theorem slices_Index___string_string__eq (a0 : (List ByteArray)) (a1 : ByteArray) : slices_Index___string_string_ a0 a1 =
  (slices_Index___string_string__L0 a0 a1 (List.length a0 : Int) 0 : Option (Int × Unit)) := (DF_eq X rfl _).trans (by kernel_rfl)
theorem slices_Index___string_string__L0_eq (x0 : (List ByteArray)) (x1 : ByteArray) (x7 : Int) (x8 : Int) : slices_Index___string_string__L0 x0 x1 x7 x8 =
  (bif (decide (x8 < x7))
  then bif ((decide (0 ≤ x8)) && (decide (x8 < (List.length x0 : Int))))
   then bif ((ByteArray.toList x1) == (ByteArray.toList (List.getD x0 (Int.toNat x8) ByteArray.empty)))
    then some (x8, ())
    else slices_Index___string_string__L0 x0 x1 x7 (w64 (x8 + 1))
   else none
  else some ((-1), ()) : Option (Int × Unit)) := (loopAt_mk X 129 0 [] _ _ _).trans (by kernel_rfl)
end Go.Den.S
