/- EqA: equations of the functions of this seat as the executor tells them, or plain facts about them. Conditions: none here. -/
import Derived.Test.YtkpdhadfnanagaaDoorTabD
import Derived.KernelRfl
import Derived.Test.YtkpdhadfnanagaaDoorDenFour
import Derived.Lib.FieldsLaws
import Derived.Lib.Bytealg
import Derived.Lib.ItoaNum
import Derived.Lib.Split
import Derived.Lib.IndexMore
import Derived.Lib.Strings
set_option linter.all false
namespace Go.Den.S
open Go Go.Den Go.Proofs
def H (v : Nat) : Nat → Hint := (bif Nat.ble v 69
  then (bif Nat.ble v 34
  then (bif Nat.ble v 27
  then (bif Nat.ble v 16
  then (bif Nat.ble v 4
  then (bif Nat.beq v 4 then (fun bid => bif Nat.beq bid 0 then ⟨[(3, .lst (.sl .str)), (4, .v), (8, .row (.ls .str)), (9, .v), (10, .v)], [], [(4224, [(0, .v), (1, .v), (2, .v), (3, .row (.sl .str)), (4, .v)])]⟩ else bif Nat.beq bid 2 then ⟨[(8, .row (.ls .str)), (22, .row (.sl .str)), (25, .v)], [], []⟩ else bif Nat.beq bid 1000001 then ⟨[(3, .lst (.sl .str)), (4, .v), (8, .row (.ls .str)), (9, .v), (10, .v)], [], [(4224, [(0, .v), (1, .v), (2, .v), (3, .row (.sl .str)), (4, .v)])]⟩ else bif Nat.beq bid 1500014 then ⟨[(3, .lst (.sl .str)), (4, .v), (8, .row (.ls .str)), (9, .v), (10, .v), (11, .v)], [], [(4224, [(0, .v), (1, .v), (2, .v), (3, .row (.sl .str)), (4, .v)])]⟩ else bif Nat.beq bid 1500019 then ⟨[(3, .lst (.sl .str)), (4, .v), (8, .row (.ls .str)), (9, .v), (10, .v), (12, .v), (16, .v)], [], [(4224, [(0, .v), (1, .v), (2, .v), (3, .row (.sl .str)), (4, .v)]), (16560, [(0, .v), (1, .v), (2, .v), (3, .row (.sl .str)), (4, .v)])]⟩ else bif Nat.beq bid 1500022 then ⟨[(3, .lst (.sl .str)), (4, .v), (8, .row (.ls .str)), (9, .v), (10, .v), (12, .v)], [], [(4224, [(0, .v), (1, .v), (2, .v), (3, .row (.sl .str)), (4, .v)]), (16560, [(0, .v), (1, .v), (2, .v), (3, .row (.sl .str)), (4, .v)])]⟩ else bif Nat.beq bid 2500014 then ⟨[(0, .v)], [], []⟩ else bif Nat.beq bid 2000001 then ⟨[(0, .v)], [], []⟩ else bif Nat.beq bid 2500019 then ⟨[(0, .v)], [], []⟩ else bif Nat.beq bid 2500022 then ⟨[(0, .v)], [], []⟩ else ⟨[], [], []⟩) else (fun _ => ⟨[], [], []⟩))
  else (bif Nat.ble v 7
  then (bif Nat.beq v 7 then (fun bid => bif Nat.beq bid 0 then ⟨[(0, .lst (.int .u8)), (3, .lst (.sl .str)), (4, .v), (5, .v)], [], [(4112, [(0, .v), (1, .v), (2, .v), (3, .row (.sl .str)), (4, .v)])]⟩ else bif Nat.beq bid 2 then ⟨[(3, .lst (.sl .str)), (4, .v), (13, .v)], [], [(4112, [(0, .v), (1, .v), (2, .v), (3, .row (.sl .str)), (4, .v)])]⟩ else ⟨[], [], []⟩) else (fun _ => ⟨[], [], []⟩))
  else (bif Nat.beq v 16 then (fun bid => bif Nat.beq bid 0 then ⟨[(3, .v), (4, .row (.sl .str)), (5, .v)], [], [(1040, [(0, .lst (.int .u8)), (1, .v), (2, .v)])]⟩ else ⟨[], [], []⟩) else (fun _ => ⟨[], [], []⟩))))
  else (bif Nat.ble v 20
  then (bif Nat.ble v 18
  then (bif Nat.beq v 18 then (fun bid => bif Nat.beq bid 0 then ⟨[(3, .row (.int .u8)), (4, .v)], [], []⟩ else ⟨[], [], []⟩) else (fun _ => ⟨[], [], []⟩))
  else (bif Nat.beq v 20 then (fun bid => bif Nat.beq bid 0 then ⟨[(0, .lst .str), (1, .lst .str), (5, .v)], [], []⟩ else ⟨[], [], []⟩) else (fun _ => ⟨[], [], []⟩)))
  else (bif Nat.ble v 25
  then (bif Nat.beq v 25 then (fun bid => bif Nat.beq bid 0 then ⟨[(0, .lst .str), (1, .v), (5, .v)], [], []⟩ else ⟨[], [], []⟩) else (fun _ => ⟨[], [], []⟩))
  else (bif Nat.beq v 27 then (fun bid => bif Nat.beq bid 0 then ⟨[(0, .lst .str), (3, .row .str), (4, .v)], [], []⟩ else ⟨[], [], []⟩) else (fun _ => ⟨[], [], []⟩)))))
  else (bif Nat.ble v 30
  then (bif Nat.ble v 28
  then (bif Nat.beq v 28 then (fun bid => bif Nat.beq bid 0 then ⟨[(0, .lst (.sl .str)), (1, .lst (.sl .str)), (5, .v)], [], []⟩ else ⟨[], [], []⟩) else (fun _ => ⟨[], [], []⟩))
  else (bif Nat.ble v 29
  then (bif Nat.beq v 29 then (fun bid => bif Nat.beq bid 0 then ⟨[(0, .lst .str), (1, .lst .str), (5, .v)], [], []⟩ else ⟨[], [], []⟩) else (fun _ => ⟨[], [], []⟩))
  else (bif Nat.beq v 30 then (fun bid => bif Nat.beq bid 0 then ⟨[(0, .v), (1, .v), (5, .v)], [], [(3000000, [])]⟩ else ⟨[], [], []⟩) else (fun _ => ⟨[], [], []⟩))))
  else (bif Nat.ble v 32
  then (bif Nat.ble v 31
  then (bif Nat.beq v 31 then (fun bid => bif Nat.beq bid 0 then ⟨[(0, .v), (1, .v), (5, .v)], [], [(3000000, [])]⟩ else ⟨[], [], []⟩) else (fun _ => ⟨[], [], []⟩))
  else (bif Nat.beq v 32 then (fun bid => bif Nat.beq bid 0 then ⟨[(0, .lst (.sl .str)), (1, .v), (5, .v)], [], []⟩ else ⟨[], [], []⟩) else (fun _ => ⟨[], [], []⟩)))
  else (bif Nat.ble v 33
  then (bif Nat.beq v 33 then (fun bid => bif Nat.beq bid 0 then ⟨[(0, .lst .str), (4, .v), (5, .v)], [], []⟩ else ⟨[], [], []⟩) else (fun _ => ⟨[], [], []⟩))
  else (bif Nat.beq v 34 then (fun bid => bif Nat.beq bid 0 then ⟨[(3, .v), (4, .row I), (5, .v)], [], [(1040, [(0, .lst (.int .u8)), (1, .v), (2, .v)])]⟩ else ⟨[], [], []⟩) else (fun _ => ⟨[], [], []⟩))))))
  else (bif Nat.ble v 53
  then (bif Nat.ble v 44
  then (bif Nat.ble v 37
  then (bif Nat.beq v 37 then (fun bid => bif Nat.beq bid 0 then ⟨[(0, .lst .str), (1, .v), (5, .v)], [], []⟩ else ⟨[], [], []⟩) else (fun _ => ⟨[], [], []⟩))
  else (bif Nat.ble v 43
  then (bif Nat.beq v 43 then (fun bid => bif Nat.beq bid 0 then ⟨[(0, .lst (.sl .str)), (1, .v), (5, .v)], [], []⟩ else ⟨[], [], []⟩) else (fun _ => ⟨[], [], []⟩))
  else (bif Nat.beq v 44 then (fun bid => bif Nat.beq bid 0 then ⟨[(1, .v), (3, .v)], [], [(0, [(0, .v), (1, .v), (2, .v), (3, .lst (.sl .str)), (4, .v)])]⟩ else ⟨[], [], []⟩) else (fun _ => ⟨[], [], []⟩))))
  else (bif Nat.ble v 49
  then (bif Nat.ble v 45
  then (bif Nat.beq v 45 then (fun bid => bif Nat.beq bid 0 then ⟨[(0, .lst (.sl .str)), (3, .row (.sl .str)), (4, .v)], [], []⟩ else ⟨[], [], []⟩) else (fun _ => ⟨[], [], []⟩))
  else (bif Nat.beq v 49 then (fun bid => bif Nat.beq bid 0 then ⟨[(0, .lst (.int .u8)), (3, .v), (4, .v)], [], []⟩ else ⟨[], [], []⟩) else (fun _ => ⟨[], [], []⟩)))
  else (bif Nat.ble v 51
  then (bif Nat.beq v 51 then (fun bid => bif Nat.beq bid 1 then ⟨[(0, .v), (5, .row .str), (6, .v)], [], [(3000000, [(0, .lst (.int .u8)), (1, .v), (2, .v)])]⟩ else bif Nat.beq bid 3 then ⟨[(0, .v), (5, .row .str), (7, .v)], [], [(3000000, [(0, .lst (.int .u8)), (1, .v), (2, .v)])]⟩ else ⟨[], [], []⟩) else (fun _ => ⟨[], [], []⟩))
  else (bif Nat.beq v 53 then (fun bid => bif Nat.beq bid 0 then ⟨[(3, .v), (8, .v), (9, .v), (10, .v)], [], [(1040, [])]⟩ else ⟨[], [], []⟩) else (fun _ => ⟨[], [], []⟩)))))
  else (bif Nat.ble v 62
  then (bif Nat.ble v 56
  then (bif Nat.beq v 56 then (fun bid => bif Nat.beq bid 0 then ⟨[(3, .row (.sl .str)), (6, .lst (.sl .str)), (7, .v), (8, .v)], [], []⟩ else ⟨[], [], []⟩) else (fun _ => ⟨[], [], []⟩))
  else (bif Nat.ble v 58
  then (bif Nat.beq v 58 then (fun bid => bif Nat.beq bid 0 then ⟨[(0, .lst .str), (1, .v), (5, .v)], [], []⟩ else ⟨[], [], []⟩) else (fun _ => ⟨[], [], []⟩))
  else (bif Nat.beq v 62 then (fun bid => bif Nat.beq bid 0 then ⟨[(1, .v), (2, .v), (3, .row (.sl .str)), (4, .v)], [], [(0, [(0, .v), (1, .v), (2, .v), (3, .lst (.sl .str)), (4, .v)]), (16, [(0, .v), (1, .v), (2, .v), (3, .row (.sl .str)), (4, .v)])]⟩ else ⟨[], [], []⟩) else (fun _ => ⟨[], [], []⟩))))
  else (bif Nat.ble v 66
  then (bif Nat.ble v 65
  then (bif Nat.beq v 65 then (fun bid => bif Nat.beq bid 0 then ⟨[(0, .v), (3, .v)], [], []⟩ else ⟨[], [], []⟩) else (fun _ => ⟨[], [], []⟩))
  else (bif Nat.beq v 66 then (fun bid => bif Nat.beq bid 0 then ⟨[(0, .v), (3, .v), (4, .v)], [], []⟩ else ⟨[], [], []⟩) else (fun _ => ⟨[], [], []⟩)))
  else (bif Nat.ble v 68
  then (bif Nat.beq v 68 then (fun bid => bif Nat.beq bid 0 then ⟨[(0, .v), (5, .v), (6, .v), (8, .row .str), (9, .v)], [], []⟩ else ⟨[], [], []⟩) else (fun _ => ⟨[], [], []⟩))
  else (bif Nat.beq v 69 then (fun bid => bif Nat.beq bid 0 then ⟨[(0, .v), (5, .row .str), (6, .v), (7, .v), (8, .row .str), (9, .v)], [], []⟩ else ⟨[], [], []⟩) else (fun _ => ⟨[], [], []⟩)))))))
  else (bif Nat.ble v 96
  then (bif Nat.ble v 81
  then (bif Nat.ble v 75
  then (bif Nat.ble v 73
  then (bif Nat.beq v 73 then (fun bid => bif Nat.beq bid 0 then ⟨[(0, .lst T_Entry), (1, .lst T_Entry), (5, .v)], [], []⟩ else ⟨[], [], []⟩) else (fun _ => ⟨[], [], []⟩))
  else (bif Nat.ble v 74
  then (bif Nat.beq v 74 then (fun bid => bif Nat.beq bid 0 then ⟨[(0, .lst T_Conn), (1, .lst T_Conn), (5, .v)], [], []⟩ else ⟨[], [], []⟩) else (fun _ => ⟨[], [], []⟩))
  else (bif Nat.beq v 75 then (fun bid => bif Nat.beq bid 0 then ⟨[(0, .lst T_Unit), (1, .lst T_Unit), (5, .v)], [], []⟩ else ⟨[], [], []⟩) else (fun _ => ⟨[], [], []⟩))))
  else (bif Nat.ble v 78
  then (bif Nat.ble v 77
  then (bif Nat.beq v 77 then (fun bid => bif Nat.beq bid 0 then ⟨[(0, .v), (1, .v), (5, .v)], [], [(3000000, [])]⟩ else bif Nat.beq bid 1700000 then ⟨[(0, .v), (1, .v)], [], [(3000000, [])]⟩ else bif Nat.beq bid 1700001 then ⟨[(0, .v), (1, .v), (5, .v)], [], [(3000000, [])]⟩ else bif Nat.beq bid 1700002 then ⟨[(0, .v), (1, .v), (5, .v), (9, .v)], [], [(3000000, [])]⟩ else bif Nat.beq bid 1700004 then ⟨[(0, .v), (1, .v), (5, .v)], [], [(3000000, [])]⟩ else bif Nat.beq bid 1700005 then ⟨[(0, .v), (1, .v), (5, .v)], [], [(3000000, [])]⟩ else bif Nat.beq bid 1700006 then ⟨[(0, .v), (1, .v), (5, .v)], [], [(3000000, [])]⟩ else bif Nat.beq bid 1700007 then ⟨[(0, .v), (1, .v), (5, .v)], [], [(3000000, [])]⟩ else bif Nat.beq bid 1700008 then ⟨[(0, .v), (1, .v), (5, .v)], [], [(3000000, [])]⟩ else bif Nat.beq bid 1700009 then ⟨[(0, .v), (1, .v), (5, .v)], [], [(3000000, [])]⟩ else bif Nat.beq bid 1700010 then ⟨[(0, .v), (1, .v), (5, .v)], [], [(3000000, [])]⟩ else bif Nat.beq bid 1700011 then ⟨[(0, .v), (1, .v), (5, .v)], [], [(3000000, [])]⟩ else bif Nat.beq bid 1700013 then ⟨[(4, .v)], [], [(3000000, [])]⟩ else bif Nat.beq bid 2700000 then ⟨[(0, .v)], [], []⟩ else bif Nat.beq bid 2700001 then ⟨[(0, .v)], [], []⟩ else bif Nat.beq bid 2700002 then ⟨[(0, .v)], [], []⟩ else bif Nat.beq bid 2700004 then ⟨[(0, .v)], [], []⟩ else bif Nat.beq bid 2700005 then ⟨[(0, .v)], [], []⟩ else bif Nat.beq bid 2700006 then ⟨[(0, .v)], [], []⟩ else bif Nat.beq bid 2700007 then ⟨[(0, .v)], [], []⟩ else bif Nat.beq bid 2700008 then ⟨[(0, .v)], [], []⟩ else bif Nat.beq bid 2700009 then ⟨[(0, .v)], [], []⟩ else bif Nat.beq bid 2700010 then ⟨[(0, .v)], [], []⟩ else bif Nat.beq bid 2700011 then ⟨[(0, .v)], [], []⟩ else bif Nat.beq bid 2700013 then ⟨[(0, .v)], [], []⟩ else ⟨[], [], []⟩) else (fun _ => ⟨[], [], []⟩))
  else (bif Nat.beq v 78 then (fun bid => bif Nat.beq bid 0 then ⟨[(0, .v), (1, .v), (5, .v)], [], [(3000000, [])]⟩ else bif Nat.beq bid 1700000 then ⟨[(0, .v), (1, .v)], [], [(3000000, [])]⟩ else bif Nat.beq bid 1700001 then ⟨[(0, .v), (1, .v), (5, .v)], [], [(3000000, [])]⟩ else bif Nat.beq bid 1700002 then ⟨[(0, .v), (1, .v), (5, .v), (9, .v)], [], [(3000000, [])]⟩ else bif Nat.beq bid 1700004 then ⟨[(0, .v), (1, .v), (5, .v)], [], [(3000000, [])]⟩ else bif Nat.beq bid 1700005 then ⟨[(0, .v), (1, .v), (5, .v)], [], [(3000000, [])]⟩ else bif Nat.beq bid 1700006 then ⟨[(0, .v), (1, .v), (5, .v)], [], [(3000000, [])]⟩ else bif Nat.beq bid 1700007 then ⟨[(0, .v), (1, .v), (5, .v)], [], [(3000000, [])]⟩ else bif Nat.beq bid 1700008 then ⟨[(0, .v), (1, .v), (5, .v)], [], [(3000000, [])]⟩ else bif Nat.beq bid 1700009 then ⟨[(0, .v), (1, .v), (5, .v)], [], [(3000000, [])]⟩ else bif Nat.beq bid 1700010 then ⟨[(0, .v), (1, .v), (5, .v)], [], [(3000000, [])]⟩ else bif Nat.beq bid 1700011 then ⟨[(0, .v), (1, .v), (5, .v)], [], [(3000000, [])]⟩ else bif Nat.beq bid 1700013 then ⟨[(4, .v)], [], [(3000000, [])]⟩ else bif Nat.beq bid 2700000 then ⟨[(0, .v)], [], []⟩ else bif Nat.beq bid 2700001 then ⟨[(0, .v)], [], []⟩ else bif Nat.beq bid 2700002 then ⟨[(0, .v)], [], []⟩ else bif Nat.beq bid 2700004 then ⟨[(0, .v)], [], []⟩ else bif Nat.beq bid 2700005 then ⟨[(0, .v)], [], []⟩ else bif Nat.beq bid 2700006 then ⟨[(0, .v)], [], []⟩ else bif Nat.beq bid 2700007 then ⟨[(0, .v)], [], []⟩ else bif Nat.beq bid 2700008 then ⟨[(0, .v)], [], []⟩ else bif Nat.beq bid 2700009 then ⟨[(0, .v)], [], []⟩ else bif Nat.beq bid 2700010 then ⟨[(0, .v)], [], []⟩ else bif Nat.beq bid 2700011 then ⟨[(0, .v)], [], []⟩ else bif Nat.beq bid 2700013 then ⟨[(0, .v)], [], []⟩ else ⟨[], [], []⟩) else (fun _ => ⟨[], [], []⟩)))
  else (bif Nat.ble v 79
  then (bif Nat.beq v 79 then (fun bid => bif Nat.beq bid 0 then ⟨[(0, .v), (1, .v), (5, .v)], [], [(3000000, [])]⟩ else bif Nat.beq bid 1700000 then ⟨[(0, .v), (1, .v)], [], [(3000000, [])]⟩ else bif Nat.beq bid 1700001 then ⟨[(0, .v), (1, .v), (5, .v)], [], [(3000000, [])]⟩ else bif Nat.beq bid 1700002 then ⟨[(0, .v), (1, .v), (5, .v), (9, .v)], [], [(3000000, [])]⟩ else bif Nat.beq bid 1700004 then ⟨[(0, .v), (1, .v), (5, .v)], [], [(3000000, [])]⟩ else bif Nat.beq bid 1700005 then ⟨[(0, .v), (1, .v), (5, .v)], [], [(3000000, [])]⟩ else bif Nat.beq bid 1700006 then ⟨[(0, .v), (1, .v), (5, .v)], [], [(3000000, [])]⟩ else bif Nat.beq bid 1700007 then ⟨[(0, .v), (1, .v), (5, .v)], [], [(3000000, [])]⟩ else bif Nat.beq bid 1700008 then ⟨[(0, .v), (1, .v), (5, .v)], [], [(3000000, [])]⟩ else bif Nat.beq bid 1700009 then ⟨[(0, .v), (1, .v), (5, .v)], [], [(3000000, [])]⟩ else bif Nat.beq bid 1700010 then ⟨[(0, .v), (1, .v), (5, .v)], [], [(3000000, [])]⟩ else bif Nat.beq bid 1700011 then ⟨[(0, .v), (1, .v), (5, .v)], [], [(3000000, [])]⟩ else bif Nat.beq bid 1700012 then ⟨[(0, .v), (1, .v), (5, .v)], [], [(3000000, [])]⟩ else bif Nat.beq bid 1700013 then ⟨[(0, .v), (1, .v), (5, .v)], [], [(3000000, [])]⟩ else bif Nat.beq bid 1700015 then ⟨[(4, .v)], [], [(3000000, [])]⟩ else bif Nat.beq bid 2700000 then ⟨[(0, .v)], [], []⟩ else bif Nat.beq bid 2700001 then ⟨[(0, .v)], [], []⟩ else bif Nat.beq bid 2700002 then ⟨[(0, .v)], [], []⟩ else bif Nat.beq bid 2700004 then ⟨[(0, .v)], [], []⟩ else bif Nat.beq bid 2700005 then ⟨[(0, .v)], [], []⟩ else bif Nat.beq bid 2700006 then ⟨[(0, .v)], [], []⟩ else bif Nat.beq bid 2700007 then ⟨[(0, .v)], [], []⟩ else bif Nat.beq bid 2700008 then ⟨[(0, .v)], [], []⟩ else bif Nat.beq bid 2700009 then ⟨[(0, .v)], [], []⟩ else bif Nat.beq bid 2700010 then ⟨[(0, .v)], [], []⟩ else bif Nat.beq bid 2700011 then ⟨[(0, .v)], [], []⟩ else bif Nat.beq bid 2700012 then ⟨[(0, .v)], [], []⟩ else bif Nat.beq bid 2700013 then ⟨[(0, .v)], [], []⟩ else bif Nat.beq bid 2700015 then ⟨[(0, .v)], [], []⟩ else ⟨[], [], []⟩) else (fun _ => ⟨[], [], []⟩))
  else (bif Nat.beq v 81 then (fun bid => bif Nat.beq bid 0 then ⟨[(0, .lst T_Entry), (1, .v), (5, .v)], [], []⟩ else ⟨[], [], []⟩) else (fun _ => ⟨[], [], []⟩)))))
  else (bif Nat.ble v 84
  then (bif Nat.ble v 82
  then (bif Nat.beq v 82 then (fun bid => bif Nat.beq bid 0 then ⟨[(0, .lst T_Conn), (1, .v), (5, .v)], [], []⟩ else ⟨[], [], []⟩) else (fun _ => ⟨[], [], []⟩))
  else (bif Nat.ble v 83
  then (bif Nat.beq v 83 then (fun bid => bif Nat.beq bid 0 then ⟨[(0, .lst T_Unit), (1, .v), (5, .v)], [], []⟩ else ⟨[], [], []⟩) else (fun _ => ⟨[], [], []⟩))
  else (bif Nat.beq v 84 then (fun bid => bif Nat.beq bid 0 then ⟨[(0, .lst (.sl .str)), (1, .v), (7, .v), (8, .v)], [], []⟩ else ⟨[], [], []⟩) else (fun _ => ⟨[], [], []⟩))))
  else (bif Nat.ble v 93
  then (bif Nat.ble v 91
  then (bif Nat.beq v 91 then (fun bid => bif Nat.beq bid 1 then ⟨[(0, .v), (7, .row .str), (8, .v)], [], [(3000000, [(0, .lst (.int .u8)), (1, .v), (2, .v)])]⟩ else ⟨[], [], []⟩) else (fun _ => ⟨[], [], []⟩))
  else (bif Nat.beq v 93 then (fun bid => bif Nat.beq bid 0 then ⟨[(5, .v), (8, .row .str), (24, .row .str), (25, .v), (26, .v)], [], []⟩ else ⟨[], [], []⟩) else (fun _ => ⟨[], [], []⟩)))
  else (bif Nat.ble v 94
  then (bif Nat.beq v 94 then (fun bid => bif Nat.beq bid 0 then ⟨[(0, .v), (1, .v), (2, .v), (9, .v), (10, .v)], [], []⟩ else ⟨[], [], []⟩) else (fun _ => ⟨[], [], []⟩))
  else (bif Nat.beq v 96 then (fun bid => bif Nat.beq bid 0 then ⟨[(0, .v), (5, .row .str), (6, .v)], [], []⟩ else bif Nat.beq bid 2 then ⟨[(5, .row .str), (6, .v), (7, .v), (8, .row .str), (9, .v)], [], []⟩ else bif Nat.beq bid 4 then ⟨[(5, .row .str), (6, .v), (7, .v), (8, .row .str), (9, .v), (10, .v)], [], []⟩ else ⟨[], [], []⟩) else (fun _ => ⟨[], [], []⟩))))))
  else (bif Nat.ble v 121
  then (bif Nat.ble v 110
  then (bif Nat.ble v 97
  then (bif Nat.beq v 97 then (fun bid => bif Nat.beq bid 0 then ⟨[(0, .v), (1, .v), (2, .v), (8, .v)], [], []⟩ else ⟨[], [], []⟩) else (fun _ => ⟨[], [], []⟩))
  else (bif Nat.ble v 106
  then (bif Nat.beq v 106 then (fun bid => bif Nat.beq bid 0 then ⟨[(0, .lst T_Spot), (1, .lst T_Spot), (5, .v)], [], []⟩ else ⟨[], [], []⟩) else (fun _ => ⟨[], [], []⟩))
  else (bif Nat.beq v 110 then (fun bid => bif Nat.beq bid 0 then ⟨[(0, .v), (1, .v), (5, .v)], [], [(3000000, [])]⟩ else bif Nat.beq bid 1700000 then ⟨[(0, .v), (1, .v)], [], [(3000000, [])]⟩ else bif Nat.beq bid 1700001 then ⟨[(0, .v), (1, .v), (5, .v)], [], [(3000000, [])]⟩ else bif Nat.beq bid 1700002 then ⟨[(0, .v), (1, .v), (5, .v), (9, .v)], [], [(3000000, [])]⟩ else bif Nat.beq bid 1700004 then ⟨[(0, .v), (1, .v), (5, .v)], [], [(3000000, [])]⟩ else bif Nat.beq bid 1700005 then ⟨[(0, .v), (1, .v), (5, .v)], [], [(3000000, [])]⟩ else bif Nat.beq bid 1700006 then ⟨[(0, .v), (1, .v), (5, .v)], [], [(3000000, [])]⟩ else bif Nat.beq bid 1700007 then ⟨[(0, .v), (1, .v), (5, .v)], [], [(3000000, [])]⟩ else bif Nat.beq bid 1700008 then ⟨[(0, .v), (1, .v), (5, .v)], [], [(3000000, [])]⟩ else bif Nat.beq bid 1700009 then ⟨[(0, .v), (1, .v), (5, .v)], [], [(3000000, [])]⟩ else bif Nat.beq bid 1700010 then ⟨[(0, .v), (1, .v), (5, .v)], [], [(3000000, [])]⟩ else bif Nat.beq bid 1700012 then ⟨[(4, .v)], [], [(3000000, [])]⟩ else bif Nat.beq bid 2700000 then ⟨[(0, .v)], [], []⟩ else bif Nat.beq bid 2700001 then ⟨[(0, .v)], [], []⟩ else bif Nat.beq bid 2700002 then ⟨[(0, .v)], [], []⟩ else bif Nat.beq bid 2700004 then ⟨[(0, .v)], [], []⟩ else bif Nat.beq bid 2700005 then ⟨[(0, .v)], [], []⟩ else bif Nat.beq bid 2700006 then ⟨[(0, .v)], [], []⟩ else bif Nat.beq bid 2700007 then ⟨[(0, .v)], [], []⟩ else bif Nat.beq bid 2700008 then ⟨[(0, .v)], [], []⟩ else bif Nat.beq bid 2700009 then ⟨[(0, .v)], [], []⟩ else bif Nat.beq bid 2700010 then ⟨[(0, .v)], [], []⟩ else bif Nat.beq bid 2700012 then ⟨[(0, .v)], [], []⟩ else ⟨[], [], []⟩) else (fun _ => ⟨[], [], []⟩))))
  else (bif Nat.ble v 118
  then (bif Nat.ble v 112
  then (bif Nat.beq v 112 then (fun bid => bif Nat.beq bid 0 then ⟨[(0, .lst T_Spot), (1, .v), (5, .v)], [], []⟩ else ⟨[], [], []⟩) else (fun _ => ⟨[], [], []⟩))
  else (bif Nat.beq v 118 then (fun bid => bif Nat.beq bid 0 then ⟨[(0, .v), (4, .v), (5, .v)], [], []⟩ else ⟨[], [], []⟩) else (fun _ => ⟨[], [], []⟩)))
  else (bif Nat.ble v 120
  then (bif Nat.beq v 120 then (fun bid => bif Nat.beq bid 0 then ⟨[(0, .v), (3, .row (.int .u8))], [], []⟩ else ⟨[], [], []⟩) else (fun _ => ⟨[], [], []⟩))
  else (bif Nat.beq v 121 then (fun bid => bif Nat.beq bid 0 then ⟨[(4, .row (.int .u8)), (9, .lst I), (10, .v), (11, .v)], [], []⟩ else ⟨[], [], []⟩) else (fun _ => ⟨[], [], []⟩)))))
  else (bif Nat.ble v 128
  then (bif Nat.ble v 124
  then (bif Nat.beq v 124 then (fun bid => bif Nat.beq bid 0 then ⟨[(0, .lst T_File), (1, .lst T_File), (5, .v)], [], []⟩ else ⟨[], [], []⟩) else (fun _ => ⟨[], [], []⟩))
  else (bif Nat.ble v 127
  then (bif Nat.beq v 127 then (fun bid => bif Nat.beq bid 0 then ⟨[(0, .v), (1, .v), (5, .v)], [], [(3000000, [])]⟩ else bif Nat.beq bid 1700000 then ⟨[(0, .v), (1, .v)], [], [(3000000, [])]⟩ else bif Nat.beq bid 1700001 then ⟨[(0, .v), (1, .v), (5, .v)], [], [(3000000, [])]⟩ else bif Nat.beq bid 1700002 then ⟨[(0, .v), (1, .v), (5, .v), (9, .v)], [], [(3000000, [])]⟩ else bif Nat.beq bid 1700004 then ⟨[(0, .v), (1, .v), (5, .v)], [], [(3000000, [])]⟩ else bif Nat.beq bid 1700005 then ⟨[(0, .v), (1, .v), (5, .v)], [], [(3000000, [])]⟩ else bif Nat.beq bid 1700006 then ⟨[(0, .v), (1, .v), (5, .v)], [], [(3000000, [])]⟩ else bif Nat.beq bid 1700007 then ⟨[(0, .v), (1, .v), (5, .v)], [], [(3000000, [])]⟩ else bif Nat.beq bid 1700008 then ⟨[(0, .v), (1, .v), (5, .v)], [], [(3000000, [])]⟩ else bif Nat.beq bid 1700010 then ⟨[(4, .v)], [], [(3000000, [])]⟩ else bif Nat.beq bid 2700000 then ⟨[(0, .v)], [], []⟩ else bif Nat.beq bid 2700001 then ⟨[(0, .v)], [], []⟩ else bif Nat.beq bid 2700002 then ⟨[(0, .v)], [], []⟩ else bif Nat.beq bid 2700004 then ⟨[(0, .v)], [], []⟩ else bif Nat.beq bid 2700005 then ⟨[(0, .v)], [], []⟩ else bif Nat.beq bid 2700006 then ⟨[(0, .v)], [], []⟩ else bif Nat.beq bid 2700007 then ⟨[(0, .v)], [], []⟩ else bif Nat.beq bid 2700008 then ⟨[(0, .v)], [], []⟩ else bif Nat.beq bid 2700010 then ⟨[(0, .v)], [], []⟩ else ⟨[], [], []⟩) else (fun _ => ⟨[], [], []⟩))
  else (bif Nat.beq v 128 then (fun bid => bif Nat.beq bid 0 then ⟨[(0, .lst T_File), (1, .v), (5, .v)], [], []⟩ else ⟨[], [], []⟩) else (fun _ => ⟨[], [], []⟩))))
  else (bif Nat.ble v 137
  then (bif Nat.ble v 129
  then (bif Nat.beq v 129 then (fun bid => bif Nat.beq bid 0 then ⟨[(0, .lst .str), (1, .v), (7, .v), (8, .v)], [], []⟩ else ⟨[], [], []⟩) else (fun _ => ⟨[], [], []⟩))
  else (bif Nat.beq v 137 then (fun bid => bif Nat.beq bid 0 then ⟨[(0, .v), (4, .row (.int .u8))], [], []⟩ else ⟨[], [], []⟩) else (fun _ => ⟨[], [], []⟩)))
  else (bif Nat.ble v 147
  then (bif Nat.beq v 147 then (fun bid => bif Nat.beq bid 0 then ⟨[(0, .v), (1, .v), (5, .v)], [], []⟩ else bif Nat.beq bid 2 then ⟨[(0, .v), (1, .v), (5, .v), (6, .v)], [], []⟩ else ⟨[], [], []⟩) else (fun _ => ⟨[], [], []⟩))
  else (bif Nat.beq v 148 then (fun bid => bif Nat.beq bid 0 then ⟨[(0, .v), (1, .v), (5, .v)], [], []⟩ else bif Nat.beq bid 2 then ⟨[(0, .v), (1, .v), (5, .v), (6, .v)], [], []⟩ else ⟨[], [], []⟩) else (fun _ => ⟨[], [], []⟩))))))))
noncomputable def strings_FieldsF (x : ByteArray × Unit) : Option (List ByteArray × Unit) := bif x.1.data.toList.all (fun b => decide (b.toNat < 128)) && decide (x.1.size < 4294967281) then some ((Lib.fields x.1.data.toList).map (fun l => ⟨l.toArray⟩), ()) else none
noncomputable def strconv_ItoaF (x : Int × Unit) : Option (ByteArray × Unit) := none
noncomputable def strings_CutF (x : ByteArray × ByteArray × Unit) : Option ((ByteArray × ByteArray × Bool) × Unit) := bif decide (x.1.size < 4294967281) then some ((⟨(Lib.cut x.1.data.toList x.2.1.data.toList).1.toArray⟩, (⟨(Lib.cut x.1.data.toList x.2.1.data.toList).2.1.toArray⟩, (Lib.cut x.1.data.toList x.2.1.data.toList).2.2)), ()) else none
noncomputable def strings_SplitF (x : ByteArray × ByteArray × Unit) : Option (List ByteArray × Unit) := bif decide (x.1.size < 4294967281) && decide (1 ≤ x.2.1.size) then some (Lib.splitB x.2.1 0 (Lib.countB x.1 x.2.1) x.1, ()) else none
noncomputable def strings_TrimSuffixF (x : ByteArray × ByteArray × Unit) : Option (ByteArray × Unit) := bif decide (x.1.size ≤ 9223372036854775807) then some (⟨(Lib.trimSuffix x.1.data.toList x.2.1.data.toList).toArray⟩, ()) else none
noncomputable def ext : (v : Nat) → Option (ArgsD (V v).pars → Option (V v).RetD)
  | 114 => some (fun x => strings_FieldsF x)
  | 115 => some (fun x => strings_CutF x)
  | 116 => some (fun x => strings_SplitF x)
  | 117 => some (fun x => strings_TrimSuffixF x)
  | 139 => some (fun x => strconv_ItoaF x)
  | _ => none
noncomputable def X : Cx := { P := Tryd.prog, V := V, cands := (fun g => [g]), hint := H, ext := ext }
noncomputable def strings_Fields (a0 : ByteArray) : Option ((List ByteArray) × Unit) := DF X 114 ((a0, ()) : (ByteArray) × Unit)
theorem strings_Fields_eq (a0 : ByteArray) : strings_Fields a0 = strings_FieldsF (a0, ()) := DF_ext X rfl _
noncomputable def strings_Cut (a0 : ByteArray) (a1 : ByteArray) : Option ((ByteArray × ByteArray × Bool) × Unit) := DF X 115 ((a0, a1, ()) : (ByteArray) × (ByteArray) × Unit)
noncomputable def strings_Split (a0 : ByteArray) (a1 : ByteArray) : Option ((List ByteArray) × Unit) := DF X 116 ((a0, a1, ()) : (ByteArray) × (ByteArray) × Unit)
noncomputable def strings_TrimSuffix (a0 : ByteArray) (a1 : ByteArray) : Option ((ByteArray) × Unit) := DF X 117 ((a0, a1, ()) : (ByteArray) × (ByteArray) × Unit)
noncomputable def laws_FnQueues (a0 : (List Int)) : Option (Bool × Unit) := DF X 4 ((a0, ()) : ((List Int)) × Unit)
noncomputable def laws_FnQueues_L0 (x3 : (List (List ByteArray))) (x8 : (List (List ByteArray))) (x9 : Bool) (x10 : Int) (b4224_0 : ByteArray) (b4224_1 : Bool) (b4224_2 : Bool) (b4224_3 : (List (List ByteArray))) (b4224_4 : Bool) : Option (Bool × Unit) := loopAt X 4 0 [] (mkSt 226 [(3, .sv (.lst (.sl .str) x3)), (4, .sv (.ptr 4224 0)), (8, .sv (.own 1000008)), (9, .sv (.bool x9)), (10, .sv (.int .i64 x10))] [(1000003, .gone), (1000008, .live (.row (.ls .str) x8 0)), (2270339, .live (.row (.sl .str) b4224_3 0)), (4224, .live (.box [(.str b4224_0), (.bool b4224_1), (.bool b4224_2), (.own 2270339), (.bool b4224_4)]))])
noncomputable def laws_FnQueues_L2 (x8 : (List (List ByteArray))) (x22 : (List (List ByteArray))) (x25 : Int) : Option (Bool × Unit) := loopAt X 4 2 [] (mkSt 226 [(8, .sv (.own 1000008)), (22, .sv (.own 1000022)), (25, .sv (.int .i64 x25))] [(1000008, .live (.row (.ls .str) x8 0)), (1000022, .live (.row (.sl .str) x22 0))])
noncomputable def laws_FnQueues_L1000001 (x3 : (List (List ByteArray))) (x8 : (List (List ByteArray))) (x9 : Bool) (x10 : Int) (b4224_0 : ByteArray) (b4224_1 : Bool) (b4224_2 : Bool) (b4224_3 : (List (List ByteArray))) (b4224_4 : Bool) : Option (Bool × Unit) := loopAt X 4 1000001 [0] (mkSt 226 [(3, .sv (.lst (.sl .str) x3)), (4, .sv (.ptr 4224 0)), (8, .sv (.own 1000008)), (9, .sv (.bool x9)), (10, .sv (.int .i64 x10))] [(1000003, .gone), (1000008, .live (.row (.ls .str) x8 0)), (2270339, .live (.row (.sl .str) b4224_3 0)), (4224, .live (.box [(.str b4224_0), (.bool b4224_1), (.bool b4224_2), (.own 2270339), (.bool b4224_4)]))])
noncomputable def laws_FnQueues_L1500014 (x3 : (List (List ByteArray))) (x8 : (List (List ByteArray))) (x9 : Bool) (x10 : Int) (x11 : ByteArray) (b4224_0 : ByteArray) (b4224_1 : Bool) (b4224_2 : Bool) (b4224_3 : (List (List ByteArray))) (b4224_4 : Bool) : Option (Bool × Unit) := loopAt X 4 1500014 [0] (mkSt 226 [(3, .sv (.lst (.sl .str) x3)), (4, .sv (.ptr 4224 0)), (8, .sv (.own 1000008)), (9, .sv (.bool x9)), (10, .sv (.int .i64 x10)), (11, .sv (.str x11))] [(1000003, .gone), (1000008, .live (.row (.ls .str) x8 0)), (2270339, .live (.row (.sl .str) b4224_3 0)), (4224, .live (.box [(.str b4224_0), (.bool b4224_1), (.bool b4224_2), (.own 2270339), (.bool b4224_4)]))])
noncomputable def laws_FnQueues_L1500019 (x3 : (List (List ByteArray))) (x8 : (List (List ByteArray))) (x9 : Bool) (x10 : Int) (x16 : ByteArray) (b4224_0 : ByteArray) (b4224_1 : Bool) (b4224_2 : Bool) (b4224_3 : (List (List ByteArray))) (b4224_4 : Bool) (b16560_0 : ByteArray) (b16560_1 : Bool) (b16560_2 : Bool) (b16560_3 : (List (List ByteArray))) (b16560_4 : Bool) : Option (Bool × Unit) := loopAt X 4 1500019 [0] (mkSt 226 [(3, .sv (.lst (.sl .str) x3)), (4, .sv (.ptr 4224 0)), (8, .sv (.own 1000008)), (9, .sv (.bool x9)), (10, .sv (.int .i64 x10)), (12, .sv (.ptr 16560 0)), (16, .sv (.str x16))] [(1000003, .gone), (1000008, .live (.row (.ls .str) x8 0)), (2270339, .live (.row (.sl .str) b4224_3 0)), (4224, .live (.box [(.str b4224_0), (.bool b4224_1), (.bool b4224_2), (.own 2270339), (.bool b4224_4)])), (3059843, .live (.row (.sl .str) b16560_3 0)), (16560, .live (.box [(.str b16560_0), (.bool b16560_1), (.bool b16560_2), (.own 3059843), (.bool b16560_4)]))])
noncomputable def laws_FnQueues_L1500022 (x3 : (List (List ByteArray))) (x8 : (List (List ByteArray))) (x9 : Bool) (x10 : Int) (b4224_0 : ByteArray) (b4224_1 : Bool) (b4224_2 : Bool) (b4224_3 : (List (List ByteArray))) (b4224_4 : Bool) (b16560_0 : ByteArray) (b16560_1 : Bool) (b16560_2 : Bool) (b16560_3 : (List (List ByteArray))) (b16560_4 : Bool) : Option (Bool × Unit) := loopAt X 4 1500022 [0] (mkSt 226 [(3, .sv (.lst (.sl .str) x3)), (4, .sv (.ptr 4224 0)), (8, .sv (.own 1000008)), (9, .sv (.bool x9)), (10, .sv (.int .i64 x10)), (12, .sv (.ptr 16560 0))] [(1000003, .gone), (1000008, .live (.row (.ls .str) x8 0)), (2270339, .live (.row (.sl .str) b4224_3 0)), (4224, .live (.box [(.str b4224_0), (.bool b4224_1), (.bool b4224_2), (.own 2270339), (.bool b4224_4)])), (3059843, .live (.row (.sl .str) b16560_3 0)), (16560, .live (.box [(.str b16560_0), (.bool b16560_1), (.bool b16560_2), (.own 3059843), (.bool b16560_4)]))])
noncomputable def impl_ConnOk (a0 : D_Conn) : Option (Bool × Unit) := DF X 13 ((a0, ()) : (D_Conn) × Unit)
noncomputable def laws_big (a0 : (List Int)) : Option (Bool × Unit) := DF X 15 ((a0, ()) : ((List Int)) × Unit)
noncomputable def spec_DrawWords (a0 : (List Int)) : Option ((List (List ByteArray)) × Unit) := DF X 16 ((a0, ()) : ((List Int)) × Unit)
noncomputable def spec_DrawWords_L0 (x4 : (List (List ByteArray))) (x5 : Int) (b1040_0 : (List Int)) (b1040_1 : Int) (b1040_2 : Int) : Option ((List (List ByteArray)) × Unit) := loopAt X 16 0 [] (mkSt 21 [(3, .sv (.ptr 1040 0)), (4, .sv (.own 1000004)), (5, .sv (.int .i64 x5))] [(1000004, .live (.row (.sl .str) x4 0)), (2066560, .gone), (1040, .live (.box [(.lst (.int .u8) b1040_0), (.int .i64 b1040_1), (.int .i64 b1040_2)]))])
noncomputable def impl_Settle (a0 : D_Conn) (a1 : (List ByteArray)) : Option ((D_Conn × (List (List ByteArray)) × ByteArray × Int) × Unit) := DF X 17 ((a0, a1, ()) : (D_Conn) × ((List ByteArray)) × Unit)
noncomputable def spec_Upper (a0 : ByteArray) : Option (ByteArray × Unit) := DF X 18 ((a0, ()) : (ByteArray) × Unit)
noncomputable def spec_Upper_L0 (x3 : (List Int)) (x4 : Int) : Option (ByteArray × Unit) := loopAt X 18 0 [] (mkSt 35 [(3, .sv (.own 1000003)), (4, .sv (.int .i64 x4))] [(1000003, .live (.row (.int .u8) x3 0))])
noncomputable def spec_Unknown (a0 : (List ByteArray)) : Option (ByteArray × Unit) := DF X 19 ((a0, ()) : ((List ByteArray)) × Unit)
noncomputable def laws_sameTexts (a0 : (List ByteArray)) (a1 : (List ByteArray)) : Option (Bool × Unit) := DF X 20 ((a0, a1, ()) : ((List ByteArray)) × ((List ByteArray)) × Unit)
noncomputable def laws_sameTexts_L0 (x0 : (List ByteArray)) (x1 : (List ByteArray)) (x5 : Int) : Option (Bool × Unit) := loopAt X 20 0 [] (mkSt 26 [(0, .sv (.lst .str x0)), (1, .sv (.lst .str x1)), (5, .sv (.int .i64 x5))] [(1000000, .gone), (1000001, .gone)])
noncomputable def slices_ContainsFunc_____string___string_ (a0 : (List (List ByteArray))) (a1 : Unit) : Option (Bool × ((Unit) × Unit)) := DF X 46 ((a0, a1, ()) : ((List (List ByteArray))) × (Unit) × Unit)
noncomputable def impl_ConnOk_1 (a0 : (List ByteArray)) : Option (Bool × Unit) := DF X 47 ((a0, ()) : ((List ByteArray)) × Unit)
noncomputable def impl_Unknown (a0 : (List ByteArray)) : Option (ByteArray × Unit) := DF X 48 ((a0, ()) : ((List ByteArray)) × Unit)
noncomputable def spec_l01New (a0 : (List Int)) : Option (D_l01Cur × Unit) := DF X 49 ((a0, ()) : ((List Int)) × Unit)
noncomputable def spec_l01New_L0 (x0 : (List Int)) (x3 : Int) (x4 : Int) : Option (D_l01Cur × Unit) := loopAt X 49 0 [] (mkSt 32 [(0, .sv (.lst (.int .u8) x0)), (3, .sv (.int .i64 x3)), (4, .sv (.int .i64 x4))] [(1000000, .gone)])
noncomputable def spec_l01Below (a0 : D_l01Cur) (a1 : Int) : Option (Int × (D_l01Cur × Unit)) := DF X 50 ((a0, a1, ()) : (D_l01Cur) × (Int) × Unit)
noncomputable def spec_l11Args (a0 : D_l01Cur) : Option ((List ByteArray) × (D_l01Cur × Unit)) := DF X 51 ((a0, ()) : (D_l01Cur) × Unit)
noncomputable def spec_l11Args_L1 (x5 : (List ByteArray)) (x6 : Int) (b3000000_0 : (List Int)) (b3000000_1 : Int) (b3000000_2 : Int) : Option ((List ByteArray) × (D_l01Cur × Unit)) := loopAt X 51 1 [] (mkSt 100 [(0, .sv (.ptr 3000000 0)), (5, .sv (.own 1000005)), (6, .sv (.int .i64 x6))] [(1000005, .live (.row .str x5 0)), (194000000, .gone), (3000000, .live (.box [(.lst (.int .u8) b3000000_0), (.int .i64 b3000000_1), (.int .i64 b3000000_2)]))])
noncomputable def spec_l11Args_L3 (x5 : (List ByteArray)) (x7 : Int) (b3000000_0 : (List Int)) (b3000000_1 : Int) (b3000000_2 : Int) : Option ((List ByteArray) × (D_l01Cur × Unit)) := loopAt X 51 3 [] (mkSt 100 [(0, .sv (.ptr 3000000 0)), (5, .sv (.own 1000005)), (7, .sv (.int .i64 x7))] [(1000005, .live (.row .str x5 0)), (194000000, .gone), (3000000, .live (.box [(.lst (.int .u8) b3000000_0), (.int .i64 b3000000_1), (.int .i64 b3000000_2)]))])
noncomputable def impl_copyConn (a0 : D_Conn) : Option (D_Conn × Unit) := DF X 52 ((a0, ()) : (D_Conn) × Unit)
noncomputable def impl_Upper (a0 : ByteArray) : Option (ByteArray × Unit) := DF X 53 ((a0, ()) : (ByteArray) × Unit)
noncomputable def impl_Upper_L0 (x9 : Int) (x10 : Int) (r1040 : (List Int)) : Option (ByteArray × Unit) := loopAt X 53 0 [] (mkSt 29 [(3, .sv (.own 1040)), (8, .sv (.own 1040)), (9, .sv (.int .i64 x9)), (10, .sv (.int .i64 x10))] [(1040, .live (.row (.int .u8) r1040 0))])
noncomputable def impl_Fault (a0 : ByteArray) : Option (ByteArray × Unit) := DF X 54 ((a0, ()) : (ByteArray) × Unit)
noncomputable def impl_Simple (a0 : ByteArray) : Option (ByteArray × Unit) := DF X 55 ((a0, ()) : (ByteArray) × Unit)
noncomputable def impl_copyList (a0 : (List (List ByteArray))) : Option ((List (List ByteArray)) × Unit) := DF X 56 ((a0, ()) : ((List (List ByteArray))) × Unit)
noncomputable def impl_copyList_L0 (x3 : (List (List ByteArray))) (x6 : (List (List ByteArray))) (x7 : Int) (x8 : Int) : Option ((List (List ByteArray)) × Unit) := loopAt X 56 0 [] (mkSt 19 [(3, .sv (.own 1000003)), (6, .sv (.lst (.sl .str) x6)), (7, .sv (.int .i64 x7)), (8, .sv (.int .i64 x8))] [(1000003, .live (.row (.sl .str) x3 0)), (1000006, .gone)])
noncomputable def impl_settleOne (a0 : D_Conn) (a1 : (List ByteArray)) : Option ((D_Conn × (List (List ByteArray)) × ByteArray × Int) × Unit) := DF X 57 ((a0, a1, ()) : (D_Conn) × ((List ByteArray)) × Unit)
noncomputable def spec_l13In (a0 : (List ByteArray)) (a1 : ByteArray) : Option (Bool × Unit) := DF X 58 ((a0, a1, ()) : ((List ByteArray)) × (ByteArray) × Unit)
noncomputable def spec_l13In_L0 (x0 : (List ByteArray)) (x1 : ByteArray) (x5 : Int) : Option (Bool × Unit) := loopAt X 58 0 [] (mkSt 18 [(0, .sv (.lst .str x0)), (1, .sv (.str x1)), (5, .sv (.int .i64 x5))] [(1000000, .gone)])
noncomputable def spec_Commands : Option ((List ByteArray) × Unit) := DF X 59 (() : Unit)
noncomputable def spec_Fault (a0 : ByteArray) : Option (ByteArray × Unit) := DF X 60 ((a0, ()) : (ByteArray) × Unit)
noncomputable def spec_ArityOk (a0 : (List ByteArray)) : Option (Bool × Unit) := DF X 61 ((a0, ()) : ((List ByteArray)) × Unit)
noncomputable def spec_Decimal (a0 : Int) : Option (ByteArray × Unit) := DF X 66 ((a0, ()) : (Int) × Unit)
noncomputable def spec_Decimal_L0 (x0 : Int) (x3 : Bool) (x4 : ByteArray) : Option (ByteArray × Unit) := loopAt X 66 0 [] (mkSt 30 [(0, .sv (.int .i64 x0)), (3, .sv (.bool x3)), (4, .sv (.str x4))] [])
noncomputable def spec_l01Byte (a0 : D_l01Cur) : Option (Int × (D_l01Cur × Unit)) := DF X 67 ((a0, ()) : (D_l01Cur) × Unit)
noncomputable def slices_IndexFunc_____string___string_ (a0 : (List (List ByteArray))) (a1 : Unit) : Option (Int × ((Unit) × Unit)) := DF X 84 ((a0, a1, ()) : ((List (List ByteArray))) × (Unit) × Unit)
noncomputable def slices_IndexFunc_____string___string__L0 (x0 : (List (List ByteArray))) (x7 : Int) (x8 : Int) : Option (Int × ((Unit) × Unit)) := loopAt X 84 0 [] (mkSt 19 [(0, .sv (.lst (.sl .str) x0)), (1, .sv (.clo 47 [])), (7, .sv (.int .i64 x7)), (8, .sv (.int .i64 x8))] [(1000000, .gone)])
noncomputable def impl_oneOf (a0 : (List ByteArray)) (a1 : ByteArray) : Option (Bool × Unit) := DF X 85 ((a0, a1, ()) : ((List ByteArray)) × (ByteArray) × Unit)
noncomputable def impl_ArityOk (a0 : (List ByteArray)) : Option (Bool × Unit) := DF X 86 ((a0, ()) : ((List ByteArray)) × Unit)
noncomputable def spec_l01Once (a0 : D_l01Cur) (a1 : Int) : Option (Bool × (D_l01Cur × Unit)) := DF X 87 ((a0, a1, ()) : (D_l01Cur) × (Int) × Unit)
noncomputable def spec_l01Pick (a0 : D_l01Cur) (a1 : (List ByteArray)) : Option (ByteArray × (D_l01Cur × Unit)) := DF X 88 ((a0, a1, ()) : (D_l01Cur) × ((List ByteArray)) × Unit)
noncomputable def spec_l10Word (a0 : D_l01Cur) : Option (ByteArray × (D_l01Cur × Unit)) := DF X 89 ((a0, ()) : (D_l01Cur) × Unit)
noncomputable def spec_l05Key (a0 : D_l01Cur) : Option (ByteArray × (D_l01Cur × Unit)) := DF X 90 ((a0, ()) : (D_l01Cur) × Unit)
noncomputable def spec_l11Rest (a0 : D_l01Cur) (a1 : ByteArray) : Option ((List ByteArray) × (D_l01Cur × Unit)) := DF X 91 ((a0, a1, ()) : (D_l01Cur) × (ByteArray) × Unit)
noncomputable def spec_l11Rest_L1 (x7 : (List ByteArray)) (x8 : Int) (b3000000_0 : (List Int)) (b3000000_1 : Int) (b3000000_2 : Int) : Option ((List ByteArray) × (D_l01Cur × Unit)) := loopAt X 91 1 [] (mkSt 79 [(0, .sv (.ptr 3000000 0)), (7, .sv (.own 1000007)), (8, .sv (.int .i64 x8))] [(1000007, .live (.row .str x7 0)), (194000000, .gone), (3000000, .live (.box [(.lst (.int .u8) b3000000_0), (.int .i64 b3000000_1), (.int .i64 b3000000_2)]))])
noncomputable def spec_l01Figure (a0 : Int) : Option (Int × Unit) := DF X 92 ((a0, ()) : (Int) × Unit)
noncomputable def slices_Contains___string_string_ (a0 : (List ByteArray)) (a1 : ByteArray) : Option (Bool × Unit) := DF X 113 ((a0, a1, ()) : ((List ByteArray)) × (ByteArray) × Unit)
noncomputable def slices_Index___string_string_ (a0 : (List ByteArray)) (a1 : ByteArray) : Option (Int × Unit) := DF X 129 ((a0, a1, ()) : ((List ByteArray)) × (ByteArray) × Unit)
noncomputable def slices_Index___string_string__L0 (x0 : (List ByteArray)) (x1 : ByteArray) (x7 : Int) (x8 : Int) : Option (Int × Unit) := loopAt X 129 0 [] (mkSt 19 [(0, .sv (.lst .str x0)), (1, .sv (.str x1)), (7, .sv (.int .i64 x7)), (8, .sv (.int .i64 x8))] [(1000000, .gone)])
end Go.Den.S
