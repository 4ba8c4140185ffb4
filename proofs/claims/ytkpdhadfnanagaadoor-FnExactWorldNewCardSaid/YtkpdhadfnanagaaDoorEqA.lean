/- EqA: equations of the functions of this seat as the executor tells them, or plain facts about them. Conditions: none here. -/
import Derived.Test.YtkpdhadfnanagaaDoorTabD
import Derived.KernelRfl
import Derived.Test.YtkpdhadfnanagaaDoorDenFour
import Derived.Lib.FieldsLaws
import Derived.Lib.Bytealg
import Derived.Lib.ItoaNum
import Derived.Lib.Split
import Derived.Lib.IndexMore
import Derived.Lib.Strings
set_option linter.all false
namespace Go.Den.S
open Go Go.Den Go.Proofs
def H (v : Nat) : Nat → Hint := (bif Nat.ble v 69
  then (bif Nat.ble v 34
  then (bif Nat.ble v 27
  then (bif Nat.ble v 16
  then (bif Nat.ble v 4
  then (bif Nat.beq v 4 then (fun bid => bif Nat.beq bid 0 then ⟨[(3, .lst (.sl .str)), (4, .v), (8, .row (.ls .str)), (9, .v), (10, .v)], [], [(4224, [(0, .v), (1, .v), (2, .v), (3, .row (.sl .str)), (4, .v)])]⟩ else bif Nat.beq bid 2 then ⟨[(8, .row (.ls .str)), (22, .row (.sl .str)), (25, .v)], [], []⟩ else bif Nat.beq bid 1000001 then ⟨[(3, .lst (.sl .str)), (4, .v), (8, .row (.ls .str)), (9, .v), (10, .v)], [], [(4224, [(0, .v), (1, .v), (2, .v), (3, .row (.sl .str)), (4, .v)])]⟩ else bif Nat.beq bid 1500014 then ⟨[(3, .lst (.sl .str)), (4, .v), (8, .row (.ls .str)), (9, .v), (10, .v), (11, .v)], [], [(4224, [(0, .v), (1, .v), (2, .v), (3, .row (.sl .str)), (4, .v)])]⟩ else bif Nat.beq bid 1500019 then ⟨[(3, .lst (.sl .str)), (4, .v), (8, .row (.ls .str)), (9, .v), (10, .v), (12, .v), (16, .v)], [], [(4224, [(0, .v), (1, .v), (2, .v), (3, .row (.sl .str)), (4, .v)]), (16560, [(0, .v), (1, .v), (2, .v), (3, .row (.sl .str)), (4, .v)])]⟩ else bif Nat.beq bid 1500022 then ⟨[(3, .lst (.sl .str)), (4, .v), (8, .row (.ls .str)), (9, .v), (10, .v), (12, .v)], [], [(4224, [(0, .v), (1, .v), (2, .v), (3, .row (.sl .str)), (4, .v)]), (16560, [(0, .v), (1, .v), (2, .v), (3, .row (.sl .str)), (4, .v)])]⟩ else bif Nat.beq bid 2500014 then ⟨[(0, .v)], [], []⟩ else bif Nat.beq bid 2000001 then ⟨[(0, .v)], [], []⟩ else bif Nat.beq bid 2500019 then ⟨[(0, .v)], [], []⟩ else bif Nat.beq bid 2500022 then ⟨[(0, .v)], [], []⟩ else ⟨[], [], []⟩) else (fun _ => ⟨[], [], []⟩))
  else (bif Nat.ble v 7
  then (bif Nat.beq v 7 then (fun bid => bif Nat.beq bid 0 then ⟨[(0, .lst (.int .u8)), (3, .lst (.sl .str)), (4, .v), (5, .v)], [], [(4112, [(0, .v), (1, .v), (2, .v), (3, .row (.sl .str)), (4, .v)])]⟩ else bif Nat.beq bid 2 then ⟨[(3, .lst (.sl .str)), (4, .v), (13, .v)], [], [(4112, [(0, .v), (1, .v), (2, .v), (3, .row (.sl .str)), (4, .v)])]⟩ else ⟨[], [], []⟩) else (fun _ => ⟨[], [], []⟩))
  else (bif Nat.beq v 16 then (fun bid => bif Nat.beq bid 0 then ⟨[(3, .v), (4, .row (.sl .str)), (5, .v)], [], [(1040, [(0, .lst (.int .u8)), (1, .v), (2, .v)])]⟩ else ⟨[], [], []⟩) else (fun _ => ⟨[], [], []⟩))))
  else (bif Nat.ble v 20
  then (bif Nat.ble v 18
  then (bif Nat.beq v 18 then (fun bid => bif Nat.beq bid 0 then ⟨[(3, .row (.int .u8)), (4, .v)], [], []⟩ else ⟨[], [], []⟩) else (fun _ => ⟨[], [], []⟩))
  else (bif Nat.beq v 20 then (fun bid => bif Nat.beq bid 0 then ⟨[(0, .lst .str), (1, .lst .str), (5, .v)], [], []⟩ else ⟨[], [], []⟩) else (fun _ => ⟨[], [], []⟩)))
  else (bif Nat.ble v 25
  then (bif Nat.beq v 25 then (fun bid => bif Nat.beq bid 0 then ⟨[(0, .lst .str), (1, .v), (5, .v)], [], []⟩ else ⟨[], [], []⟩) else (fun _ => ⟨[], [], []⟩))
  else (bif Nat.beq v 27 then (fun bid => bif Nat.beq bid 0 then ⟨[(0, .lst .str), (3, .row .str), (4, .v)], [], []⟩ else ⟨[], [], []⟩) else (fun _ => ⟨[], [], []⟩)))))
  else (bif Nat.ble v 30
  then (bif Nat.ble v 28
  then (bif Nat.beq v 28 then (fun bid => bif Nat.beq bid 0 then ⟨[(0, .lst (.sl .str)), (1, .lst (.sl .str)), (5, .v)], [], []⟩ else ⟨[], [], []⟩) else (fun _ => ⟨[], [], []⟩))
  else (bif Nat.ble v 29
  then (bif Nat.beq v 29 then (fun bid => bif Nat.beq bid 0 then ⟨[(0, .lst .str), (1, .lst .str), (5, .v)], [], []⟩ else ⟨[], [], []⟩) else (fun _ => ⟨[], [], []⟩))
  else (bif Nat.beq v 30 then (fun bid => bif Nat.beq bid 0 then ⟨[(0, .v), (1, .v), (5, .v)], [], [(3000000, [])]⟩ else ⟨[], [], []⟩) else (fun _ => ⟨[], [], []⟩))))
  else (bif Nat.ble v 32
  then (bif Nat.ble v 31
  then (bif Nat.beq v 31 then (fun bid => bif Nat.beq bid 0 then ⟨[(0, .v), (1, .v), (5, .v)], [], [(3000000, [])]⟩ else ⟨[], [], []⟩) else (fun _ => ⟨[], [], []⟩))
  else (bif Nat.beq v 32 then (fun bid => bif Nat.beq bid 0 then ⟨[(0, .lst (.sl .str)), (1, .v), (5, .v)], [], []⟩ else ⟨[], [], []⟩) else (fun _ => ⟨[], [], []⟩)))
  else (bif Nat.ble v 33
  then (bif Nat.beq v 33 then (fun bid => bif Nat.beq bid 0 then ⟨[(0, .lst .str), (4, .v), (5, .v)], [], []⟩ else ⟨[], [], []⟩) else (fun _ => ⟨[], [], []⟩))
  else (bif Nat.beq v 34 then (fun bid => bif Nat.beq bid 0 then ⟨[(3, .v), (4, .row I), (5, .v)], [], [(1040, [(0, .lst (.int .u8)), (1, .v), (2, .v)])]⟩ else ⟨[], [], []⟩) else (fun _ => ⟨[], [], []⟩))))))
  else (bif Nat.ble v 53
  then (bif Nat.ble v 44
  then (bif Nat.ble v 37
  then (bif Nat.beq v 37 then (fun bid => bif Nat.beq bid 0 then ⟨[(0, .lst .str), (1, .v), (5, .v)], [], []⟩ else ⟨[], [], []⟩) else (fun _ => ⟨[], [], []⟩))
  else (bif Nat.ble v 43
  then (bif Nat.beq v 43 then (fun bid => bif Nat.beq bid 0 then ⟨[(0, .lst (.sl .str)), (1, .v), (5, .v)], [], []⟩ else ⟨[], [], []⟩) else (fun _ => ⟨[], [], []⟩))
  else (bif Nat.beq v 44 then (fun bid => bif Nat.beq bid 0 then ⟨[(1, .v), (3, .v)], [], [(0, [(0, .v), (1, .v), (2, .v), (3, .lst (.sl .str)), (4, .v)])]⟩ else ⟨[], [], []⟩) else (fun _ => ⟨[], [], []⟩))))
  else (bif Nat.ble v 49
  then (bif Nat.ble v 45
  then (bif Nat.beq v 45 then (fun bid => bif Nat.beq bid 0 then ⟨[(0, .lst (.sl .str)), (3, .row (.sl .str)), (4, .v)], [], []⟩ else ⟨[], [], []⟩) else (fun _ => ⟨[], [], []⟩))
  else (bif Nat.beq v 49 then (fun bid => bif Nat.beq bid 0 then ⟨[(0, .lst (.int .u8)), (3, .v), (4, .v)], [], []⟩ else ⟨[], [], []⟩) else (fun _ => ⟨[], [], []⟩)))
  else (bif Nat.ble v 51
  then (bif Nat.beq v 51 then (fun bid => bif Nat.beq bid 1 then ⟨[(0, .v), (5, .row .str), (6, .v)], [], [(3000000, [(0, .lst (.int .u8)), (1, .v), (2, .v)])]⟩ else bif Nat.beq bid 3 then ⟨[(0, .v), (5, .row .str), (7, .v)], [], [(3000000, [(0, .lst (.int .u8)), (1, .v), (2, .v)])]⟩ else bif Nat.beq bid 1000000 then ⟨[(0, .v), (5, .row .str)], [], [(3000000, [(0, .lst (.int .u8)), (1, .v), (2, .v)])]⟩ else bif Nat.beq bid 1500004 then ⟨[(0, .v), (4, .v)], [], [(3000000, [(0, .lst (.int .u8)), (1, .v), (2, .v)])]⟩ else bif Nat.beq bid 1500007 then ⟨[(0, .v), (4, .v), (5, .row .str)], [], [(3000000, [(0, .lst (.int .u8)), (1, .v), (2, .v)])]⟩ else bif Nat.beq bid 2500004 then ⟨[(0, .v)], [], []⟩ else bif Nat.beq bid 2500007 then ⟨[(0, .v)], [], []⟩ else bif Nat.beq bid 2000000 then ⟨[(0, .v)], [], []⟩ else ⟨[], [], []⟩) else (fun _ => ⟨[], [], []⟩))
  else (bif Nat.beq v 53 then (fun bid => bif Nat.beq bid 0 then ⟨[(3, .v), (8, .v), (9, .v), (10, .v)], [], [(1040, [])]⟩ else ⟨[], [], []⟩) else (fun _ => ⟨[], [], []⟩)))))
  else (bif Nat.ble v 62
  then (bif Nat.ble v 56
  then (bif Nat.beq v 56 then (fun bid => bif Nat.beq bid 0 then ⟨[(3, .row (.sl .str)), (6, .lst (.sl .str)), (7, .v), (8, .v)], [], []⟩ else ⟨[], [], []⟩) else (fun _ => ⟨[], [], []⟩))
  else (bif Nat.ble v 58
  then (bif Nat.beq v 58 then (fun bid => bif Nat.beq bid 0 then ⟨[(0, .lst .str), (1, .v), (5, .v)], [], []⟩ else ⟨[], [], []⟩) else (fun _ => ⟨[], [], []⟩))
  else (bif Nat.beq v 62 then (fun bid => bif Nat.beq bid 0 then ⟨[(1, .v), (2, .v), (3, .row (.sl .str)), (4, .v)], [], [(0, [(0, .v), (1, .v), (2, .v), (3, .lst (.sl .str)), (4, .v)]), (16, [(0, .v), (1, .v), (2, .v), (3, .row (.sl .str)), (4, .v)])]⟩ else ⟨[], [], []⟩) else (fun _ => ⟨[], [], []⟩))))
  else (bif Nat.ble v 66
  then (bif Nat.ble v 65
  then (bif Nat.beq v 65 then (fun bid => bif Nat.beq bid 0 then ⟨[(0, .v), (3, .v)], [], []⟩ else ⟨[], [], []⟩) else (fun _ => ⟨[], [], []⟩))
  else (bif Nat.beq v 66 then (fun bid => bif Nat.beq bid 0 then ⟨[(0, .v), (3, .v), (4, .v)], [], []⟩ else ⟨[], [], []⟩) else (fun _ => ⟨[], [], []⟩)))
  else (bif Nat.ble v 68
  then (bif Nat.beq v 68 then (fun bid => bif Nat.beq bid 0 then ⟨[(0, .v), (5, .v), (6, .v), (8, .row .str), (9, .v)], [], []⟩ else ⟨[], [], []⟩) else (fun _ => ⟨[], [], []⟩))
  else (bif Nat.beq v 69 then (fun bid => bif Nat.beq bid 0 then ⟨[(0, .v), (5, .row .str), (6, .v), (7, .v), (8, .row .str), (9, .v)], [], []⟩ else ⟨[], [], []⟩) else (fun _ => ⟨[], [], []⟩)))))))
  else (bif Nat.ble v 96
  then (bif Nat.ble v 81
  then (bif Nat.ble v 75
  then (bif Nat.ble v 73
  then (bif Nat.beq v 73 then (fun bid => bif Nat.beq bid 0 then ⟨[(0, .lst T_Entry), (1, .lst T_Entry), (5, .v)], [], []⟩ else ⟨[], [], []⟩) else (fun _ => ⟨[], [], []⟩))
  else (bif Nat.ble v 74
  then (bif Nat.beq v 74 then (fun bid => bif Nat.beq bid 0 then ⟨[(0, .lst T_Conn), (1, .lst T_Conn), (5, .v)], [], []⟩ else ⟨[], [], []⟩) else (fun _ => ⟨[], [], []⟩))
  else (bif Nat.beq v 75 then (fun bid => bif Nat.beq bid 0 then ⟨[(0, .lst T_Unit), (1, .lst T_Unit), (5, .v)], [], []⟩ else ⟨[], [], []⟩) else (fun _ => ⟨[], [], []⟩))))
  else (bif Nat.ble v 78
  then (bif Nat.ble v 77
  then (bif Nat.beq v 77 then (fun bid => bif Nat.beq bid 0 then ⟨[(0, .v), (1, .v), (5, .v)], [], [(3000000, [])]⟩ else bif Nat.beq bid 1700000 then ⟨[(0, .v), (1, .v)], [], [(3000000, [])]⟩ else bif Nat.beq bid 1700001 then ⟨[(0, .v), (1, .v), (5, .v)], [], [(3000000, [])]⟩ else bif Nat.beq bid 1700002 then ⟨[(0, .v), (1, .v), (5, .v), (9, .v)], [], [(3000000, [])]⟩ else bif Nat.beq bid 1700004 then ⟨[(0, .v), (1, .v), (5, .v)], [], [(3000000, [])]⟩ else bif Nat.beq bid 1700005 then ⟨[(0, .v), (1, .v), (5, .v)], [], [(3000000, [])]⟩ else bif Nat.beq bid 1700006 then ⟨[(0, .v), (1, .v), (5, .v)], [], [(3000000, [])]⟩ else bif Nat.beq bid 1700007 then ⟨[(0, .v), (1, .v), (5, .v)], [], [(3000000, [])]⟩ else bif Nat.beq bid 1700008 then ⟨[(0, .v), (1, .v), (5, .v)], [], [(3000000, [])]⟩ else bif Nat.beq bid 1700009 then ⟨[(0, .v), (1, .v), (5, .v)], [], [(3000000, [])]⟩ else bif Nat.beq bid 1700010 then ⟨[(0, .v), (1, .v), (5, .v)], [], [(3000000, [])]⟩ else bif Nat.beq bid 1700011 then ⟨[(0, .v), (1, .v), (5, .v)], [], [(3000000, [])]⟩ else bif Nat.beq bid 1700013 then ⟨[(4, .v)], [], [(3000000, [])]⟩ else bif Nat.beq bid 2700000 then ⟨[(0, .v)], [], []⟩ else bif Nat.beq bid 2700001 then ⟨[(0, .v)], [], []⟩ else bif Nat.beq bid 2700002 then ⟨[(0, .v)], [], []⟩ else bif Nat.beq bid 2700004 then ⟨[(0, .v)], [], []⟩ else bif Nat.beq bid 2700005 then ⟨[(0, .v)], [], []⟩ else bif Nat.beq bid 2700006 then ⟨[(0, .v)], [], []⟩ else bif Nat.beq bid 2700007 then ⟨[(0, .v)], [], []⟩ else bif Nat.beq bid 2700008 then ⟨[(0, .v)], [], []⟩ else bif Nat.beq bid 2700009 then ⟨[(0, .v)], [], []⟩ else bif Nat.beq bid 2700010 then ⟨[(0, .v)], [], []⟩ else bif Nat.beq bid 2700011 then ⟨[(0, .v)], [], []⟩ else bif Nat.beq bid 2700013 then ⟨[(0, .v)], [], []⟩ else ⟨[], [], []⟩) else (fun _ => ⟨[], [], []⟩))
  else (bif Nat.beq v 78 then (fun bid => bif Nat.beq bid 0 then ⟨[(0, .v), (1, .v), (5, .v)], [], [(3000000, [])]⟩ else bif Nat.beq bid 1700000 then ⟨[(0, .v), (1, .v)], [], [(3000000, [])]⟩ else bif Nat.beq bid 1700001 then ⟨[(0, .v), (1, .v), (5, .v)], [], [(3000000, [])]⟩ else bif Nat.beq bid 1700002 then ⟨[(0, .v), (1, .v), (5, .v), (9, .v)], [], [(3000000, [])]⟩ else bif Nat.beq bid 1700004 then ⟨[(0, .v), (1, .v), (5, .v)], [], [(3000000, [])]⟩ else bif Nat.beq bid 1700005 then ⟨[(0, .v), (1, .v), (5, .v)], [], [(3000000, [])]⟩ else bif Nat.beq bid 1700006 then ⟨[(0, .v), (1, .v), (5, .v)], [], [(3000000, [])]⟩ else bif Nat.beq bid 1700007 then ⟨[(0, .v), (1, .v), (5, .v)], [], [(3000000, [])]⟩ else bif Nat.beq bid 1700008 then ⟨[(0, .v), (1, .v), (5, .v)], [], [(3000000, [])]⟩ else bif Nat.beq bid 1700009 then ⟨[(0, .v), (1, .v), (5, .v)], [], [(3000000, [])]⟩ else bif Nat.beq bid 1700010 then ⟨[(0, .v), (1, .v), (5, .v)], [], [(3000000, [])]⟩ else bif Nat.beq bid 1700011 then ⟨[(0, .v), (1, .v), (5, .v)], [], [(3000000, [])]⟩ else bif Nat.beq bid 1700013 then ⟨[(4, .v)], [], [(3000000, [])]⟩ else bif Nat.beq bid 2700000 then ⟨[(0, .v)], [], []⟩ else bif Nat.beq bid 2700001 then ⟨[(0, .v)], [], []⟩ else bif Nat.beq bid 2700002 then ⟨[(0, .v)], [], []⟩ else bif Nat.beq bid 2700004 then ⟨[(0, .v)], [], []⟩ else bif Nat.beq bid 2700005 then ⟨[(0, .v)], [], []⟩ else bif Nat.beq bid 2700006 then ⟨[(0, .v)], [], []⟩ else bif Nat.beq bid 2700007 then ⟨[(0, .v)], [], []⟩ else bif Nat.beq bid 2700008 then ⟨[(0, .v)], [], []⟩ else bif Nat.beq bid 2700009 then ⟨[(0, .v)], [], []⟩ else bif Nat.beq bid 2700010 then ⟨[(0, .v)], [], []⟩ else bif Nat.beq bid 2700011 then ⟨[(0, .v)], [], []⟩ else bif Nat.beq bid 2700013 then ⟨[(0, .v)], [], []⟩ else ⟨[], [], []⟩) else (fun _ => ⟨[], [], []⟩)))
  else (bif Nat.ble v 79
  then (bif Nat.beq v 79 then (fun bid => bif Nat.beq bid 0 then ⟨[(0, .v), (1, .v), (5, .v)], [], [(3000000, [])]⟩ else bif Nat.beq bid 1700000 then ⟨[(0, .v), (1, .v)], [], [(3000000, [])]⟩ else bif Nat.beq bid 1700001 then ⟨[(0, .v), (1, .v), (5, .v)], [], [(3000000, [])]⟩ else bif Nat.beq bid 1700002 then ⟨[(0, .v), (1, .v), (5, .v), (9, .v)], [], [(3000000, [])]⟩ else bif Nat.beq bid 1700004 then ⟨[(0, .v), (1, .v), (5, .v)], [], [(3000000, [])]⟩ else bif Nat.beq bid 1700005 then ⟨[(0, .v), (1, .v), (5, .v)], [], [(3000000, [])]⟩ else bif Nat.beq bid 1700006 then ⟨[(0, .v), (1, .v), (5, .v)], [], [(3000000, [])]⟩ else bif Nat.beq bid 1700007 then ⟨[(0, .v), (1, .v), (5, .v)], [], [(3000000, [])]⟩ else bif Nat.beq bid 1700008 then ⟨[(0, .v), (1, .v), (5, .v)], [], [(3000000, [])]⟩ else bif Nat.beq bid 1700009 then ⟨[(0, .v), (1, .v), (5, .v)], [], [(3000000, [])]⟩ else bif Nat.beq bid 1700010 then ⟨[(0, .v), (1, .v), (5, .v)], [], [(3000000, [])]⟩ else bif Nat.beq bid 1700011 then ⟨[(0, .v), (1, .v), (5, .v)], [], [(3000000, [])]⟩ else bif Nat.beq bid 1700012 then ⟨[(0, .v), (1, .v), (5, .v)], [], [(3000000, [])]⟩ else bif Nat.beq bid 1700013 then ⟨[(0, .v), (1, .v), (5, .v)], [], [(3000000, [])]⟩ else bif Nat.beq bid 1700015 then ⟨[(4, .v)], [], [(3000000, [])]⟩ else bif Nat.beq bid 2700000 then ⟨[(0, .v)], [], []⟩ else bif Nat.beq bid 2700001 then ⟨[(0, .v)], [], []⟩ else bif Nat.beq bid 2700002 then ⟨[(0, .v)], [], []⟩ else bif Nat.beq bid 2700004 then ⟨[(0, .v)], [], []⟩ else bif Nat.beq bid 2700005 then ⟨[(0, .v)], [], []⟩ else bif Nat.beq bid 2700006 then ⟨[(0, .v)], [], []⟩ else bif Nat.beq bid 2700007 then ⟨[(0, .v)], [], []⟩ else bif Nat.beq bid 2700008 then ⟨[(0, .v)], [], []⟩ else bif Nat.beq bid 2700009 then ⟨[(0, .v)], [], []⟩ else bif Nat.beq bid 2700010 then ⟨[(0, .v)], [], []⟩ else bif Nat.beq bid 2700011 then ⟨[(0, .v)], [], []⟩ else bif Nat.beq bid 2700012 then ⟨[(0, .v)], [], []⟩ else bif Nat.beq bid 2700013 then ⟨[(0, .v)], [], []⟩ else bif Nat.beq bid 2700015 then ⟨[(0, .v)], [], []⟩ else ⟨[], [], []⟩) else (fun _ => ⟨[], [], []⟩))
  else (bif Nat.beq v 81 then (fun bid => bif Nat.beq bid 0 then ⟨[(0, .lst T_Entry), (1, .v), (5, .v)], [], []⟩ else ⟨[], [], []⟩) else (fun _ => ⟨[], [], []⟩)))))
  else (bif Nat.ble v 84
  then (bif Nat.ble v 82
  then (bif Nat.beq v 82 then (fun bid => bif Nat.beq bid 0 then ⟨[(0, .lst T_Conn), (1, .v), (5, .v)], [], []⟩ else ⟨[], [], []⟩) else (fun _ => ⟨[], [], []⟩))
  else (bif Nat.ble v 83
  then (bif Nat.beq v 83 then (fun bid => bif Nat.beq bid 0 then ⟨[(0, .lst T_Unit), (1, .v), (5, .v)], [], []⟩ else ⟨[], [], []⟩) else (fun _ => ⟨[], [], []⟩))
  else (bif Nat.beq v 84 then (fun bid => bif Nat.beq bid 0 then ⟨[(0, .lst (.sl .str)), (1, .v), (7, .v), (8, .v)], [], []⟩ else ⟨[], [], []⟩) else (fun _ => ⟨[], [], []⟩))))
  else (bif Nat.ble v 93
  then (bif Nat.ble v 91
  then (bif Nat.beq v 91 then (fun bid => bif Nat.beq bid 1 then ⟨[(0, .v), (7, .row .str), (8, .v)], [], [(3000000, [(0, .lst (.int .u8)), (1, .v), (2, .v)])]⟩ else ⟨[], [], []⟩) else (fun _ => ⟨[], [], []⟩))
  else (bif Nat.beq v 93 then (fun bid => bif Nat.beq bid 0 then ⟨[(5, .v), (8, .row .str), (24, .row .str), (25, .v), (26, .v)], [], []⟩ else ⟨[], [], []⟩) else (fun _ => ⟨[], [], []⟩)))
  else (bif Nat.ble v 94
  then (bif Nat.beq v 94 then (fun bid => bif Nat.beq bid 0 then ⟨[(0, .v), (1, .v), (2, .v), (9, .v), (10, .v)], [], []⟩ else ⟨[], [], []⟩) else (fun _ => ⟨[], [], []⟩))
  else (bif Nat.beq v 96 then (fun bid => bif Nat.beq bid 0 then ⟨[(0, .v), (5, .row .str), (6, .v)], [], []⟩ else bif Nat.beq bid 2 then ⟨[(5, .row .str), (6, .v), (7, .v), (8, .row .str), (9, .v)], [], []⟩ else bif Nat.beq bid 4 then ⟨[(5, .row .str), (6, .v), (7, .v), (8, .row .str), (9, .v), (10, .v)], [], []⟩ else ⟨[], [], []⟩) else (fun _ => ⟨[], [], []⟩))))))
  else (bif Nat.ble v 121
  then (bif Nat.ble v 110
  then (bif Nat.ble v 97
  then (bif Nat.beq v 97 then (fun bid => bif Nat.beq bid 0 then ⟨[(0, .v), (1, .v), (2, .v), (8, .v)], [], []⟩ else ⟨[], [], []⟩) else (fun _ => ⟨[], [], []⟩))
  else (bif Nat.ble v 106
  then (bif Nat.beq v 106 then (fun bid => bif Nat.beq bid 0 then ⟨[(0, .lst T_Spot), (1, .lst T_Spot), (5, .v)], [], []⟩ else ⟨[], [], []⟩) else (fun _ => ⟨[], [], []⟩))
  else (bif Nat.beq v 110 then (fun bid => bif Nat.beq bid 0 then ⟨[(0, .v), (1, .v), (5, .v)], [], [(3000000, [])]⟩ else bif Nat.beq bid 1700000 then ⟨[(0, .v), (1, .v)], [], [(3000000, [])]⟩ else bif Nat.beq bid 1700001 then ⟨[(0, .v), (1, .v), (5, .v)], [], [(3000000, [])]⟩ else bif Nat.beq bid 1700002 then ⟨[(0, .v), (1, .v), (5, .v), (9, .v)], [], [(3000000, [])]⟩ else bif Nat.beq bid 1700004 then ⟨[(0, .v), (1, .v), (5, .v)], [], [(3000000, [])]⟩ else bif Nat.beq bid 1700005 then ⟨[(0, .v), (1, .v), (5, .v)], [], [(3000000, [])]⟩ else bif Nat.beq bid 1700006 then ⟨[(0, .v), (1, .v), (5, .v)], [], [(3000000, [])]⟩ else bif Nat.beq bid 1700007 then ⟨[(0, .v), (1, .v), (5, .v)], [], [(3000000, [])]⟩ else bif Nat.beq bid 1700008 then ⟨[(0, .v), (1, .v), (5, .v)], [], [(3000000, [])]⟩ else bif Nat.beq bid 1700009 then ⟨[(0, .v), (1, .v), (5, .v)], [], [(3000000, [])]⟩ else bif Nat.beq bid 1700010 then ⟨[(0, .v), (1, .v), (5, .v)], [], [(3000000, [])]⟩ else bif Nat.beq bid 1700012 then ⟨[(4, .v)], [], [(3000000, [])]⟩ else bif Nat.beq bid 2700000 then ⟨[(0, .v)], [], []⟩ else bif Nat.beq bid 2700001 then ⟨[(0, .v)], [], []⟩ else bif Nat.beq bid 2700002 then ⟨[(0, .v)], [], []⟩ else bif Nat.beq bid 2700004 then ⟨[(0, .v)], [], []⟩ else bif Nat.beq bid 2700005 then ⟨[(0, .v)], [], []⟩ else bif Nat.beq bid 2700006 then ⟨[(0, .v)], [], []⟩ else bif Nat.beq bid 2700007 then ⟨[(0, .v)], [], []⟩ else bif Nat.beq bid 2700008 then ⟨[(0, .v)], [], []⟩ else bif Nat.beq bid 2700009 then ⟨[(0, .v)], [], []⟩ else bif Nat.beq bid 2700010 then ⟨[(0, .v)], [], []⟩ else bif Nat.beq bid 2700012 then ⟨[(0, .v)], [], []⟩ else ⟨[], [], []⟩) else (fun _ => ⟨[], [], []⟩))))
  else (bif Nat.ble v 118
  then (bif Nat.ble v 112
  then (bif Nat.beq v 112 then (fun bid => bif Nat.beq bid 0 then ⟨[(0, .lst T_Spot), (1, .v), (5, .v)], [], []⟩ else ⟨[], [], []⟩) else (fun _ => ⟨[], [], []⟩))
  else (bif Nat.beq v 118 then (fun bid => bif Nat.beq bid 0 then ⟨[(0, .v), (4, .v), (5, .v)], [], []⟩ else ⟨[], [], []⟩) else (fun _ => ⟨[], [], []⟩)))
  else (bif Nat.ble v 120
  then (bif Nat.beq v 120 then (fun bid => bif Nat.beq bid 0 then ⟨[(0, .v), (3, .row (.int .u8))], [], []⟩ else ⟨[], [], []⟩) else (fun _ => ⟨[], [], []⟩))
  else (bif Nat.beq v 121 then (fun bid => bif Nat.beq bid 0 then ⟨[(4, .row (.int .u8)), (9, .lst I), (10, .v), (11, .v)], [], []⟩ else ⟨[], [], []⟩) else (fun _ => ⟨[], [], []⟩)))))
  else (bif Nat.ble v 128
  then (bif Nat.ble v 124
  then (bif Nat.beq v 124 then (fun bid => bif Nat.beq bid 0 then ⟨[(0, .lst T_File), (1, .lst T_File), (5, .v)], [], []⟩ else ⟨[], [], []⟩) else (fun _ => ⟨[], [], []⟩))
  else (bif Nat.ble v 127
  then (bif Nat.beq v 127 then (fun bid => bif Nat.beq bid 0 then ⟨[(0, .v), (1, .v), (5, .v)], [], [(3000000, [])]⟩ else bif Nat.beq bid 1700000 then ⟨[(0, .v), (1, .v)], [], [(3000000, [])]⟩ else bif Nat.beq bid 1700001 then ⟨[(0, .v), (1, .v), (5, .v)], [], [(3000000, [])]⟩ else bif Nat.beq bid 1700002 then ⟨[(0, .v), (1, .v), (5, .v), (9, .v)], [], [(3000000, [])]⟩ else bif Nat.beq bid 1700004 then ⟨[(0, .v), (1, .v), (5, .v)], [], [(3000000, [])]⟩ else bif Nat.beq bid 1700005 then ⟨[(0, .v), (1, .v), (5, .v)], [], [(3000000, [])]⟩ else bif Nat.beq bid 1700006 then ⟨[(0, .v), (1, .v), (5, .v)], [], [(3000000, [])]⟩ else bif Nat.beq bid 1700007 then ⟨[(0, .v), (1, .v), (5, .v)], [], [(3000000, [])]⟩ else bif Nat.beq bid 1700008 then ⟨[(0, .v), (1, .v), (5, .v)], [], [(3000000, [])]⟩ else bif Nat.beq bid 1700010 then ⟨[(4, .v)], [], [(3000000, [])]⟩ else bif Nat.beq bid 2700000 then ⟨[(0, .v)], [], []⟩ else bif Nat.beq bid 2700001 then ⟨[(0, .v)], [], []⟩ else bif Nat.beq bid 2700002 then ⟨[(0, .v)], [], []⟩ else bif Nat.beq bid 2700004 then ⟨[(0, .v)], [], []⟩ else bif Nat.beq bid 2700005 then ⟨[(0, .v)], [], []⟩ else bif Nat.beq bid 2700006 then ⟨[(0, .v)], [], []⟩ else bif Nat.beq bid 2700007 then ⟨[(0, .v)], [], []⟩ else bif Nat.beq bid 2700008 then ⟨[(0, .v)], [], []⟩ else bif Nat.beq bid 2700010 then ⟨[(0, .v)], [], []⟩ else ⟨[], [], []⟩) else (fun _ => ⟨[], [], []⟩))
  else (bif Nat.beq v 128 then (fun bid => bif Nat.beq bid 0 then ⟨[(0, .lst T_File), (1, .v), (5, .v)], [], []⟩ else ⟨[], [], []⟩) else (fun _ => ⟨[], [], []⟩))))
  else (bif Nat.ble v 137
  then (bif Nat.ble v 129
  then (bif Nat.beq v 129 then (fun bid => bif Nat.beq bid 0 then ⟨[(0, .lst .str), (1, .v), (7, .v), (8, .v)], [], []⟩ else ⟨[], [], []⟩) else (fun _ => ⟨[], [], []⟩))
  else (bif Nat.beq v 137 then (fun bid => bif Nat.beq bid 0 then ⟨[(0, .v), (4, .row (.int .u8))], [], []⟩ else ⟨[], [], []⟩) else (fun _ => ⟨[], [], []⟩)))
  else (bif Nat.ble v 147
  then (bif Nat.beq v 147 then (fun bid => bif Nat.beq bid 0 then ⟨[(0, .v), (1, .v), (5, .v)], [], []⟩ else bif Nat.beq bid 2 then ⟨[(0, .v), (1, .v), (5, .v), (6, .v)], [], []⟩ else ⟨[], [], []⟩) else (fun _ => ⟨[], [], []⟩))
  else (bif Nat.beq v 148 then (fun bid => bif Nat.beq bid 0 then ⟨[(0, .v), (1, .v), (5, .v)], [], []⟩ else bif Nat.beq bid 2 then ⟨[(0, .v), (1, .v), (5, .v), (6, .v)], [], []⟩ else ⟨[], [], []⟩) else (fun _ => ⟨[], [], []⟩))))))))
noncomputable def strings_FieldsF (x : ByteArray × Unit) : Option (List ByteArray × Unit) := none
noncomputable def strconv_ItoaF (x : Int × Unit) : Option (ByteArray × Unit) := bif decide (-9223372036854775808 ≤ x.1) && decide (x.1 ≤ 9223372036854775807) then some (⟨(Lib.itoa x.1).toArray⟩, ()) else none
noncomputable def strings_CutF (x : ByteArray × ByteArray × Unit) : Option ((ByteArray × ByteArray × Bool) × Unit) := none
noncomputable def strings_SplitF (x : ByteArray × ByteArray × Unit) : Option (List ByteArray × Unit) := none
noncomputable def strings_TrimSuffixF (x : ByteArray × ByteArray × Unit) : Option (ByteArray × Unit) := none
noncomputable def ext : (v : Nat) → Option (ArgsD (V v).pars → Option (V v).RetD)
  | 114 => some (fun x => strings_FieldsF x)
  | 115 => some (fun x => strings_CutF x)
  | 116 => some (fun x => strings_SplitF x)
  | 117 => some (fun x => strings_TrimSuffixF x)
  | 139 => some (fun x => strconv_ItoaF x)
  | _ => none
noncomputable def X : Cx := { P := Tryd.prog, V := V, cands := (fun g => [g]), hint := H, ext := ext }
noncomputable def strconv_Itoa (a0 : Int) : Option ((ByteArray) × Unit) := DF X 139 ((a0, ()) : (Int) × Unit)
theorem strconv_Itoa_eq (a0 : Int) : strconv_Itoa a0 = strconv_ItoaF (a0, ()) := DF_ext X rfl _
noncomputable def laws_FnExactWorldNew (a0 : Int) : Option (Bool × Unit) := DF X 9 ((a0, ()) : (Int) × Unit)
noncomputable def laws_eqConn (a0 : D_Conn) (a1 : D_Conn) : Option (Bool × Unit) := DF X 14 ((a0, a1, ()) : (D_Conn) × (D_Conn) × Unit)
noncomputable def laws_eqStringSS (a0 : (List (List ByteArray))) (a1 : (List (List ByteArray))) : Option (Bool × Unit) := DF X 28 ((a0, a1, ()) : ((List (List ByteArray))) × ((List (List ByteArray))) × Unit)
noncomputable def laws_eqStringSS_L0 (x0 : (List (List ByteArray))) (x1 : (List (List ByteArray))) (x5 : Int) : Option (Bool × Unit) := loopAt X 28 0 [] (mkSt 27 [(0, .sv (.lst (.sl .str) x0)), (1, .sv (.lst (.sl .str) x1)), (5, .sv (.int .i64 x5))] [(1000000, .gone), (1000001, .gone)])
noncomputable def laws_eqStringS (a0 : (List ByteArray)) (a1 : (List ByteArray)) : Option (Bool × Unit) := DF X 29 ((a0, a1, ()) : ((List ByteArray)) × ((List ByteArray)) × Unit)
noncomputable def laws_eqStringS_L0 (x0 : (List ByteArray)) (x1 : (List ByteArray)) (x5 : Int) : Option (Bool × Unit) := loopAt X 29 0 [] (mkSt 26 [(0, .sv (.lst .str x0)), (1, .sv (.lst .str x1)), (5, .sv (.int .i64 x5))] [(1000000, .gone), (1000001, .gone)])
noncomputable def laws_markStringS (a0 : (List ByteArray)) (a1 : Int) : Option (Int × ((List ByteArray) × Unit)) := DF X 30 ((a0, a1, ()) : ((List ByteArray)) × (Int) × Unit)
noncomputable def laws_markStringS_L0 (x1 : Int) (x5 : Int) (r3000000 : (List ByteArray)) : Option (Int × ((List ByteArray) × Unit)) := loopAt X 30 0 [] (mkSt 20 [(0, .sv (.own 3000000)), (1, .sv (.int .i64 x1)), (5, .sv (.int .i64 x5))] [(3000000, .live (.row .str r3000000 0))])
noncomputable def laws_markStringSS (a0 : (List (List ByteArray))) (a1 : Int) : Option (Int × ((List (List ByteArray)) × Unit)) := DF X 31 ((a0, a1, ()) : ((List (List ByteArray))) × (Int) × Unit)
noncomputable def laws_markStringSS_L0 (x1 : Int) (x5 : Int) (r3000000 : (List (List ByteArray))) : Option (Int × ((List (List ByteArray)) × Unit)) := loopAt X 31 0 [] (mkSt 19 [(0, .sv (.own 3000000)), (1, .sv (.int .i64 x1)), (5, .sv (.int .i64 x5))] [(3000000, .live (.row (.sl .str) r3000000 0))])
noncomputable def laws_heldStringSS (a0 : (List (List ByteArray))) (a1 : Int) : Option (Int × Unit) := DF X 32 ((a0, a1, ()) : ((List (List ByteArray))) × (Int) × Unit)
noncomputable def laws_heldStringSS_L0 (x0 : (List (List ByteArray))) (x1 : Int) (x5 : Int) : Option (Int × Unit) := loopAt X 32 0 [] (mkSt 21 [(0, .sv (.lst (.sl .str) x0)), (1, .sv (.int .i64 x1)), (5, .sv (.int .i64 x5))] [(1000000, .gone)])
noncomputable def laws_heldStringS (a0 : (List ByteArray)) (a1 : Int) : Option (Int × Unit) := DF X 37 ((a0, a1, ()) : ((List ByteArray)) × (Int) × Unit)
noncomputable def laws_heldStringS_L0 (x0 : (List ByteArray)) (x1 : Int) (x5 : Int) : Option (Int × Unit) := loopAt X 37 0 [] (mkSt 22 [(0, .sv (.lst .str x0)), (1, .sv (.int .i64 x1)), (5, .sv (.int .i64 x5))] [(1000000, .gone)])
noncomputable def spec_WorldNew (a0 : Int) : Option ((D_World × Bool) × Unit) := DF X 38 ((a0, ()) : (Int) × Unit)
noncomputable def impl_WorldNew (a0 : Int) : Option ((D_World × Bool) × Unit) := DF X 39 ((a0, ()) : (Int) × Unit)
noncomputable def laws_eqWorld (a0 : D_World) (a1 : D_World) : Option (Bool × Unit) := DF X 40 ((a0, a1, ()) : (D_World) × (D_World) × Unit)
noncomputable def laws_markWorld (a0 : D_World) (a1 : Int) : Option (Int × (D_World × Unit)) := DF X 41 ((a0, a1, ()) : (D_World) × (Int) × Unit)
noncomputable def laws_heldWorld (a0 : D_World) (a1 : Int) : Option (Int × Unit) := DF X 42 ((a0, a1, ()) : (D_World) × (Int) × Unit)
noncomputable def laws_markText (a0 : Int) : Option (ByteArray × Unit) := DF X 65 ((a0, ()) : (Int) × Unit)
noncomputable def laws_markText_L0 (x0 : Int) (x3 : ByteArray) : Option (ByteArray × Unit) := loopAt X 65 0 [] (mkSt 20 [(0, .sv (.int .i64 x0)), (3, .sv (.str x3))] [])
noncomputable def spec_Decimal (a0 : Int) : Option (ByteArray × Unit) := DF X 66 ((a0, ()) : (Int) × Unit)
noncomputable def spec_Decimal_L0 (x0 : Int) (x3 : Bool) (x4 : ByteArray) : Option (ByteArray × Unit) := loopAt X 66 0 [] (mkSt 30 [(0, .sv (.int .i64 x0)), (3, .sv (.bool x3)), (4, .sv (.str x4))] [])
noncomputable def spec_FormatEngine (a0 : Int) : Option ((D_Engine × Bool) × Unit) := DF X 70 ((a0, ()) : (Int) × Unit)
noncomputable def impl_FormatEngine (a0 : Int) : Option ((D_Engine × Bool) × Unit) := DF X 71 ((a0, ()) : (Int) × Unit)
noncomputable def laws_eqEngine (a0 : D_Engine) (a1 : D_Engine) : Option (Bool × Unit) := DF X 72 ((a0, a1, ()) : (D_Engine) × (D_Engine) × Unit)
noncomputable def laws_eqEntryS (a0 : (List D_Entry)) (a1 : (List D_Entry)) : Option (Bool × Unit) := DF X 73 ((a0, a1, ()) : ((List D_Entry)) × ((List D_Entry)) × Unit)
noncomputable def laws_eqEntryS_L0 (x0 : (List D_Entry)) (x1 : (List D_Entry)) (x5 : Int) : Option (Bool × Unit) := loopAt X 73 0 [] (mkSt 27 [(0, .sv (.lst T_Entry x0)), (1, .sv (.lst T_Entry x1)), (5, .sv (.int .i64 x5))] [(1000000, .gone), (1000001, .gone)])
noncomputable def laws_eqConnS (a0 : (List D_Conn)) (a1 : (List D_Conn)) : Option (Bool × Unit) := DF X 74 ((a0, a1, ()) : ((List D_Conn)) × ((List D_Conn)) × Unit)
noncomputable def laws_eqConnS_L0 (x0 : (List D_Conn)) (x1 : (List D_Conn)) (x5 : Int) : Option (Bool × Unit) := loopAt X 74 0 [] (mkSt 27 [(0, .sv (.lst T_Conn x0)), (1, .sv (.lst T_Conn x1)), (5, .sv (.int .i64 x5))] [(1000000, .gone), (1000001, .gone)])
noncomputable def laws_eqUnitS (a0 : (List D_Unit)) (a1 : (List D_Unit)) : Option (Bool × Unit) := DF X 75 ((a0, a1, ()) : ((List D_Unit)) × ((List D_Unit)) × Unit)
noncomputable def laws_eqUnitS_L0 (x0 : (List D_Unit)) (x1 : (List D_Unit)) (x5 : Int) : Option (Bool × Unit) := loopAt X 75 0 [] (mkSt 27 [(0, .sv (.lst T_Unit x0)), (1, .sv (.lst T_Unit x1)), (5, .sv (.int .i64 x5))] [(1000000, .gone), (1000001, .gone)])
noncomputable def laws_markEngine (a0 : D_Engine) (a1 : Int) : Option (Int × (D_Engine × Unit)) := DF X 76 ((a0, a1, ()) : (D_Engine) × (Int) × Unit)
noncomputable def laws_markEntryS (a0 : (List D_Entry)) (a1 : Int) : Option (Int × ((List D_Entry) × Unit)) := DF X 77 ((a0, a1, ()) : ((List D_Entry)) × (Int) × Unit)
noncomputable def laws_markEntryS_L0 (x1 : Int) (x5 : Int) (r3000000 : (List D_Entry)) : Option (Int × ((List D_Entry) × Unit)) := loopAt X 77 0 [] (mkSt 54 [(0, .sv (.own 3000000)), (1, .sv (.int .i64 x1)), (5, .sv (.int .i64 x5))] [(3000000, .live (.row T_Entry r3000000 0))])
noncomputable def laws_markEntryS_L1700000 (x1 : Int) (r3000000 : (List D_Entry)) : Option (Int × ((List D_Entry) × Unit)) := loopAt X 77 1700000 [] (mkSt 54 [(0, .sv (.own 3000000)), (1, .sv (.int .i64 x1))] [(3000000, .live (.row T_Entry r3000000 0))])
noncomputable def laws_markEntryS_L1700001 (x1 : Int) (x5 : Int) (r3000000 : (List D_Entry)) : Option (Int × ((List D_Entry) × Unit)) := loopAt X 77 1700001 [] (mkSt 54 [(0, .sv (.own 3000000)), (1, .sv (.int .i64 x1)), (5, .sv (.int .i64 x5))] [(3000000, .live (.row T_Entry r3000000 0))])
noncomputable def laws_markEntryS_L1700002 (x1 : Int) (x5 : Int) (x9 : Bool) (r3000000 : (List D_Entry)) : Option (Int × ((List D_Entry) × Unit)) := loopAt X 77 1700002 [0] (mkSt 54 [(0, .sv (.own 3000000)), (1, .sv (.int .i64 x1)), (5, .sv (.int .i64 x5)), (9, .sv (.bool x9))] [(3000000, .live (.row T_Entry r3000000 0))])
noncomputable def laws_markEntryS_L1700004 (x1 : Int) (x5 : Int) (r3000000 : (List D_Entry)) : Option (Int × ((List D_Entry) × Unit)) := loopAt X 77 1700004 [0] (mkSt 54 [(0, .sv (.own 3000000)), (1, .sv (.int .i64 x1)), (5, .sv (.int .i64 x5))] [(3000000, .live (.row T_Entry r3000000 0))])
noncomputable def laws_markEntryS_L1700013 (x4 : Int) (r3000000 : (List D_Entry)) : Option (Int × ((List D_Entry) × Unit)) := loopAt X 77 1700013 [] (mkSt 54 [(4, .sv (.int .i64 x4))] [(3000000, .live (.row T_Entry r3000000 0))])
noncomputable def laws_markConnS (a0 : (List D_Conn)) (a1 : Int) : Option (Int × ((List D_Conn) × Unit)) := DF X 78 ((a0, a1, ()) : ((List D_Conn)) × (Int) × Unit)
noncomputable def laws_markConnS_L0 (x1 : Int) (x5 : Int) (r3000000 : (List D_Conn)) : Option (Int × ((List D_Conn) × Unit)) := loopAt X 78 0 [] (mkSt 55 [(0, .sv (.own 3000000)), (1, .sv (.int .i64 x1)), (5, .sv (.int .i64 x5))] [(3000000, .live (.row T_Conn r3000000 0))])
noncomputable def laws_markConnS_L1700000 (x1 : Int) (r3000000 : (List D_Conn)) : Option (Int × ((List D_Conn) × Unit)) := loopAt X 78 1700000 [] (mkSt 55 [(0, .sv (.own 3000000)), (1, .sv (.int .i64 x1))] [(3000000, .live (.row T_Conn r3000000 0))])
noncomputable def laws_markConnS_L1700001 (x1 : Int) (x5 : Int) (r3000000 : (List D_Conn)) : Option (Int × ((List D_Conn) × Unit)) := loopAt X 78 1700001 [] (mkSt 55 [(0, .sv (.own 3000000)), (1, .sv (.int .i64 x1)), (5, .sv (.int .i64 x5))] [(3000000, .live (.row T_Conn r3000000 0))])
noncomputable def laws_markConnS_L1700002 (x1 : Int) (x5 : Int) (x9 : Bool) (r3000000 : (List D_Conn)) : Option (Int × ((List D_Conn) × Unit)) := loopAt X 78 1700002 [0] (mkSt 55 [(0, .sv (.own 3000000)), (1, .sv (.int .i64 x1)), (5, .sv (.int .i64 x5)), (9, .sv (.bool x9))] [(3000000, .live (.row T_Conn r3000000 0))])
noncomputable def laws_markConnS_L1700004 (x1 : Int) (x5 : Int) (r3000000 : (List D_Conn)) : Option (Int × ((List D_Conn) × Unit)) := loopAt X 78 1700004 [0] (mkSt 55 [(0, .sv (.own 3000000)), (1, .sv (.int .i64 x1)), (5, .sv (.int .i64 x5))] [(3000000, .live (.row T_Conn r3000000 0))])
noncomputable def laws_markConnS_L1700005 (x1 : Int) (x5 : Int) (r3000000 : (List D_Conn)) : Option (Int × ((List D_Conn) × Unit)) := loopAt X 78 1700005 [0] (mkSt 55 [(0, .sv (.own 3000000)), (1, .sv (.int .i64 x1)), (5, .sv (.int .i64 x5))] [(3000000, .live (.row T_Conn r3000000 0))])
noncomputable def laws_markConnS_L1700006 (x1 : Int) (x5 : Int) (r3000000 : (List D_Conn)) : Option (Int × ((List D_Conn) × Unit)) := loopAt X 78 1700006 [0] (mkSt 55 [(0, .sv (.own 3000000)), (1, .sv (.int .i64 x1)), (5, .sv (.int .i64 x5))] [(3000000, .live (.row T_Conn r3000000 0))])
noncomputable def laws_markConnS_L1700007 (x1 : Int) (x5 : Int) (r3000000 : (List D_Conn)) : Option (Int × ((List D_Conn) × Unit)) := loopAt X 78 1700007 [0] (mkSt 55 [(0, .sv (.own 3000000)), (1, .sv (.int .i64 x1)), (5, .sv (.int .i64 x5))] [(3000000, .live (.row T_Conn r3000000 0))])
noncomputable def laws_markConnS_L1700008 (x1 : Int) (x5 : Int) (r3000000 : (List D_Conn)) : Option (Int × ((List D_Conn) × Unit)) := loopAt X 78 1700008 [0] (mkSt 55 [(0, .sv (.own 3000000)), (1, .sv (.int .i64 x1)), (5, .sv (.int .i64 x5))] [(3000000, .live (.row T_Conn r3000000 0))])
noncomputable def laws_markConnS_L1700009 (x1 : Int) (x5 : Int) (r3000000 : (List D_Conn)) : Option (Int × ((List D_Conn) × Unit)) := loopAt X 78 1700009 [0] (mkSt 55 [(0, .sv (.own 3000000)), (1, .sv (.int .i64 x1)), (5, .sv (.int .i64 x5))] [(3000000, .live (.row T_Conn r3000000 0))])
noncomputable def laws_markConnS_L1700010 (x1 : Int) (x5 : Int) (r3000000 : (List D_Conn)) : Option (Int × ((List D_Conn) × Unit)) := loopAt X 78 1700010 [0] (mkSt 55 [(0, .sv (.own 3000000)), (1, .sv (.int .i64 x1)), (5, .sv (.int .i64 x5))] [(3000000, .live (.row T_Conn r3000000 0))])
noncomputable def laws_markConnS_L1700011 (x1 : Int) (x5 : Int) (r3000000 : (List D_Conn)) : Option (Int × ((List D_Conn) × Unit)) := loopAt X 78 1700011 [0] (mkSt 55 [(0, .sv (.own 3000000)), (1, .sv (.int .i64 x1)), (5, .sv (.int .i64 x5))] [(3000000, .live (.row T_Conn r3000000 0))])
noncomputable def laws_markConnS_L1700013 (x4 : Int) (r3000000 : (List D_Conn)) : Option (Int × ((List D_Conn) × Unit)) := loopAt X 78 1700013 [] (mkSt 55 [(4, .sv (.int .i64 x4))] [(3000000, .live (.row T_Conn r3000000 0))])
noncomputable def laws_markUnitS (a0 : (List D_Unit)) (a1 : Int) : Option (Int × ((List D_Unit) × Unit)) := DF X 79 ((a0, a1, ()) : ((List D_Unit)) × (Int) × Unit)
noncomputable def laws_markUnitS_L0 (x1 : Int) (x5 : Int) (r3000000 : (List D_Unit)) : Option (Int × ((List D_Unit) × Unit)) := loopAt X 79 0 [] (mkSt 60 [(0, .sv (.own 3000000)), (1, .sv (.int .i64 x1)), (5, .sv (.int .i64 x5))] [(3000000, .live (.row T_Unit r3000000 0))])
noncomputable def laws_markUnitS_L1700000 (x1 : Int) (r3000000 : (List D_Unit)) : Option (Int × ((List D_Unit) × Unit)) := loopAt X 79 1700000 [] (mkSt 60 [(0, .sv (.own 3000000)), (1, .sv (.int .i64 x1))] [(3000000, .live (.row T_Unit r3000000 0))])
noncomputable def laws_markUnitS_L1700001 (x1 : Int) (x5 : Int) (r3000000 : (List D_Unit)) : Option (Int × ((List D_Unit) × Unit)) := loopAt X 79 1700001 [] (mkSt 60 [(0, .sv (.own 3000000)), (1, .sv (.int .i64 x1)), (5, .sv (.int .i64 x5))] [(3000000, .live (.row T_Unit r3000000 0))])
noncomputable def laws_markUnitS_L1700002 (x1 : Int) (x5 : Int) (x9 : Bool) (r3000000 : (List D_Unit)) : Option (Int × ((List D_Unit) × Unit)) := loopAt X 79 1700002 [0] (mkSt 60 [(0, .sv (.own 3000000)), (1, .sv (.int .i64 x1)), (5, .sv (.int .i64 x5)), (9, .sv (.bool x9))] [(3000000, .live (.row T_Unit r3000000 0))])
noncomputable def laws_markUnitS_L1700004 (x1 : Int) (x5 : Int) (r3000000 : (List D_Unit)) : Option (Int × ((List D_Unit) × Unit)) := loopAt X 79 1700004 [0] (mkSt 60 [(0, .sv (.own 3000000)), (1, .sv (.int .i64 x1)), (5, .sv (.int .i64 x5))] [(3000000, .live (.row T_Unit r3000000 0))])
noncomputable def laws_markUnitS_L1700015 (x4 : Int) (r3000000 : (List D_Unit)) : Option (Int × ((List D_Unit) × Unit)) := loopAt X 79 1700015 [] (mkSt 60 [(4, .sv (.int .i64 x4))] [(3000000, .live (.row T_Unit r3000000 0))])
noncomputable def laws_heldEngine (a0 : D_Engine) (a1 : Int) : Option (Int × Unit) := DF X 80 ((a0, a1, ()) : (D_Engine) × (Int) × Unit)
noncomputable def laws_heldEntryS (a0 : (List D_Entry)) (a1 : Int) : Option (Int × Unit) := DF X 81 ((a0, a1, ()) : ((List D_Entry)) × (Int) × Unit)
noncomputable def laws_heldEntryS_L0 (x0 : (List D_Entry)) (x1 : Int) (x5 : Int) : Option (Int × Unit) := loopAt X 81 0 [] (mkSt 64 [(0, .sv (.lst T_Entry x0)), (1, .sv (.int .i64 x1)), (5, .sv (.int .i64 x5))] [(1000000, .gone)])
noncomputable def laws_heldConnS (a0 : (List D_Conn)) (a1 : Int) : Option (Int × Unit) := DF X 82 ((a0, a1, ()) : ((List D_Conn)) × (Int) × Unit)
noncomputable def laws_heldConnS_L0 (x0 : (List D_Conn)) (x1 : Int) (x5 : Int) : Option (Int × Unit) := loopAt X 82 0 [] (mkSt 65 [(0, .sv (.lst T_Conn x0)), (1, .sv (.int .i64 x1)), (5, .sv (.int .i64 x5))] [(1000000, .gone)])
noncomputable def laws_heldUnitS (a0 : (List D_Unit)) (a1 : Int) : Option (Int × Unit) := DF X 83 ((a0, a1, ()) : ((List D_Unit)) × (Int) × Unit)
noncomputable def laws_heldUnitS_L0 (x0 : (List D_Unit)) (x1 : Int) (x5 : Int) : Option (Int × Unit) := loopAt X 83 0 [] (mkSt 72 [(0, .sv (.lst T_Unit x0)), (1, .sv (.int .i64 x1)), (5, .sv (.int .i64 x5))] [(1000000, .gone)])
noncomputable def spec_l01Figure (a0 : Int) : Option (Int × Unit) := DF X 92 ((a0, ()) : (Int) × Unit)
noncomputable def spec_l01In (a0 : Int) (a1 : Int) (a2 : Int) : Option (Bool × Unit) := DF X 99 ((a0, a1, a2, ()) : (Int) × (Int) × (Int) × Unit)
noncomputable def spec_HeadText (a0 : Int) (a1 : Int) : Option ((ByteArray × Bool) × Unit) := DF X 100 ((a0, a1, ()) : (Int) × (Int) × Unit)
noncomputable def spec_SegName (a0 : Int) : Option (ByteArray × Unit) := DF X 101 ((a0, ()) : (Int) × Unit)
noncomputable def impl_within (a0 : Int) (a1 : Int) (a2 : Int) : Option (Bool × Unit) := DF X 102 ((a0, a1, a2, ()) : (Int) × (Int) × (Int) × Unit)
noncomputable def impl_HeadText (a0 : Int) (a1 : Int) : Option ((ByteArray × Bool) × Unit) := DF X 103 ((a0, a1, ()) : (Int) × (Int) × Unit)
noncomputable def impl_SegName (a0 : Int) : Option (ByteArray × Unit) := DF X 104 ((a0, ()) : (Int) × Unit)
noncomputable def laws_eqDisk (a0 : D_Disk) (a1 : D_Disk) : Option (Bool × Unit) := DF X 105 ((a0, a1, ()) : (D_Disk) × (D_Disk) × Unit)
noncomputable def laws_eqSpotS (a0 : (List D_Spot)) (a1 : (List D_Spot)) : Option (Bool × Unit) := DF X 106 ((a0, a1, ()) : ((List D_Spot)) × ((List D_Spot)) × Unit)
noncomputable def laws_eqSpotS_L0 (x0 : (List D_Spot)) (x1 : (List D_Spot)) (x5 : Int) : Option (Bool × Unit) := loopAt X 106 0 [] (mkSt 27 [(0, .sv (.lst T_Spot x0)), (1, .sv (.lst T_Spot x1)), (5, .sv (.int .i64 x5))] [(1000000, .gone), (1000001, .gone)])
noncomputable def laws_eqEntry (a0 : D_Entry) (a1 : D_Entry) : Option (Bool × Unit) := DF X 107 ((a0, a1, ()) : (D_Entry) × (D_Entry) × Unit)
noncomputable def laws_eqUnit (a0 : D_Unit) (a1 : D_Unit) : Option (Bool × Unit) := DF X 108 ((a0, a1, ()) : (D_Unit) × (D_Unit) × Unit)
noncomputable def laws_markDisk (a0 : D_Disk) (a1 : Int) : Option (Int × (D_Disk × Unit)) := DF X 109 ((a0, a1, ()) : (D_Disk) × (Int) × Unit)
noncomputable def laws_markSpotS (a0 : (List D_Spot)) (a1 : Int) : Option (Int × ((List D_Spot) × Unit)) := DF X 110 ((a0, a1, ()) : ((List D_Spot)) × (Int) × Unit)
noncomputable def laws_markSpotS_L0 (x1 : Int) (x5 : Int) (r3000000 : (List D_Spot)) : Option (Int × ((List D_Spot) × Unit)) := loopAt X 110 0 [] (mkSt 42 [(0, .sv (.own 3000000)), (1, .sv (.int .i64 x1)), (5, .sv (.int .i64 x5))] [(3000000, .live (.row T_Spot r3000000 0))])
noncomputable def laws_markSpotS_L1700000 (x1 : Int) (r3000000 : (List D_Spot)) : Option (Int × ((List D_Spot) × Unit)) := loopAt X 110 1700000 [] (mkSt 42 [(0, .sv (.own 3000000)), (1, .sv (.int .i64 x1))] [(3000000, .live (.row T_Spot r3000000 0))])
noncomputable def laws_markSpotS_L1700001 (x1 : Int) (x5 : Int) (r3000000 : (List D_Spot)) : Option (Int × ((List D_Spot) × Unit)) := loopAt X 110 1700001 [] (mkSt 42 [(0, .sv (.own 3000000)), (1, .sv (.int .i64 x1)), (5, .sv (.int .i64 x5))] [(3000000, .live (.row T_Spot r3000000 0))])
noncomputable def laws_markSpotS_L1700002 (x1 : Int) (x5 : Int) (x9 : Bool) (r3000000 : (List D_Spot)) : Option (Int × ((List D_Spot) × Unit)) := loopAt X 110 1700002 [0] (mkSt 42 [(0, .sv (.own 3000000)), (1, .sv (.int .i64 x1)), (5, .sv (.int .i64 x5)), (9, .sv (.bool x9))] [(3000000, .live (.row T_Spot r3000000 0))])
noncomputable def laws_markSpotS_L1700004 (x1 : Int) (x5 : Int) (r3000000 : (List D_Spot)) : Option (Int × ((List D_Spot) × Unit)) := loopAt X 110 1700004 [0] (mkSt 42 [(0, .sv (.own 3000000)), (1, .sv (.int .i64 x1)), (5, .sv (.int .i64 x5))] [(3000000, .live (.row T_Spot r3000000 0))])
noncomputable def laws_markSpotS_L1700012 (x4 : Int) (r3000000 : (List D_Spot)) : Option (Int × ((List D_Spot) × Unit)) := loopAt X 110 1700012 [] (mkSt 42 [(4, .sv (.int .i64 x4))] [(3000000, .live (.row T_Spot r3000000 0))])
noncomputable def laws_heldDisk (a0 : D_Disk) (a1 : Int) : Option (Int × Unit) := DF X 111 ((a0, a1, ()) : (D_Disk) × (Int) × Unit)
noncomputable def laws_heldSpotS (a0 : (List D_Spot)) (a1 : Int) : Option (Int × Unit) := DF X 112 ((a0, a1, ()) : ((List D_Spot)) × (Int) × Unit)
noncomputable def laws_heldSpotS_L0 (x0 : (List D_Spot)) (x1 : Int) (x5 : Int) : Option (Int × Unit) := loopAt X 112 0 [] (mkSt 50 [(0, .sv (.lst T_Spot x0)), (1, .sv (.int .i64 x1)), (5, .sv (.int .i64 x5))] [(1000000, .gone)])
noncomputable def spec_Frame (a0 : ByteArray) : Option ((ByteArray × Bool) × Unit) := DF X 119 ((a0, ()) : (ByteArray) × Unit)
noncomputable def spec_l01Var (a0 : Int) : Option (ByteArray × Unit) := DF X 120 ((a0, ()) : (Int) × Unit)
noncomputable def spec_l01Var_L0 (x0 : Int) (x3 : (List Int)) : Option (ByteArray × Unit) := loopAt X 120 0 [] (mkSt 22 [(0, .sv (.int .i64 x0)), (3, .sv (.own 1000003))] [(1000003, .live (.row (.int .u8) x3 0))])
noncomputable def impl_vars (a0 : (List Int)) : Option ((ByteArray × Bool) × Unit) := DF X 121 ((a0, ()) : ((List Int)) × Unit)
noncomputable def impl_vars_L0 (x4 : (List Int)) (x9 : (List Int)) (x10 : Int) (x11 : Int) : Option ((ByteArray × Bool) × Unit) := loopAt X 121 0 [] (mkSt 28 [(4, .sv (.own 1000004)), (9, .sv (.lst I x9)), (10, .sv (.int .i64 x10)), (11, .sv (.int .i64 x11))] [(1000004, .live (.row (.int .u8) x4 0)), (1000009, .gone)])
noncomputable def impl_Frame (a0 : ByteArray) : Option ((ByteArray × Bool) × Unit) := DF X 122 ((a0, ()) : (ByteArray) × Unit)
noncomputable def impl_Decimal (a0 : Int) : Option (ByteArray × Unit) := DF X 123 ((a0, ()) : (Int) × Unit)
noncomputable def laws_eqFileS (a0 : D_Disk) (a1 : D_Disk) : Option (Bool × Unit) := DF X 124 ((a0, a1, ()) : (D_Disk) × (D_Disk) × Unit)
noncomputable def laws_eqFileS_L0 (x0 : D_Disk) (x1 : D_Disk) (x5 : Int) : Option (Bool × Unit) := loopAt X 124 0 [] (mkSt 27 [(0, .sv (.lst T_File x0)), (1, .sv (.lst T_File x1)), (5, .sv (.int .i64 x5))] [(1000000, .gone), (1000001, .gone)])
noncomputable def laws_eqSpot (a0 : D_Spot) (a1 : D_Spot) : Option (Bool × Unit) := DF X 125 ((a0, a1, ()) : (D_Spot) × (D_Spot) × Unit)
noncomputable def laws_markFileS (a0 : D_Disk) (a1 : Int) : Option (Int × (D_Disk × Unit)) := DF X 127 ((a0, a1, ()) : (D_Disk) × (Int) × Unit)
noncomputable def laws_markFileS_L0 (x1 : Int) (x5 : Int) (r3000000 : D_Disk) : Option (Int × (D_Disk × Unit)) := loopAt X 127 0 [] (mkSt 36 [(0, .sv (.own 3000000)), (1, .sv (.int .i64 x1)), (5, .sv (.int .i64 x5))] [(3000000, .live (.row T_File r3000000 0))])
noncomputable def laws_markFileS_L1700000 (x1 : Int) (r3000000 : D_Disk) : Option (Int × (D_Disk × Unit)) := loopAt X 127 1700000 [] (mkSt 36 [(0, .sv (.own 3000000)), (1, .sv (.int .i64 x1))] [(3000000, .live (.row T_File r3000000 0))])
noncomputable def laws_markFileS_L1700001 (x1 : Int) (x5 : Int) (r3000000 : D_Disk) : Option (Int × (D_Disk × Unit)) := loopAt X 127 1700001 [] (mkSt 36 [(0, .sv (.own 3000000)), (1, .sv (.int .i64 x1)), (5, .sv (.int .i64 x5))] [(3000000, .live (.row T_File r3000000 0))])
noncomputable def laws_markFileS_L1700002 (x1 : Int) (x5 : Int) (x9 : Bool) (r3000000 : D_Disk) : Option (Int × (D_Disk × Unit)) := loopAt X 127 1700002 [0] (mkSt 36 [(0, .sv (.own 3000000)), (1, .sv (.int .i64 x1)), (5, .sv (.int .i64 x5)), (9, .sv (.bool x9))] [(3000000, .live (.row T_File r3000000 0))])
noncomputable def laws_markFileS_L1700004 (x1 : Int) (x5 : Int) (r3000000 : D_Disk) : Option (Int × (D_Disk × Unit)) := loopAt X 127 1700004 [0] (mkSt 36 [(0, .sv (.own 3000000)), (1, .sv (.int .i64 x1)), (5, .sv (.int .i64 x5))] [(3000000, .live (.row T_File r3000000 0))])
noncomputable def laws_markFileS_L1700005 (x1 : Int) (x5 : Int) (r3000000 : D_Disk) : Option (Int × (D_Disk × Unit)) := loopAt X 127 1700005 [0] (mkSt 36 [(0, .sv (.own 3000000)), (1, .sv (.int .i64 x1)), (5, .sv (.int .i64 x5))] [(3000000, .live (.row T_File r3000000 0))])
noncomputable def laws_markFileS_L1700006 (x1 : Int) (x5 : Int) (r3000000 : D_Disk) : Option (Int × (D_Disk × Unit)) := loopAt X 127 1700006 [0] (mkSt 36 [(0, .sv (.own 3000000)), (1, .sv (.int .i64 x1)), (5, .sv (.int .i64 x5))] [(3000000, .live (.row T_File r3000000 0))])
noncomputable def laws_markFileS_L1700007 (x1 : Int) (x5 : Int) (r3000000 : D_Disk) : Option (Int × (D_Disk × Unit)) := loopAt X 127 1700007 [0] (mkSt 36 [(0, .sv (.own 3000000)), (1, .sv (.int .i64 x1)), (5, .sv (.int .i64 x5))] [(3000000, .live (.row T_File r3000000 0))])
noncomputable def laws_markFileS_L1700008 (x1 : Int) (x5 : Int) (r3000000 : D_Disk) : Option (Int × (D_Disk × Unit)) := loopAt X 127 1700008 [0] (mkSt 36 [(0, .sv (.own 3000000)), (1, .sv (.int .i64 x1)), (5, .sv (.int .i64 x5))] [(3000000, .live (.row T_File r3000000 0))])
noncomputable def laws_markFileS_L1700010 (x4 : Int) (r3000000 : D_Disk) : Option (Int × (D_Disk × Unit)) := loopAt X 127 1700010 [] (mkSt 36 [(4, .sv (.int .i64 x4))] [(3000000, .live (.row T_File r3000000 0))])
noncomputable def laws_heldFileS (a0 : D_Disk) (a1 : Int) : Option (Int × Unit) := DF X 128 ((a0, a1, ()) : (D_Disk) × (Int) × Unit)
noncomputable def laws_heldFileS_L0 (x0 : D_Disk) (x1 : Int) (x5 : Int) : Option (Int × Unit) := loopAt X 128 0 [] (mkSt 42 [(0, .sv (.lst T_File x0)), (1, .sv (.int .i64 x1)), (5, .sv (.int .i64 x5))] [(1000000, .gone)])
noncomputable def spec_l02Four (a0 : Int) : Option (ByteArray × Unit) := DF X 135 ((a0, ()) : (Int) × Unit)
noncomputable def spec_SumOf (a0 : ByteArray) : Option (Int × Unit) := DF X 136 ((a0, ()) : (ByteArray) × Unit)
noncomputable def impl_VarText (a0 : Int) : Option ((ByteArray × Bool) × Unit) := DF X 137 ((a0, ()) : (Int) × Unit)
noncomputable def impl_VarText_L0 (x0 : Int) (x4 : (List Int)) : Option ((ByteArray × Bool) × Unit) := loopAt X 137 0 [] (mkSt 25 [(0, .sv (.int .i64 x0)), (4, .sv (.own 1000004))] [(1000004, .live (.row (.int .u8) x4 0))])
noncomputable def impl_SumOf (a0 : ByteArray) : Option (Int × Unit) := DF X 138 ((a0, ()) : (ByteArray) × Unit)
noncomputable def laws_eqFile (a0 : D_File) (a1 : D_File) : Option (Bool × Unit) := DF X 140 ((a0, a1, ()) : (D_File) × (D_File) × Unit)
noncomputable def spec_SumMore (a0 : Int) (a1 : ByteArray) : Option (Int × Unit) := DF X 147 ((a0, a1, ()) : (Int) × (ByteArray) × Unit)
noncomputable def spec_SumMore_L0 (x0 : Int) (x1 : ByteArray) (x5 : Int) : Option (Int × Unit) := loopAt X 147 0 [] (mkSt 33 [(0, .sv (.int .u32 x0)), (1, .sv (.str x1)), (5, .sv (.int .i64 x5))] [])
noncomputable def spec_SumMore_L2 (x0 : Int) (x1 : ByteArray) (x5 : Int) (x6 : Int) : Option (Int × Unit) := loopAt X 147 2 [0] (mkSt 33 [(0, .sv (.int .u32 x0)), (1, .sv (.str x1)), (5, .sv (.int .i64 x5)), (6, .sv (.int .i64 x6))] [])
noncomputable def impl_SumMore (a0 : Int) (a1 : ByteArray) : Option (Int × Unit) := DF X 148 ((a0, a1, ()) : (Int) × (ByteArray) × Unit)
noncomputable def impl_SumMore_L0 (x0 : Int) (x1 : ByteArray) (x5 : Int) : Option (Int × Unit) := loopAt X 148 0 [] (mkSt 33 [(0, .sv (.int .u32 x0)), (1, .sv (.str x1)), (5, .sv (.int .i64 x5))] [])
noncomputable def impl_SumMore_L2 (x0 : Int) (x1 : ByteArray) (x5 : Int) (x6 : Int) : Option (Int × Unit) := loopAt X 148 2 [0] (mkSt 33 [(0, .sv (.int .u32 x0)), (1, .sv (.str x1)), (5, .sv (.int .i64 x5)), (6, .sv (.int .i64 x6))] [])
end Go.Den.S
