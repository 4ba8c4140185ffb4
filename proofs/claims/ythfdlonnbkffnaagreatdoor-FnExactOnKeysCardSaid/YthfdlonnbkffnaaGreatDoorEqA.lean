/- EqA: equations of the functions of this seat as the executor tells them, or plain facts about them. Conditions: none here. -/
import Derived.Test.YthfdlonnbkffnaaGreatDoorTabD
import Derived.KernelRfl
import Derived.Lib.FieldsLaws
import Derived.Lib.Bytealg
import Derived.Lib.AtoiAll
import Derived.Lib.ItoaNum
set_option linter.all false
set_option linter.unusedSimpArgs false
set_option linter.unusedVariables false
namespace Go.Den.S
open Go Go.Den Go.Proofs
set_option linter.unusedVariables false
def H (v : Nat) : Nat → Hint := (bif Nat.ble v 60
  then (bif Nat.ble v 31
  then (bif Nat.ble v 19
  then (bif Nat.ble v 14
  then (bif Nat.ble v 12
  then (bif Nat.ble v 11
  then (bif Nat.beq v 11 then (fun bid => bif Nat.beq bid 0 then ⟨[(0, .lst T_Entry), (1, .v), (5, .v)], [], []⟩ else ⟨[], [], []⟩) else (fun _ => ⟨[], [], []⟩))
  else (bif Nat.beq v 12 then (fun bid => bif Nat.beq bid 0 then ⟨[(0, .lst .str), (1, .v), (5, .v)], [], []⟩ else ⟨[], [], []⟩) else (fun _ => ⟨[], [], []⟩)))
  else (bif Nat.ble v 13
  then (bif Nat.beq v 13 then (fun bid => bif Nat.beq bid 1 then ⟨[(0, .lst T_Entry), (1, .lst .str), (7, .v), (8, .v), (10, .v), (11, .v)], [], [(4192, [(0, .v), (1, .v), (2, .v), (3, .row .str)])]⟩ else bif Nat.beq bid 3 then ⟨[(0, .lst T_Entry), (1, .lst .str), (7, .v), (8, .v), (10, .v), (14, .v)], [], [(4192, [(0, .v), (1, .v), (2, .v), (3, .row .str)])]⟩ else ⟨[], [], []⟩) else (fun _ => ⟨[], [], []⟩))
  else (bif Nat.beq v 14 then (fun bid => bif Nat.beq bid 0 then ⟨[(0, .lst T_Entry), (3, .row T_Entry), (4, .v)], [], []⟩ else ⟨[], [], []⟩) else (fun _ => ⟨[], [], []⟩))))
  else (bif Nat.ble v 17
  then (bif Nat.ble v 15
  then (bif Nat.beq v 15 then (fun bid => bif Nat.beq bid 0 then ⟨[(0, .lst .str), (3, .row .str), (4, .v)], [], []⟩ else ⟨[], [], []⟩) else (fun _ => ⟨[], [], []⟩))
  else (bif Nat.beq v 17 then (fun bid => bif Nat.beq bid 0 then ⟨[(0, .lst T_Entry), (1, .lst T_Entry), (5, .v)], [], []⟩ else ⟨[], [], []⟩) else (fun _ => ⟨[], [], []⟩)))
  else (bif Nat.ble v 18
  then (bif Nat.beq v 18 then (fun bid => bif Nat.beq bid 0 then ⟨[(0, .lst .str), (1, .lst .str), (5, .v)], [], []⟩ else ⟨[], [], []⟩) else (fun _ => ⟨[], [], []⟩))
  else (bif Nat.beq v 19 then (fun bid => bif Nat.beq bid 0 then ⟨[(0, .v), (1, .v), (5, .v)], [], [(3000000, [])]⟩ else bif Nat.beq bid 1700000 then ⟨[(0, .v), (1, .v)], [], [(3000000, [])]⟩ else bif Nat.beq bid 1700001 then ⟨[(0, .v), (1, .v), (5, .v)], [], [(3000000, [])]⟩ else bif Nat.beq bid 1700002 then ⟨[(0, .v), (1, .v), (5, .v), (9, .v)], [], [(3000000, [])]⟩ else bif Nat.beq bid 1700004 then ⟨[(0, .v), (1, .v), (5, .v)], [], [(3000000, [])]⟩ else bif Nat.beq bid 1700005 then ⟨[(0, .v), (1, .v), (5, .v)], [], [(3000000, [])]⟩ else bif Nat.beq bid 1700006 then ⟨[(0, .v), (1, .v), (5, .v)], [], [(3000000, [])]⟩ else bif Nat.beq bid 1700007 then ⟨[(0, .v), (1, .v), (5, .v)], [], [(3000000, [])]⟩ else bif Nat.beq bid 1700008 then ⟨[(0, .v), (1, .v), (5, .v)], [], [(3000000, [])]⟩ else bif Nat.beq bid 1700009 then ⟨[(0, .v), (1, .v), (5, .v)], [], [(3000000, [])]⟩ else bif Nat.beq bid 1700010 then ⟨[(0, .v), (1, .v), (5, .v)], [], [(3000000, [])]⟩ else bif Nat.beq bid 1700011 then ⟨[(0, .v), (1, .v), (5, .v)], [], [(3000000, [])]⟩ else bif Nat.beq bid 1700013 then ⟨[(4, .v)], [], [(3000000, [])]⟩ else bif Nat.beq bid 2700000 then ⟨[(0, .v)], [], []⟩ else bif Nat.beq bid 2700001 then ⟨[(0, .v)], [], []⟩ else bif Nat.beq bid 2700002 then ⟨[(0, .v)], [], []⟩ else bif Nat.beq bid 2700004 then ⟨[(0, .v)], [], []⟩ else bif Nat.beq bid 2700005 then ⟨[(0, .v)], [], []⟩ else bif Nat.beq bid 2700006 then ⟨[(0, .v)], [], []⟩ else bif Nat.beq bid 2700007 then ⟨[(0, .v)], [], []⟩ else bif Nat.beq bid 2700008 then ⟨[(0, .v)], [], []⟩ else bif Nat.beq bid 2700009 then ⟨[(0, .v)], [], []⟩ else bif Nat.beq bid 2700010 then ⟨[(0, .v)], [], []⟩ else bif Nat.beq bid 2700011 then ⟨[(0, .v)], [], []⟩ else bif Nat.beq bid 2700013 then ⟨[(0, .v)], [], []⟩ else ⟨[], [], []⟩) else (fun _ => ⟨[], [], []⟩)))))
  else (bif Nat.ble v 24
  then (bif Nat.ble v 21
  then (bif Nat.ble v 20
  then (bif Nat.beq v 20 then (fun bid => bif Nat.beq bid 0 then ⟨[(0, .v), (1, .v), (5, .v)], [], [(3000000, [])]⟩ else ⟨[], [], []⟩) else (fun _ => ⟨[], [], []⟩))
  else (bif Nat.beq v 21 then (fun bid => bif Nat.beq bid 0 then ⟨[(0, .lst T_Entry), (1, .v), (5, .v)], [], []⟩ else ⟨[], [], []⟩) else (fun _ => ⟨[], [], []⟩)))
  else (bif Nat.ble v 22
  then (bif Nat.beq v 22 then (fun bid => bif Nat.beq bid 1 then ⟨[(0, .lst T_Entry), (1, .lst .str), (7, .v), (8, .v), (15, .v), (16, .v)], [], [(4192, [(0, .v), (1, .v), (2, .v), (3, .row .str)])]⟩ else bif Nat.beq bid 3 then ⟨[(0, .lst T_Entry), (8, .v), (19, .row .str), (20, .v)], [], [(4192, [(0, .v), (1, .v), (2, .v), (3, .row .str)])]⟩ else ⟨[], [], []⟩) else (fun _ => ⟨[], [], []⟩))
  else (bif Nat.beq v 24 then (fun bid => bif Nat.beq bid 1 then ⟨[(0, .lst T_Entry), (1, .lst .str), (7, .v), (8, .v), (11, .v)], [], [(4192, [(0, .v), (1, .v), (2, .v), (3, .row .str)])]⟩ else ⟨[], [], []⟩) else (fun _ => ⟨[], [], []⟩))))
  else (bif Nat.ble v 27
  then (bif Nat.ble v 26
  then (bif Nat.beq v 26 then (fun bid => bif Nat.beq bid 1 then ⟨[(0, .lst T_Entry), (11, .row .str), (12, .v)], [], []⟩ else ⟨[], [], []⟩) else (fun _ => ⟨[], [], []⟩))
  else (bif Nat.beq v 27 then (fun bid => bif Nat.beq bid 1 then ⟨[(0, .lst T_Entry), (9, .v), (12, .row .str), (46, .lst T_Entry), (47, .v), (48, .v)], [], [(1056, [(0, .row (.pr .str (.pr I (.pr I (.pr .str (.ls .str)))))), (1, .v), (2, .v)])]⟩ else ⟨[], [], []⟩) else (fun _ => ⟨[], [], []⟩)))
  else (bif Nat.ble v 30
  then (bif Nat.beq v 30 then (fun bid => bif Nat.beq bid 0 then ⟨[(0, .lst (.sl .str)), (1, .v), (5, .v)], [], []⟩ else ⟨[], [], []⟩) else (fun _ => ⟨[], [], []⟩))
  else (bif Nat.beq v 31 then (fun bid => bif Nat.beq bid 0 then ⟨[(1, .v), (2, .lst (.sl .str)), (8, .row T_Entry), (9, .row .str), (10, .v)], [], []⟩ else ⟨[], [], []⟩) else (fun _ => ⟨[], [], []⟩))))))
  else (bif Nat.ble v 41
  then (bif Nat.ble v 35
  then (bif Nat.ble v 33
  then (bif Nat.ble v 32
  then (bif Nat.beq v 32 then (fun bid => bif Nat.beq bid 0 then ⟨[(0, .lst (.sl .str)), (3, .row (.sl .str)), (4, .v)], [], []⟩ else ⟨[], [], []⟩) else (fun _ => ⟨[], [], []⟩))
  else (bif Nat.beq v 33 then (fun bid => bif Nat.beq bid 0 then ⟨[(1, .v), (2, .lst (.sl .str)), (8, .row T_Entry), (9, .row .str), (10, .v)], [], []⟩ else ⟨[], [], []⟩) else (fun _ => ⟨[], [], []⟩)))
  else (bif Nat.ble v 34
  then (bif Nat.beq v 34 then (fun bid => bif Nat.beq bid 0 then ⟨[(0, .lst (.sl .str)), (1, .lst (.sl .str)), (5, .v)], [], []⟩ else ⟨[], [], []⟩) else (fun _ => ⟨[], [], []⟩))
  else (bif Nat.beq v 35 then (fun bid => bif Nat.beq bid 0 then ⟨[(0, .v), (1, .v), (5, .v)], [], [(3000000, [])]⟩ else ⟨[], [], []⟩) else (fun _ => ⟨[], [], []⟩))))
  else (bif Nat.ble v 39
  then (bif Nat.ble v 36
  then (bif Nat.beq v 36 then (fun bid => bif Nat.beq bid 0 then ⟨[(0, .lst .str), (1, .v), (5, .v)], [], []⟩ else ⟨[], [], []⟩) else (fun _ => ⟨[], [], []⟩))
  else (bif Nat.beq v 39 then (fun bid => bif Nat.beq bid 0 then ⟨[(0, .lst T_Unit), (1, .v), (5, .v)], [], []⟩ else ⟨[], [], []⟩) else (fun _ => ⟨[], [], []⟩)))
  else (bif Nat.ble v 40
  then (bif Nat.beq v 40 then (fun bid => bif Nat.beq bid 0 then ⟨[(0, .lst T_Unit), (4, .row T_Entry), (5, .v)], [], []⟩ else ⟨[], [], []⟩) else (fun _ => ⟨[], [], []⟩))
  else (bif Nat.beq v 41 then (fun bid => bif Nat.beq bid 0 then ⟨[(0, .lst T_Unit), (3, .row T_Unit), (4, .v)], [], []⟩ else ⟨[], [], []⟩) else (fun _ => ⟨[], [], []⟩)))))
  else (bif Nat.ble v 49
  then (bif Nat.ble v 43
  then (bif Nat.ble v 42
  then (bif Nat.beq v 42 then (fun bid => bif Nat.beq bid 0 then ⟨[(4, .row T_Entry), (9, .lst T_Unit), (10, .v), (11, .v)], [], []⟩ else ⟨[], [], []⟩) else (fun _ => ⟨[], [], []⟩))
  else (bif Nat.beq v 43 then (fun bid => bif Nat.beq bid 0 then ⟨[(0, .lst T_Unit), (1, .lst T_Unit), (5, .v)], [], []⟩ else ⟨[], [], []⟩) else (fun _ => ⟨[], [], []⟩)))
  else (bif Nat.ble v 44
  then (bif Nat.beq v 44 then (fun bid => bif Nat.beq bid 0 then ⟨[(0, .v), (1, .v), (5, .v)], [], [(3000000, [])]⟩ else bif Nat.beq bid 1700000 then ⟨[(0, .v), (1, .v)], [], [(3000000, [])]⟩ else bif Nat.beq bid 1700001 then ⟨[(0, .v), (1, .v), (5, .v)], [], [(3000000, [])]⟩ else bif Nat.beq bid 1700002 then ⟨[(0, .v), (1, .v), (5, .v), (9, .v)], [], [(3000000, [])]⟩ else bif Nat.beq bid 1700004 then ⟨[(0, .v), (1, .v), (5, .v)], [], [(3000000, [])]⟩ else bif Nat.beq bid 1700005 then ⟨[(0, .v), (1, .v), (5, .v)], [], [(3000000, [])]⟩ else bif Nat.beq bid 1700006 then ⟨[(0, .v), (1, .v), (5, .v)], [], [(3000000, [])]⟩ else bif Nat.beq bid 1700007 then ⟨[(0, .v), (1, .v), (5, .v)], [], [(3000000, [])]⟩ else bif Nat.beq bid 1700008 then ⟨[(0, .v), (1, .v), (5, .v)], [], [(3000000, [])]⟩ else bif Nat.beq bid 1700009 then ⟨[(0, .v), (1, .v), (5, .v)], [], [(3000000, [])]⟩ else bif Nat.beq bid 1700010 then ⟨[(0, .v), (1, .v), (5, .v)], [], [(3000000, [])]⟩ else bif Nat.beq bid 1700011 then ⟨[(0, .v), (1, .v), (5, .v)], [], [(3000000, [])]⟩ else bif Nat.beq bid 1700012 then ⟨[(0, .v), (1, .v), (5, .v)], [], [(3000000, [])]⟩ else bif Nat.beq bid 1700013 then ⟨[(0, .v), (1, .v), (5, .v)], [], [(3000000, [])]⟩ else bif Nat.beq bid 1700015 then ⟨[(4, .v)], [], [(3000000, [])]⟩ else bif Nat.beq bid 2700000 then ⟨[(0, .v)], [], []⟩ else bif Nat.beq bid 2700001 then ⟨[(0, .v)], [], []⟩ else bif Nat.beq bid 2700002 then ⟨[(0, .v)], [], []⟩ else bif Nat.beq bid 2700004 then ⟨[(0, .v)], [], []⟩ else bif Nat.beq bid 2700005 then ⟨[(0, .v)], [], []⟩ else bif Nat.beq bid 2700006 then ⟨[(0, .v)], [], []⟩ else bif Nat.beq bid 2700007 then ⟨[(0, .v)], [], []⟩ else bif Nat.beq bid 2700008 then ⟨[(0, .v)], [], []⟩ else bif Nat.beq bid 2700009 then ⟨[(0, .v)], [], []⟩ else bif Nat.beq bid 2700010 then ⟨[(0, .v)], [], []⟩ else bif Nat.beq bid 2700011 then ⟨[(0, .v)], [], []⟩ else bif Nat.beq bid 2700012 then ⟨[(0, .v)], [], []⟩ else bif Nat.beq bid 2700013 then ⟨[(0, .v)], [], []⟩ else bif Nat.beq bid 2700015 then ⟨[(0, .v)], [], []⟩ else ⟨[], [], []⟩) else (fun _ => ⟨[], [], []⟩))
  else (bif Nat.beq v 49 then (fun bid => bif Nat.beq bid 0 then ⟨[(3, .row (.int .u8)), (4, .v)], [], []⟩ else ⟨[], [], []⟩) else (fun _ => ⟨[], [], []⟩))))
  else (bif Nat.ble v 55
  then (bif Nat.ble v 50
  then (bif Nat.beq v 50 then (fun bid => bif Nat.beq bid 0 then ⟨[(0, .lst .str), (1, .v), (2, .v), (8, .v)], [], []⟩ else ⟨[], [], []⟩) else (fun _ => ⟨[], [], []⟩))
  else (bif Nat.beq v 55 then (fun bid => bif Nat.beq bid 0 then ⟨[(0, .lst T_Entry), (3, .row T_Entry), (4, .v)], [], []⟩ else ⟨[], [], []⟩) else (fun _ => ⟨[], [], []⟩)))
  else (bif Nat.ble v 56
  then (bif Nat.beq v 56 then (fun bid => bif Nat.beq bid 0 then ⟨[(0, .lst .str), (3, .row .str), (4, .v)], [], []⟩ else ⟨[], [], []⟩) else (fun _ => ⟨[], [], []⟩))
  else (bif Nat.ble v 59
  then (bif Nat.beq v 59 then (fun bid => bif Nat.beq bid 1 then ⟨[(0, .v), (2, .v), (8, .v), (10, .v), (39, .lst .str), (40, .v), (41, .v)], [], [(3000000, [(0, .row (.pr .str (.pr I (.pr I (.pr .str (.ls .str)))))), (1, .v), (2, .v)]), (1120, [(0, .v), (1, .v), (2, .v), (3, .row .str)])]⟩ else ⟨[], [], []⟩) else (fun _ => ⟨[], [], []⟩))
  else (bif Nat.beq v 60 then (fun bid => bif Nat.beq bid 0 then ⟨[(3, .v), (8, .v), (9, .v), (10, .v)], [], [(1040, [])]⟩ else ⟨[], [], []⟩) else (fun _ => ⟨[], [], []⟩))))))))
  else (bif Nat.ble v 104
  then (bif Nat.ble v 84
  then (bif Nat.ble v 73
  then (bif Nat.ble v 66
  then (bif Nat.ble v 63
  then (bif Nat.beq v 63 then (fun bid => bif Nat.beq bid 0 then ⟨[(0, .v), (3, .v)], [], []⟩ else ⟨[], [], []⟩) else (fun _ => ⟨[], [], []⟩))
  else (bif Nat.beq v 66 then (fun bid => bif Nat.beq bid 1 then ⟨[(0, .v), (2, .v), (8, .v), (14, .v), (106, .lst .str), (107, .v), (108, .v)], [], [(3000000, [(0, .row (.pr .str (.pr I (.pr I (.pr .str (.ls .str)))))), (1, .v), (2, .v)]), (96, [(0, .v), (1, .v), (2, .v), (3, .row .str)])]⟩ else ⟨[], [], []⟩) else (fun _ => ⟨[], [], []⟩)))
  else (bif Nat.ble v 70
  then (bif Nat.beq v 70 then (fun bid => bif Nat.beq bid 1 then ⟨[(0, .v), (2, .v), (8, .v), (51, .lst .str), (52, .v), (53, .v)], [], [(3000000, [(0, .row (.pr .str (.pr I (.pr I (.pr .str (.ls .str)))))), (1, .v), (2, .v)]), (96, [(0, .v), (1, .v), (2, .v), (3, .row .str)])]⟩ else ⟨[], [], []⟩) else (fun _ => ⟨[], [], []⟩))
  else (bif Nat.beq v 73 then (fun bid => bif Nat.beq bid 0 then ⟨[(0, .lst T_Entry), (1, .lst .str), (7, .lst T_Entry), (8, .v), (9, .v)], [], []⟩ else ⟨[], [], []⟩) else (fun _ => ⟨[], [], []⟩))))
  else (bif Nat.ble v 80
  then (bif Nat.ble v 74
  then (bif Nat.beq v 74 then (fun bid => bif Nat.beq bid 0 then ⟨[(0, .lst T_Entry), (1, .v), (4, .v), (6, .v)], [], [(0, [(0, .v), (1, .v), (2, .v), (3, .row .str)])]⟩ else ⟨[], [], []⟩) else (fun _ => ⟨[], [], []⟩))
  else (bif Nat.beq v 80 then (fun bid => bif Nat.beq bid 0 then ⟨[(3, .row (.int .u8)), (12, .lst .str), (13, .v), (14, .v)], [], []⟩ else ⟨[], [], []⟩) else (fun _ => ⟨[], [], []⟩)))
  else (bif Nat.ble v 81
  then (bif Nat.beq v 81 then (fun bid => bif Nat.beq bid 0 then ⟨[(3, .row .str), (6, .lst .str), (7, .v), (8, .v)], [], []⟩ else ⟨[], [], []⟩) else (fun _ => ⟨[], [], []⟩))
  else (bif Nat.beq v 84 then (fun bid => bif Nat.beq bid 0 then ⟨[(0, .lst T_Entry), (3, .v)], [], []⟩ else ⟨[], [], []⟩) else (fun _ => ⟨[], [], []⟩)))))
  else (bif Nat.ble v 90
  then (bif Nat.ble v 88
  then (bif Nat.ble v 87
  then (bif Nat.beq v 87 then (fun bid => bif Nat.beq bid 0 then ⟨[(0, .lst T_Entry), (1, .v), (5, .row T_Entry), (6, .v)], [], []⟩ else ⟨[], [], []⟩) else (fun _ => ⟨[], [], []⟩))
  else (bif Nat.beq v 88 then (fun bid => bif Nat.beq bid 1 then ⟨[(0, .lst T_Entry), (1, .lst .str), (8, .row .str), (9, .v)], [], []⟩ else bif Nat.beq bid 3 then ⟨[(0, .lst T_Entry), (1, .lst .str), (10, .lst T_Entry), (11, .v)], [], []⟩ else ⟨[], [], []⟩) else (fun _ => ⟨[], [], []⟩)))
  else (bif Nat.ble v 89
  then (bif Nat.beq v 89 then (fun bid => bif Nat.beq bid 0 then ⟨[(0, .lst T_Entry), (5, .lst T_Entry), (6, .v), (7, .v)], [], []⟩ else ⟨[], [], []⟩) else (fun _ => ⟨[], [], []⟩))
  else (bif Nat.beq v 90 then (fun bid => bif Nat.beq bid 0 then ⟨[(3, .row T_Entry), (6, .lst T_Entry), (7, .v), (8, .v)], [], []⟩ else ⟨[], [], []⟩) else (fun _ => ⟨[], [], []⟩))))
  else (bif Nat.ble v 101
  then (bif Nat.ble v 95
  then (bif Nat.beq v 95 then (fun bid => bif Nat.beq bid 0 then ⟨[(0, .lst .str), (3, .row (.int .u8)), (4, .v)], [], []⟩ else ⟨[], [], []⟩) else (fun _ => ⟨[], [], []⟩))
  else (bif Nat.beq v 101 then (fun bid => bif Nat.beq bid 0 then ⟨[(0, .lst .str), (1, .v), (5, .v)], [], []⟩ else ⟨[], [], []⟩) else (fun _ => ⟨[], [], []⟩)))
  else (bif Nat.ble v 103
  then (bif Nat.beq v 103 then (fun bid => bif Nat.beq bid 0 then ⟨[(0, .lst T_Entry), (1, .v), (5, .v), (7, .row (.pr .str (.pr I (.pr I (.pr .str (.ls .str)))))), (8, .v)], [], [(0, [(0, .v), (1, .v), (2, .v), (3, .lst .str)])]⟩ else bif Nat.beq bid 2 then ⟨[(0, .lst T_Entry), (1, .v), (7, .row (.pr .str (.pr I (.pr I (.pr .str (.ls .str)))))), (9, .v)], [], []⟩ else ⟨[], [], []⟩) else (fun _ => ⟨[], [], []⟩))
  else (bif Nat.beq v 104 then (fun bid => bif Nat.beq bid 0 then ⟨[(0, .v), (3, .v), (4, .v)], [], []⟩ else ⟨[], [], []⟩) else (fun _ => ⟨[], [], []⟩))))))
  else (bif Nat.ble v 146
  then (bif Nat.ble v 123
  then (bif Nat.ble v 113
  then (bif Nat.ble v 110
  then (bif Nat.beq v 110 then (fun bid => bif Nat.beq bid 0 then ⟨[(0, .lst .str), (1, .v), (6, .v), (7, .v), (8, .v)], [], []⟩ else ⟨[], [], []⟩) else (fun _ => ⟨[], [], []⟩))
  else (bif Nat.beq v 113 then (fun bid => bif Nat.beq bid 0 then ⟨[(0, .row .str), (1, .v), (5, .v), (6, .v)], [], [(3000064, [])]⟩ else ⟨[], [], []⟩) else (fun _ => ⟨[], [], []⟩)))
  else (bif Nat.ble v 119
  then (bif Nat.beq v 119 then (fun bid => bif Nat.beq bid 0 then ⟨[(0, .lst .str), (1, .v), (6, .v)], [], []⟩ else ⟨[], [], []⟩) else (fun _ => ⟨[], [], []⟩))
  else (bif Nat.beq v 123 then (fun bid => bif Nat.beq bid 0 then ⟨[(0, .lst .str), (3, .row .str), (4, .v)], [], []⟩ else ⟨[], [], []⟩) else (fun _ => ⟨[], [], []⟩))))
  else (bif Nat.ble v 131
  then (bif Nat.ble v 124
  then (bif Nat.beq v 124 then (fun bid => bif Nat.beq bid 0 then ⟨[(0, .v), (4, .v), (5, .v)], [], []⟩ else ⟨[], [], []⟩) else (fun _ => ⟨[], [], []⟩))
  else (bif Nat.beq v 131 then (fun bid => bif Nat.beq bid 0 then ⟨[(0, .v), (2, .v), (7, .v), (12, .lst .str), (13, .v), (14, .v)], [], [(3000000, [(0, .row (.pr .str (.pr I (.pr I (.pr .str (.ls .str)))))), (1, .v), (2, .v)])]⟩ else ⟨[], [], []⟩) else (fun _ => ⟨[], [], []⟩)))
  else (bif Nat.ble v 135
  then (bif Nat.beq v 135 then (fun bid => bif Nat.beq bid 0 then ⟨[(1, .v), (3, .v)], [], [(0, [(0, .v), (1, .v), (2, .v), (3, .lst .str)])]⟩ else bif Nat.beq bid 1700000 then ⟨[(1, .v)], [], [(0, [(0, .v), (1, .v), (2, .v), (3, .lst .str)])]⟩ else bif Nat.beq bid 1700001 then ⟨[(1, .v), (13, .v)], [], [(0, [(0, .v), (1, .v), (2, .v), (3, .lst .str)])]⟩ else bif Nat.beq bid 1700002 then ⟨[(2, .v)], [], []⟩ else bif Nat.beq bid 1700003 then ⟨[(1, .v), (16, .v)], [], [(0, [(0, .v), (1, .v), (2, .v), (3, .lst .str)])]⟩ else bif Nat.beq bid 1700004 then ⟨[(2, .v)], [], []⟩ else bif Nat.beq bid 1700005 then ⟨[(1, .v), (48, .v)], [], [(0, [(0, .v), (1, .v), (2, .v), (3, .lst .str)])]⟩ else bif Nat.beq bid 1700006 then ⟨[(2, .v)], [], []⟩ else bif Nat.beq bid 1700007 then ⟨[(1, .v), (3, .v)], [], [(0, [(0, .v), (1, .v), (2, .v), (3, .lst .str)])]⟩ else bif Nat.beq bid 1700008 then ⟨[(1, .v), (3, .v), (53, .v)], [], [(0, [(0, .v), (1, .v), (2, .v), (3, .lst .str)])]⟩ else bif Nat.beq bid 1700010 then ⟨[(1, .v), (3, .v), (62, .v)], [], [(0, [(0, .v), (1, .v), (2, .v), (3, .lst .str)])]⟩ else bif Nat.beq bid 1700011 then ⟨[(2, .v)], [], []⟩ else bif Nat.beq bid 1700012 then ⟨[(1, .v), (3, .v), (111, .v)], [], [(0, [(0, .v), (1, .v), (2, .v), (3, .lst .str)])]⟩ else bif Nat.beq bid 1700013 then ⟨[(2, .v)], [], []⟩ else bif Nat.beq bid 1700014 then ⟨[(2, .v)], [], []⟩ else bif Nat.beq bid 2700000 then ⟨[(0, .v)], [], []⟩ else bif Nat.beq bid 2700001 then ⟨[(0, .v)], [], []⟩ else bif Nat.beq bid 2700002 then ⟨[(0, .v)], [], []⟩ else bif Nat.beq bid 2700003 then ⟨[(0, .v)], [], []⟩ else bif Nat.beq bid 2700004 then ⟨[(0, .v)], [], []⟩ else bif Nat.beq bid 2700005 then ⟨[(0, .v)], [], []⟩ else bif Nat.beq bid 2700006 then ⟨[(0, .v)], [], []⟩ else bif Nat.beq bid 2700007 then ⟨[(0, .v)], [], []⟩ else bif Nat.beq bid 2700008 then ⟨[(0, .v)], [], []⟩ else bif Nat.beq bid 2700010 then ⟨[(0, .v)], [], []⟩ else bif Nat.beq bid 2700011 then ⟨[(0, .v)], [], []⟩ else bif Nat.beq bid 2700012 then ⟨[(0, .v)], [], []⟩ else bif Nat.beq bid 2700013 then ⟨[(0, .v)], [], []⟩ else bif Nat.beq bid 2700014 then ⟨[(0, .v)], [], []⟩ else ⟨[], [], []⟩) else (fun _ => ⟨[], [], []⟩))
  else (bif Nat.beq v 146 then (fun bid => bif Nat.beq bid 0 then ⟨[(0, .v), (2, .lst .str), (6, .v)], [], [(3000000, [(0, .row (.pr .str (.pr I (.pr I (.pr .str (.ls .str)))))), (1, .v), (2, .v)])]⟩ else bif Nat.beq bid 2 then ⟨[(0, .v), (7, .row .str), (34, .lst .str), (35, .v), (36, .v)], [], [(3000000, [(0, .row (.pr .str (.pr I (.pr I (.pr .str (.ls .str)))))), (1, .v), (2, .v)])]⟩ else ⟨[], [], []⟩) else (fun _ => ⟨[], [], []⟩)))))
  else (bif Nat.ble v 165
  then (bif Nat.ble v 158
  then (bif Nat.ble v 154
  then (bif Nat.beq v 154 then (fun bid => bif Nat.beq bid 0 then ⟨[(0, .lst T_Entry), (1, .v), (2, .v), (8, .v), (9, .v), (10, .v)], [], []⟩ else ⟨[], [], []⟩) else (fun _ => ⟨[], [], []⟩))
  else (bif Nat.beq v 158 then (fun bid => bif Nat.beq bid 0 then ⟨[(0, .lst .str), (1, .v), (7, .v), (8, .v)], [], [(3000064, [])]⟩ else ⟨[], [], []⟩) else (fun _ => ⟨[], [], []⟩)))
  else (bif Nat.ble v 159
  then (bif Nat.beq v 159 then (fun bid => bif Nat.beq bid 0 then ⟨[(0, .lst .str), (1, .v), (7, .v), (8, .v)], [], []⟩ else ⟨[], [], []⟩) else (fun _ => ⟨[], [], []⟩))
  else (bif Nat.beq v 165 then (fun bid => bif Nat.beq bid 1 then ⟨[(1, .lst .str), (5, .v), (17, .lst .str), (18, .v), (19, .v)], [], []⟩ else ⟨[], [], []⟩) else (fun _ => ⟨[], [], []⟩))))
  else (bif Nat.ble v 1002
  then (bif Nat.ble v 1001
  then (bif Nat.beq v 1001 then (fun bid => bif Nat.beq bid 0 then ⟨[(0, .lst T_Entry), (1, .v), (7, .v), (8, .v)], [], [(3000064, [])]⟩ else ⟨[], [], []⟩) else (fun _ => ⟨[], [], []⟩))
  else (bif Nat.beq v 1002 then (fun bid => bif Nat.beq bid 0 then ⟨[(0, .lst T_Entry), (1, .v), (7, .v), (8, .v)], [], [(3000064, [])]⟩ else ⟨[], [], []⟩) else (fun _ => ⟨[], [], []⟩)))
  else (bif Nat.ble v 1003
  then (bif Nat.beq v 1003 then (fun bid => bif Nat.beq bid 0 then ⟨[(0, .lst T_Entry), (1, .v), (7, .v), (8, .v)], [], [(3000064, [])]⟩ else ⟨[], [], []⟩) else (fun _ => ⟨[], [], []⟩))
  else (bif Nat.ble v 1011
  then (bif Nat.beq v 1011 then (fun bid => bif Nat.beq bid 0 then ⟨[(0, .row (.pr .str (.pr I (.pr I (.pr .str (.ls .str)))))), (1, .v), (5, .v), (6, .v)], [], [(3000064, [])]⟩ else ⟨[], [], []⟩) else (fun _ => ⟨[], [], []⟩))
  else (bif Nat.beq v 1012 then (fun bid => bif Nat.beq bid 0 then ⟨[(0, .row (.pr .str (.pr I (.pr I (.pr .str (.ls .str)))))), (1, .v), (5, .v), (6, .v)], [], [(3000064, [])]⟩ else ⟨[], [], []⟩) else (fun _ => ⟨[], [], []⟩)))))))))
noncomputable def strings_FieldsF (x : ByteArray × Unit) : Option (List ByteArray × Unit) := bif x.1.data.toList.all (fun b => decide (b.toNat < 128)) && decide (x.1.size < 4294967281) then some ((Lib.fields x.1.data.toList).map (fun l => ⟨l.toArray⟩), ()) else none
noncomputable def strings_CompareF (x : ByteArray × ByteArray × Unit) : Option (Int × Unit) := some (Lib.compareBytes x.1.data.toList x.2.1.data.toList, ())
noncomputable def strconv_ItoaF (x : Int × Unit) : Option (ByteArray × Unit) := bif decide (-9223372036854775808 ≤ x.1) && decide (x.1 ≤ 9223372036854775807) then some (⟨(Lib.itoa x.1).toArray⟩, ()) else none
noncomputable def strconv_AtoiF (x : ByteArray × Unit) : Option ((Int × Bool) × Unit) := bif decide (x.1.size ≤ 281474976710656) then (match Lib.atoiAll x.1.data.toList with | .ok v => some ((v, false), ()) | .range => some ((Lib.atoiSat x.1.data.toList, true), ()) | _ => some ((0,true),())) else none
noncomputable def insF {α : Type} (k : Nat) (x : List α × Int × List α × Unit) : Option (List α × Unit) := bif decide (0 ≤ x.2.1) && decide (x.2.1 ≤ (x.1.length : Int)) && decide (0 < x.2.2.1.length) && lim (x.1.length + x.2.2.1.length) k then some (x.1.take x.2.1.toNat ++ x.2.2.1 ++ x.1.drop x.2.1.toNat, ()) else none
noncomputable def delF {α : Type} (k : Nat) (x : List α × Int × Int × Unit) : Option (List α × Unit) := bif decide (0 ≤ x.2.1) && decide (x.2.1 ≤ x.2.2.1) && decide (x.2.2.1 ≤ (x.1.length : Int)) && lim x.1.length k then some (x.1.take x.2.1.toNat ++ x.1.drop x.2.2.1.toNat, ()) else none
noncomputable def ext : (v : Nat) → Option (ArgsD (V v).pars → Option (V v).RetD)
  | 149 => some (fun x => strings_FieldsF x)
  | 156 => some (fun x => strings_CompareF x)
  | 162 => some (fun x => strconv_ItoaF x)
  | 176 => some (fun x => strconv_AtoiF x)
  | 111 => some (fun x => insF 16 x)
  | 122 => some (fun x => delF 16 x)
  | 157 => some (fun x => insF 72 x)
  | _ => none
noncomputable def X : Cx := { P := Tryz.prog, V := V, cands := (fun g => bif Nat.beq g 163 then [1001, 1002, 1003] else bif Nat.beq g 144 then [1011, 1012] else [g]), hint := H, ext := ext }
noncomputable def strings_Fields (a0 : ByteArray) : Option ((List ByteArray) × Unit) := DF X 149 ((a0, ()) : (ByteArray) × Unit)
theorem strings_Fields_eq (a0 : ByteArray) : strings_Fields a0 = strings_FieldsF (a0, ()) := DF_ext X rfl _
noncomputable def strings_Compare (a0 : ByteArray) (a1 : ByteArray) : Option ((Int) × Unit) := DF X 156 ((a0, a1, ()) : (ByteArray) × (ByteArray) × Unit)
theorem strings_Compare_eq (a0 : ByteArray) (a1 : ByteArray) : strings_Compare a0 a1 = strings_CompareF (a0, a1, ()) := DF_ext X rfl _
noncomputable def strconv_Itoa (a0 : Int) : Option ((ByteArray) × Unit) := DF X 162 ((a0, ()) : (Int) × Unit)
theorem strconv_Itoa_eq (a0 : Int) : strconv_Itoa a0 = strconv_ItoaF (a0, ()) := DF_ext X rfl _
noncomputable def strconv_Atoi (a0 : ByteArray) : Option ((Int × Bool) × Unit) := DF X 176 ((a0, ()) : (ByteArray) × Unit)
theorem strconv_Atoi_eq (a0 : ByteArray) : strconv_Atoi a0 = strconv_AtoiF (a0, ()) := DF_ext X rfl _
noncomputable def slices_Insert___loop_example_g00124_impl_Entry_loop_example_g00124_impl_Entry_ (a0 : List (ByteArray × Int × Int × ByteArray × List ByteArray)) (a1 : Int) (a2 : List (ByteArray × Int × Int × ByteArray × List ByteArray)) : Option ((List (ByteArray × Int × Int × ByteArray × List ByteArray)) × Unit) := DF X 157 ((a0, a1, a2, ()) : (List (ByteArray × Int × Int × ByteArray × List ByteArray)) × (Int) × (List (ByteArray × Int × Int × ByteArray × List ByteArray)) × Unit)
theorem slices_Insert___loop_example_g00124_impl_Entry_loop_example_g00124_impl_Entry__eq (a0 : List (ByteArray × Int × Int × ByteArray × List ByteArray)) (a1 : Int) (a2 : List (ByteArray × Int × Int × ByteArray × List ByteArray)) : slices_Insert___loop_example_g00124_impl_Entry_loop_example_g00124_impl_Entry_ a0 a1 a2 = insF 72 (a0, a1, a2, ()) := DF_ext X rfl _
noncomputable def laws_FnExactOnKeys (a0 : (List D_Entry)) (a1 : Int) (a2 : (List ByteArray)) : Option (Bool × Unit) := DF X 6 ((a0, a1, a2, ()) : ((List D_Entry)) × (Int) × ((List ByteArray)) × Unit)
noncomputable def laws_szEntryS (a0 : (List D_Entry)) (a1 : Int) : Option (Int × Unit) := DF X 11 ((a0, a1, ()) : ((List D_Entry)) × (Int) × Unit)
noncomputable def laws_szEntryS_L0 (x0 : (List D_Entry)) (x1 : Int) (x5 : Int) : Option (Int × Unit) := loopAt X 11 0 [] (mkSt 27 [(0, .sv (.lst T_Entry x0)), (1, .sv (.int .i64 x1)), (5, .sv (.int .i64 x5))] [])
noncomputable def laws_szStringS (a0 : (List ByteArray)) (a1 : Int) : Option (Int × Unit) := DF X 12 ((a0, a1, ()) : ((List ByteArray)) × (Int) × Unit)
noncomputable def laws_szStringS_L0 (x0 : (List ByteArray)) (x1 : Int) (x5 : Int) : Option (Int × Unit) := loopAt X 12 0 [] (mkSt 28 [(0, .sv (.lst .str x0)), (1, .sv (.int .i64 x1)), (5, .sv (.int .i64 x5))] [])
noncomputable def laws_toEntryS (a0 : (List D_Entry)) : Option ((List D_Entry) × Unit) := DF X 14 ((a0, ()) : ((List D_Entry)) × Unit)
noncomputable def laws_toEntryS_L0 (x0 : (List D_Entry)) (x3 : (List D_Entry)) (x4 : Int) : Option ((List D_Entry) × Unit) := loopAt X 14 0 [] (mkSt 23 [(0, .sv (.lst T_Entry x0)), (3, .sv (.own 1000003)), (4, .sv (.int .i64 x4))] [(1000003, .live (.row T_Entry x3 0))])
noncomputable def laws_toStringS (a0 : (List ByteArray)) : Option ((List ByteArray) × Unit) := DF X 15 ((a0, ()) : ((List ByteArray)) × Unit)
noncomputable def laws_toStringS_L0 (x0 : (List ByteArray)) (x3 : (List ByteArray)) (x4 : Int) : Option ((List ByteArray) × Unit) := loopAt X 15 0 [] (mkSt 22 [(0, .sv (.lst .str x0)), (3, .sv (.own 1000003)), (4, .sv (.int .i64 x4))] [(1000003, .live (.row .str x3 0))])
noncomputable def laws_eqEntryS (a0 : (List D_Entry)) (a1 : (List D_Entry)) : Option (Bool × Unit) := DF X 17 ((a0, a1, ()) : ((List D_Entry)) × ((List D_Entry)) × Unit)
noncomputable def laws_eqEntryS_L0 (x0 : (List D_Entry)) (x1 : (List D_Entry)) (x5 : Int) : Option (Bool × Unit) := loopAt X 17 0 [] (mkSt 27 [(0, .sv (.lst T_Entry x0)), (1, .sv (.lst T_Entry x1)), (5, .sv (.int .i64 x5))] [])
noncomputable def laws_eqStringS (a0 : (List ByteArray)) (a1 : (List ByteArray)) : Option (Bool × Unit) := DF X 18 ((a0, a1, ()) : ((List ByteArray)) × ((List ByteArray)) × Unit)
noncomputable def laws_eqStringS_L0 (x0 : (List ByteArray)) (x1 : (List ByteArray)) (x5 : Int) : Option (Bool × Unit) := loopAt X 18 0 [] (mkSt 26 [(0, .sv (.lst .str x0)), (1, .sv (.lst .str x1)), (5, .sv (.int .i64 x5))] [])
noncomputable def laws_markEntryS (a0 : (List D_Entry)) (a1 : Int) : Option (Int × ((List D_Entry) × Unit)) := DF X 19 ((a0, a1, ()) : ((List D_Entry)) × (Int) × Unit)
noncomputable def laws_markEntryS_L0 (x1 : Int) (x5 : Int) (r3000000 : (List D_Entry)) : Option (Int × ((List D_Entry) × Unit)) := loopAt X 19 0 [] (mkSt 54 [(0, .sv (.own 3000000)), (1, .sv (.int .i64 x1)), (5, .sv (.int .i64 x5))] [(3000000, .live (.row T_Entry r3000000 0))])
noncomputable def laws_markEntryS_L1700000 (x1 : Int) (r3000000 : (List D_Entry)) : Option (Int × ((List D_Entry) × Unit)) := loopAt X 19 1700000 [] (mkSt 54 [(0, .sv (.own 3000000)), (1, .sv (.int .i64 x1))] [(3000000, .live (.row T_Entry r3000000 0))])
noncomputable def laws_markEntryS_L1700001 (x1 : Int) (x5 : Int) (r3000000 : (List D_Entry)) : Option (Int × ((List D_Entry) × Unit)) := loopAt X 19 1700001 [] (mkSt 54 [(0, .sv (.own 3000000)), (1, .sv (.int .i64 x1)), (5, .sv (.int .i64 x5))] [(3000000, .live (.row T_Entry r3000000 0))])
noncomputable def laws_markEntryS_L1700002 (x1 : Int) (x5 : Int) (x9 : Bool) (r3000000 : (List D_Entry)) : Option (Int × ((List D_Entry) × Unit)) := loopAt X 19 1700002 [0] (mkSt 54 [(0, .sv (.own 3000000)), (1, .sv (.int .i64 x1)), (5, .sv (.int .i64 x5)), (9, .sv (.bool x9))] [(3000000, .live (.row T_Entry r3000000 0))])
noncomputable def laws_markEntryS_L1700004 (x1 : Int) (x5 : Int) (r3000000 : (List D_Entry)) : Option (Int × ((List D_Entry) × Unit)) := loopAt X 19 1700004 [0] (mkSt 54 [(0, .sv (.own 3000000)), (1, .sv (.int .i64 x1)), (5, .sv (.int .i64 x5))] [(3000000, .live (.row T_Entry r3000000 0))])
noncomputable def laws_markEntryS_L1700005 (x1 : Int) (x5 : Int) (r3000000 : (List D_Entry)) : Option (Int × ((List D_Entry) × Unit)) := loopAt X 19 1700005 [0] (mkSt 54 [(0, .sv (.own 3000000)), (1, .sv (.int .i64 x1)), (5, .sv (.int .i64 x5))] [(3000000, .live (.row T_Entry r3000000 0))])
noncomputable def laws_markEntryS_L1700006 (x1 : Int) (x5 : Int) (r3000000 : (List D_Entry)) : Option (Int × ((List D_Entry) × Unit)) := loopAt X 19 1700006 [0] (mkSt 54 [(0, .sv (.own 3000000)), (1, .sv (.int .i64 x1)), (5, .sv (.int .i64 x5))] [(3000000, .live (.row T_Entry r3000000 0))])
noncomputable def laws_markEntryS_L1700007 (x1 : Int) (x5 : Int) (r3000000 : (List D_Entry)) : Option (Int × ((List D_Entry) × Unit)) := loopAt X 19 1700007 [0] (mkSt 54 [(0, .sv (.own 3000000)), (1, .sv (.int .i64 x1)), (5, .sv (.int .i64 x5))] [(3000000, .live (.row T_Entry r3000000 0))])
noncomputable def laws_markEntryS_L1700008 (x1 : Int) (x5 : Int) (r3000000 : (List D_Entry)) : Option (Int × ((List D_Entry) × Unit)) := loopAt X 19 1700008 [0] (mkSt 54 [(0, .sv (.own 3000000)), (1, .sv (.int .i64 x1)), (5, .sv (.int .i64 x5))] [(3000000, .live (.row T_Entry r3000000 0))])
noncomputable def laws_markEntryS_L1700009 (x1 : Int) (x5 : Int) (r3000000 : (List D_Entry)) : Option (Int × ((List D_Entry) × Unit)) := loopAt X 19 1700009 [0] (mkSt 54 [(0, .sv (.own 3000000)), (1, .sv (.int .i64 x1)), (5, .sv (.int .i64 x5))] [(3000000, .live (.row T_Entry r3000000 0))])
noncomputable def laws_markEntryS_L1700010 (x1 : Int) (x5 : Int) (r3000000 : (List D_Entry)) : Option (Int × ((List D_Entry) × Unit)) := loopAt X 19 1700010 [0] (mkSt 54 [(0, .sv (.own 3000000)), (1, .sv (.int .i64 x1)), (5, .sv (.int .i64 x5))] [(3000000, .live (.row T_Entry r3000000 0))])
noncomputable def laws_markEntryS_L1700011 (x1 : Int) (x5 : Int) (r3000000 : (List D_Entry)) : Option (Int × ((List D_Entry) × Unit)) := loopAt X 19 1700011 [0] (mkSt 54 [(0, .sv (.own 3000000)), (1, .sv (.int .i64 x1)), (5, .sv (.int .i64 x5))] [(3000000, .live (.row T_Entry r3000000 0))])
noncomputable def laws_markEntryS_L1700013 (x4 : Int) (r3000000 : (List D_Entry)) : Option (Int × ((List D_Entry) × Unit)) := loopAt X 19 1700013 [] (mkSt 54 [(4, .sv (.int .i64 x4))] [(3000000, .live (.row T_Entry r3000000 0))])
noncomputable def laws_markStringS (a0 : (List ByteArray)) (a1 : Int) : Option (Int × ((List ByteArray) × Unit)) := DF X 20 ((a0, a1, ()) : ((List ByteArray)) × (Int) × Unit)
noncomputable def laws_markStringS_L0 (x1 : Int) (x5 : Int) (r3000000 : (List ByteArray)) : Option (Int × ((List ByteArray) × Unit)) := loopAt X 20 0 [] (mkSt 20 [(0, .sv (.own 3000000)), (1, .sv (.int .i64 x1)), (5, .sv (.int .i64 x5))] [(3000000, .live (.row .str r3000000 0))])
noncomputable def laws_heldEntryS (a0 : (List D_Entry)) (a1 : Int) : Option (Int × Unit) := DF X 21 ((a0, a1, ()) : ((List D_Entry)) × (Int) × Unit)
noncomputable def laws_heldEntryS_L0 (x0 : (List D_Entry)) (x1 : Int) (x5 : Int) : Option (Int × Unit) := loopAt X 21 0 [] (mkSt 64 [(0, .sv (.lst T_Entry x0)), (1, .sv (.int .i64 x1)), (5, .sv (.int .i64 x5))] [])
noncomputable def spec_OnKeys (a0 : (List D_Entry)) (a1 : Int) (a2 : (List ByteArray)) : Option (((List D_Entry) × ByteArray × Bool) × Unit) := DF X 26 ((a0, a1, a2, ()) : ((List D_Entry)) × (Int) × ((List ByteArray)) × Unit)
noncomputable def spec_OnKeys_L1 (x0 : (List D_Entry)) (x11 : (List ByteArray)) (x12 : Int) : Option (((List D_Entry) × ByteArray × Bool) × Unit) := loopAt X 26 1 [] (mkSt 105 [(0, .sv (.lst T_Entry x0)), (11, .sv (.own 1000011)), (12, .sv (.int .i64 x12))] [(1000011, .live (.row .str x11 0))])
noncomputable def impl_OnKeys (a0 : (List D_Entry)) (a1 : Int) (a2 : (List ByteArray)) : Option (((List D_Entry) × ByteArray × Bool) × Unit) := DF X 27 ((a0, a1, a2, ()) : ((List D_Entry)) × (Int) × ((List ByteArray)) × Unit)
noncomputable def impl_OnKeys_L1 (x0 : (List D_Entry)) (x12 : (List ByteArray)) (x46 : (List D_Entry)) (x47 : Int) (x48 : Int) (b1056_0 : (List D_Entry)) (b1056_1 : ByteArray) (b1056_2 : Bool) : Option (((List D_Entry) × ByteArray × Bool) × Unit) := loopAt X 27 1 [] (mkSt 84 [(0, .sv (.lst T_Entry x0)), (9, .sv (.ptr 1056 0)), (12, .sv (.own 1000012)), (46, .sv (.lst T_Entry x46)), (47, .sv (.int .i64 x47)), (48, .sv (.int .i64 x48))] [(1000012, .live (.row .str x12 0)), (2067584, .live (.row (.pr .str (.pr I (.pr I (.pr .str (.ls .str))))) b1056_0 0)), (1056, .live (.box [(.own 2067584), (.str b1056_1), (.bool b1056_2)]))])
noncomputable def laws_heldStringS (a0 : (List ByteArray)) (a1 : Int) : Option (Int × Unit) := DF X 36 ((a0, a1, ()) : ((List ByteArray)) × (Int) × Unit)
noncomputable def laws_heldStringS_L0 (x0 : (List ByteArray)) (x1 : Int) (x5 : Int) : Option (Int × Unit) := loopAt X 36 0 [] (mkSt 22 [(0, .sv (.lst .str x0)), (1, .sv (.int .i64 x1)), (5, .sv (.int .i64 x5))] [])
noncomputable def laws_szEntry (a0 : D_Entry) (a1 : Int) : Option (Int × Unit) := DF X 45 ((a0, a1, ()) : (D_Entry) × (Int) × Unit)
noncomputable def spec_l14Is (a0 : (List D_Entry)) (a1 : (List ByteArray)) (a2 : (List ByteArray)) : Option (Bool × Unit) := DF X 46 ((a0, a1, a2, ()) : ((List D_Entry)) × ((List ByteArray)) × ((List ByteArray)) × Unit)
noncomputable def spec_l14No (a0 : (List D_Entry)) (a1 : ByteArray) : Option (((List D_Entry) × ByteArray × Bool) × Unit) := DF X 48 ((a0, a1, ()) : ((List D_Entry)) × (ByteArray) × Unit)
noncomputable def spec_Upper (a0 : ByteArray) : Option (ByteArray × Unit) := DF X 49 ((a0, ()) : (ByteArray) × Unit)
noncomputable def spec_Upper_L0 (x3 : (List Int)) (x4 : Int) : Option (ByteArray × Unit) := loopAt X 49 0 [] (mkSt 35 [(3, .sv (.own 1000003)), (4, .sv (.int .i64 x4))] [(1000003, .live (.row (.int .u8) x3 0))])
noncomputable def spec_Number (a0 : Int) : Option (ByteArray × Unit) := DF X 53 ((a0, ()) : (Int) × Unit)
noncomputable def spec_l10CopyTable (a0 : (List D_Entry)) : Option ((List D_Entry) × Unit) := DF X 55 ((a0, ()) : ((List D_Entry)) × Unit)
noncomputable def spec_l10CopyTable_L0 (x0 : (List D_Entry)) (x3 : (List D_Entry)) (x4 : Int) : Option ((List D_Entry) × Unit) := loopAt X 55 0 [] (mkSt 28 [(0, .sv (.lst T_Entry x0)), (3, .sv (.own 1000003)), (4, .sv (.int .i64 x4))] [(1000003, .live (.row T_Entry x3 0))])
noncomputable def spec_l15Bulks (a0 : (List ByteArray)) : Option (ByteArray × Unit) := DF X 56 ((a0, ()) : ((List ByteArray)) × Unit)
noncomputable def spec_l15Bulks_L0 (x0 : (List ByteArray)) (x3 : (List ByteArray)) (x4 : Int) : Option (ByteArray × Unit) := loopAt X 56 0 [] (mkSt 22 [(0, .sv (.lst .str x0)), (3, .sv (.own 1000003)), (4, .sv (.int .i64 x4))] [(1000003, .live (.row .str x3 0))])
noncomputable def laws_toEntry (a0 : D_Entry) : Option (D_Entry × Unit) := DF X 57 ((a0, ()) : (D_Entry) × Unit)
noncomputable def impl_begun (a0 : (List D_Entry)) (a1 : (List ByteArray)) (a2 : ByteArray) : Option (((Option D_desk) × Bool) × Unit) := DF X 58 ((a0, a1, a2, ()) : ((List D_Entry)) × ((List ByteArray)) × (ByteArray) × Unit)
noncomputable def impl_Upper (a0 : ByteArray) : Option (ByteArray × Unit) := DF X 60 ((a0, ()) : (ByteArray) × Unit)
noncomputable def impl_Upper_L0 (x9 : Int) (x10 : Int) (r1040 : (List Int)) : Option (ByteArray × Unit) := loopAt X 60 0 [] (mkSt 29 [(3, .sv (.own 1040)), (8, .sv (.own 1040)), (9, .sv (.int .i64 x9)), (10, .sv (.int .i64 x10))] [(1040, .live (.row (.int .u8) r1040 0))])
noncomputable def __loop_example_g00124_impl_desk__over (a0 : D_desk) (a1 : (List D_Entry)) : Option (((List D_Entry) × ByteArray × Bool) × (D_desk × Unit)) := DF X 61 ((a0, a1, ()) : (D_desk) × ((List D_Entry)) × Unit)
noncomputable def laws_eqEntry (a0 : D_Entry) (a1 : D_Entry) : Option (Bool × Unit) := DF X 62 ((a0, a1, ()) : (D_Entry) × (D_Entry) × Unit)
noncomputable def laws_markText (a0 : Int) : Option (ByteArray × Unit) := DF X 63 ((a0, ()) : (Int) × Unit)
noncomputable def laws_markText_L0 (x0 : Int) (x3 : ByteArray) : Option (ByteArray × Unit) := loopAt X 63 0 [] (mkSt 20 [(0, .sv (.int .i64 x0)), (3, .sv (.str x3))] [])
noncomputable def spec_Bulk (a0 : ByteArray) : Option (ByteArray × Unit) := DF X 65 ((a0, ()) : (ByteArray) × Unit)
noncomputable def spec_ReadInt (a0 : ByteArray) : Option ((Int × Bool) × Unit) := DF X 68 ((a0, ()) : (ByteArray) × Unit)
noncomputable def spec_l01In (a0 : Int) (a1 : Int) (a2 : Int) : Option (Bool × Unit) := DF X 71 ((a0, a1, a2, ()) : (Int) × (Int) × (Int) × Unit)
noncomputable def spec_Simple (a0 : ByteArray) : Option (ByteArray × Unit) := DF X 72 ((a0, ()) : (ByteArray) × Unit)
noncomputable def spec_l17Many (a0 : (List D_Entry)) (a1 : (List ByteArray)) : Option (((List D_Entry) × ByteArray × Bool) × Unit) := DF X 73 ((a0, a1, ()) : ((List D_Entry)) × ((List ByteArray)) × Unit)
noncomputable def spec_l17Many_L0 (x0 : (List D_Entry)) (x1 : (List ByteArray)) (x7 : (List D_Entry)) (x8 : Int) (x9 : Int) : Option (((List D_Entry) × ByteArray × Bool) × Unit) := loopAt X 73 0 [] (mkSt 54 [(0, .sv (.lst T_Entry x0)), (1, .sv (.lst .str x1)), (7, .sv (.lst T_Entry x7)), (8, .sv (.int .i64 x8)), (9, .sv (.int .i64 x9))] [])
noncomputable def spec_Find (a0 : (List D_Entry)) (a1 : ByteArray) : Option ((D_Val × Bool) × Unit) := DF X 74 ((a0, a1, ()) : ((List D_Entry)) × (ByteArray) × Unit)
noncomputable def spec_Find_L0 (x0 : (List D_Entry)) (x1 : ByteArray) (x6 : Int) (b0_0 : Int) (b0_1 : Int) (b0_2 : ByteArray) (b0_3 : (List ByteArray)) : Option ((D_Val × Bool) × Unit) := loopAt X 74 0 [] (mkSt 27 [(0, .sv (.lst T_Entry x0)), (1, .sv (.str x1)), (4, .sv (.ptr 0 0)), (6, .sv (.int .i64 x6))] [(2000003, .live (.row .str b0_3 0)), (0, .live (.box [(.int .i64 b0_0), (.int .i64 b0_1), (.str b0_2), (.own 2000003)]))])
noncomputable def spec_l17Type (a0 : Int) : Option (ByteArray × Unit) := DF X 75 ((a0, ()) : (Int) × Unit)
noncomputable def spec_l17Time (a0 : (List D_Entry)) (a1 : Int) (a2 : (List ByteArray)) : Option (((List D_Entry) × ByteArray × Bool) × Unit) := DF X 76 ((a0, a1, a2, ()) : ((List D_Entry)) × (Int) × ((List ByteArray)) × Unit)
noncomputable def impl_within (a0 : Int) (a1 : Int) (a2 : Int) : Option (Bool × Unit) := DF X 77 ((a0, a1, a2, ()) : (Int) × (Int) × (Int) × Unit)
noncomputable def __loop_example_g00124_impl_desk__say (a0 : D_desk) (a1 : ByteArray) : Option (Unit × (D_desk × Unit)) := DF X 78 ((a0, a1, ()) : (D_desk) × (ByteArray) × Unit)
noncomputable def impl_Simple (a0 : ByteArray) : Option (ByteArray × Unit) := DF X 79 ((a0, ()) : (ByteArray) × Unit)
noncomputable def impl_Array (a0 : (List ByteArray)) : Option (ByteArray × Unit) := DF X 80 ((a0, ()) : ((List ByteArray)) × Unit)
noncomputable def impl_Array_L0 (x3 : (List Int)) (x12 : (List ByteArray)) (x13 : Int) (x14 : Int) : Option (ByteArray × Unit) := loopAt X 80 0 [] (mkSt 24 [(3, .sv (.own 1000003)), (12, .sv (.lst .str x12)), (13, .sv (.int .i64 x13)), (14, .sv (.int .i64 x14))] [(1000003, .live (.row (.int .u8) x3 0))])
noncomputable def impl_bulks (a0 : (List ByteArray)) : Option ((List ByteArray) × Unit) := DF X 81 ((a0, ()) : ((List ByteArray)) × Unit)
noncomputable def impl_bulks_L0 (x3 : (List ByteArray)) (x6 : (List ByteArray)) (x7 : Int) (x8 : Int) : Option ((List ByteArray) × Unit) := loopAt X 81 0 [] (mkSt 19 [(3, .sv (.own 1000003)), (6, .sv (.lst .str x6)), (7, .sv (.int .i64 x7)), (8, .sv (.int .i64 x8))] [(1000003, .live (.row .str x3 0))])
noncomputable def impl_Number (a0 : Int) : Option (ByteArray × Unit) := DF X 82 ((a0, ()) : (Int) × Unit)
noncomputable def __loop_example_g00124_impl_desk__key (a0 : D_desk) (a1 : Int) (a2 : ByteArray) (a3 : (List ByteArray)) : Option (Unit × (D_desk × Unit)) := DF X 83 ((a0, a1, a2, a3, ()) : (D_desk) × (Int) × (ByteArray) × ((List ByteArray)) × Unit)
noncomputable def spec_TableOk (a0 : (List D_Entry)) : Option (Bool × Unit) := DF X 84 ((a0, ()) : ((List D_Entry)) × Unit)
noncomputable def spec_TableOk_L0 (x0 : (List D_Entry)) (x3 : Int) : Option (Bool × Unit) := loopAt X 84 0 [] (mkSt 48 [(0, .sv (.lst T_Entry x0)), (3, .sv (.int .i64 x3))] [])
noncomputable def spec_Fault (a0 : ByteArray) : Option (ByteArray × Unit) := DF X 85 ((a0, ()) : (ByteArray) × Unit)
noncomputable def impl_TableOk (a0 : (List D_Entry)) : Option (Bool × Unit) := DF X 89 ((a0, ()) : ((List D_Entry)) × Unit)
noncomputable def impl_TableOk_L0 (x0 : (List D_Entry)) (x5 : (List D_Entry)) (x6 : Int) (x7 : Int) : Option (Bool × Unit) := loopAt X 89 0 [] (mkSt 41 [(0, .sv (.lst T_Entry x0)), (5, .sv (.lst T_Entry x5)), (6, .sv (.int .i64 x6)), (7, .sv (.int .i64 x7))] [])
noncomputable def impl_copyTable (a0 : (List D_Entry)) : Option ((List D_Entry) × Unit) := DF X 90 ((a0, ()) : ((List D_Entry)) × Unit)
noncomputable def impl_copyTable_L0 (x3 : (List D_Entry)) (x6 : (List D_Entry)) (x7 : Int) (x8 : Int) : Option ((List D_Entry) × Unit) := loopAt X 90 0 [] (mkSt 23 [(3, .sv (.own 1000003)), (6, .sv (.lst T_Entry x6)), (7, .sv (.int .i64 x7)), (8, .sv (.int .i64 x8))] [(1000003, .live (.row T_Entry x3 0))])
noncomputable def impl_Fault (a0 : ByteArray) : Option (ByteArray × Unit) := DF X 91 ((a0, ()) : (ByteArray) × Unit)
noncomputable def spec_Array (a0 : (List ByteArray)) : Option (ByteArray × Unit) := DF X 95 ((a0, ()) : ((List ByteArray)) × Unit)
noncomputable def spec_Array_L0 (x0 : (List ByteArray)) (x3 : (List Int)) (x4 : Int) : Option (ByteArray × Unit) := loopAt X 95 0 [] (mkSt 26 [(0, .sv (.lst .str x0)), (3, .sv (.own 1000003)), (4, .sv (.int .i64 x4))] [(1000003, .live (.row (.int .u8) x3 0))])
noncomputable def laws_szVal (a0 : D_Val) (a1 : Int) : Option (Int × Unit) := DF X 99 ((a0, a1, ()) : (D_Val) × (Int) × Unit)
noncomputable def spec_ArityOk (a0 : (List ByteArray)) : Option (Bool × Unit) := DF X 100 ((a0, ()) : ((List ByteArray)) × Unit)
noncomputable def spec_l13In (a0 : (List ByteArray)) (a1 : ByteArray) : Option (Bool × Unit) := DF X 101 ((a0, a1, ()) : ((List ByteArray)) × (ByteArray) × Unit)
noncomputable def spec_l13In_L0 (x0 : (List ByteArray)) (x1 : ByteArray) (x5 : Int) : Option (Bool × Unit) := loopAt X 101 0 [] (mkSt 18 [(0, .sv (.lst .str x0)), (1, .sv (.str x1)), (5, .sv (.int .i64 x5))] [])
noncomputable def spec_l14Done (a0 : (List D_Entry)) (a1 : (List D_Entry)) (a2 : ByteArray) : Option (((List D_Entry) × ByteArray × Bool) × Unit) := DF X 102 ((a0, a1, a2, ()) : ((List D_Entry)) × ((List D_Entry)) × (ByteArray) × Unit)
noncomputable def spec_l14Put (a0 : (List D_Entry)) (a1 : ByteArray) (a2 : D_Val) : Option ((List D_Entry) × Unit) := DF X 103 ((a0, a1, a2, ()) : ((List D_Entry)) × (ByteArray) × (D_Val) × Unit)
noncomputable def spec_l14Put_L0 (x0 : (List D_Entry)) (x1 : ByteArray) (x7 : (List D_Entry)) (x8 : Int) (b0_0 : Int) (b0_1 : Int) (b0_2 : ByteArray) (b0_3 : (List ByteArray)) : Option ((List D_Entry) × Unit) := loopAt X 103 0 [] (mkSt 61 [(0, .sv (.lst T_Entry x0)), (1, .sv (.str x1)), (5, .sv (.ptr 0 0)), (7, .sv (.own 1000007)), (8, .sv (.int .i64 x8))] [(1000007, .live (.row (.pr .str (.pr I (.pr I (.pr .str (.ls .str))))) x7 0)), (0, .live (.box [(.int .i64 b0_0), (.int .i64 b0_1), (.str b0_2), (.lst .str b0_3)]))])
noncomputable def spec_l14Put_L2 (x0 : (List D_Entry)) (x1 : ByteArray) (x7 : (List D_Entry)) (x9 : Int) : Option ((List D_Entry) × Unit) := loopAt X 103 2 [] (mkSt 61 [(0, .sv (.lst T_Entry x0)), (1, .sv (.str x1)), (7, .sv (.own 1000007)), (9, .sv (.int .i64 x9))] [(1000007, .live (.row (.pr .str (.pr I (.pr I (.pr .str (.ls .str))))) x7 0))])
noncomputable def spec_Decimal (a0 : Int) : Option (ByteArray × Unit) := DF X 104 ((a0, ()) : (Int) × Unit)
noncomputable def spec_Decimal_L0 (x0 : Int) (x3 : Bool) (x4 : ByteArray) : Option (ByteArray × Unit) := loopAt X 104 0 [] (mkSt 30 [(0, .sv (.int .i64 x0)), (3, .sv (.bool x3)), (4, .sv (.str x4))] [])
noncomputable def spec_l10Copy (a0 : D_Val) : Option (D_Val × Unit) := DF X 105 ((a0, ()) : (D_Val) × Unit)
noncomputable def laws_toVal (a0 : D_Val) : Option (D_Val × Unit) := DF X 106 ((a0, ()) : (D_Val) × Unit)
noncomputable def impl_oneOf (a0 : (List ByteArray)) (a1 : ByteArray) : Option (Bool × Unit) := DF X 107 ((a0, a1, ()) : ((List ByteArray)) × (ByteArray) × Unit)
noncomputable def impl_ArityOk (a0 : (List ByteArray)) : Option (Bool × Unit) := DF X 108 ((a0, ()) : ((List ByteArray)) × Unit)
noncomputable def __loop_example_g00124_impl_desk__put (a0 : D_desk) (a1 : ByteArray) (a2 : D_Val) : Option (Unit × (D_desk × Unit)) := DF X 112 ((a0, a1, a2, ()) : (D_desk) × (ByteArray) × (D_Val) × Unit)
noncomputable def slices_Contains___string_string_ (a0 : (List ByteArray)) (a1 : ByteArray) : Option (Bool × Unit) := DF X 115 ((a0, a1, ()) : ((List ByteArray)) × (ByteArray) × Unit)
noncomputable def __loop_example_g00124_impl_desk__fault (a0 : D_desk) (a1 : ByteArray) : Option (Unit × (D_desk × Unit)) := DF X 117 ((a0, a1, ()) : (D_desk) × (ByteArray) × Unit)
noncomputable def laws_eqVal (a0 : D_Val) (a1 : D_Val) : Option (Bool × Unit) := DF X 118 ((a0, a1, ()) : (D_Val) × (D_Val) × Unit)
noncomputable def impl_Bulk (a0 : ByteArray) : Option (ByteArray × Unit) := DF X 121 ((a0, ()) : (ByteArray) × Unit)
noncomputable def spec_ReadDecimal (a0 : ByteArray) : Option ((Int × Bool) × Unit) := DF X 124 ((a0, ()) : (ByteArray) × Unit)
noncomputable def spec_ReadDecimal_L0 (x0 : ByteArray) (x4 : Int) (x5 : Int) : Option ((Int × Bool) × Unit) := loopAt X 124 0 [] (mkSt 42 [(0, .sv (.str x0)), (4, .sv (.int .i64 x4)), (5, .sv (.int .i64 x5))] [])
noncomputable def __loop_example_g00124_impl_desk__number (a0 : D_desk) (a1 : ByteArray) : Option (Int × (D_desk × Unit)) := DF X 127 ((a0, a1, ()) : (D_desk) × (ByteArray) × Unit)
noncomputable def impl_Decimal (a0 : Int) : Option (ByteArray × Unit) := DF X 129 ((a0, ()) : (Int) × Unit)
noncomputable def impl_Find (a0 : (List D_Entry)) (a1 : ByteArray) : Option ((D_Val × Bool) × Unit) := DF X 130 ((a0, a1, ()) : ((List D_Entry)) × (ByteArray) × Unit)
noncomputable def __loop_example_g00124_impl_desk__counted (a0 : D_desk) (a1 : (List ByteArray)) (a2 : Bool) : Option (Int × (D_desk × Unit)) := DF X 131 ((a0, a1, a2, ()) : (D_desk) × ((List ByteArray)) × (Bool) × Unit)
noncomputable def __loop_example_g00124_impl_desk__counted_L0 (x2 : Bool) (x7 : Int) (x12 : (List ByteArray)) (x13 : Int) (x14 : Int) (b3000000_0 : (List D_Entry)) (b3000000_1 : ByteArray) (b3000000_2 : Bool) : Option (Int × (D_desk × Unit)) := loopAt X 131 0 [] (mkSt 36 [(0, .sv (.ptr 3000000 0)), (2, .sv (.bool x2)), (7, .sv (.int .i64 x7)), (12, .sv (.lst .str x12)), (13, .sv (.int .i64 x13)), (14, .sv (.int .i64 x14))] [(194000000, .live (.row (.pr .str (.pr I (.pr I (.pr .str (.ls .str))))) b3000000_0 0)), (3000000, .live (.box [(.own 194000000), (.str b3000000_1), (.bool b3000000_2)]))])
noncomputable def impl_typeName (a0 : D_Val) (a1 : Bool) : Option (ByteArray × Unit) := DF X 132 ((a0, a1, ()) : (D_Val) × (Bool) × Unit)
noncomputable def __loop_example_g00124_impl_desk__expire (a0 : D_desk) (a1 : Int) (a2 : ByteArray) (a3 : ByteArray) : Option (Unit × (D_desk × Unit)) := DF X 133 ((a0, a1, a2, a3, ()) : (D_desk) × (Int) × (ByteArray) × (ByteArray) × Unit)
noncomputable def impl_left (a0 : D_Val) (a1 : Bool) (a2 : Int) : Option (Int × Unit) := DF X 134 ((a0, a1, a2, ()) : (D_Val) × (Bool) × (Int) × Unit)
noncomputable def spec_ValOk (a0 : D_Val) : Option (Bool × Unit) := DF X 135 ((a0, ()) : (D_Val) × Unit)
noncomputable def spec_ValOk_L0 (x3 : Int) (b0_0 : Int) (b0_1 : Int) (b0_2 : ByteArray) (b0_3 : (List ByteArray)) : Option (Bool × Unit) := loopAt X 135 0 [] (mkSt 112 [(1, .sv (.ptr 0 0)), (3, .sv (.int .i64 x3))] [(0, .live (.box [(.int .i64 b0_0), (.int .i64 b0_1), (.str b0_2), (.lst .str b0_3)]))])
noncomputable def spec_ValOk_L1700000 (b0_0 : Int) (b0_1 : Int) (b0_2 : ByteArray) (b0_3 : (List ByteArray)) : Option (Bool × Unit) := loopAt X 135 1700000 [] (mkSt 112 [(1, .sv (.ptr 0 0))] [(0, .live (.box [(.int .i64 b0_0), (.int .i64 b0_1), (.str b0_2), (.lst .str b0_3)]))])
noncomputable def spec_ValOk_L1700001 (x13 : Bool) (b0_0 : Int) (b0_1 : Int) (b0_2 : ByteArray) (b0_3 : (List ByteArray)) : Option (Bool × Unit) := loopAt X 135 1700001 [] (mkSt 112 [(1, .sv (.ptr 0 0)), (13, .sv (.bool x13))] [(0, .live (.box [(.int .i64 b0_0), (.int .i64 b0_1), (.str b0_2), (.lst .str b0_3)]))])
noncomputable def spec_ValOk_L1700002 (x2 : Bool) : Option (Bool × Unit) := loopAt X 135 1700002 [] (mkSt 112 [(2, .sv (.bool x2))] [])
noncomputable def spec_ValOk_L1700003 (x16 : Bool) (b0_0 : Int) (b0_1 : Int) (b0_2 : ByteArray) (b0_3 : (List ByteArray)) : Option (Bool × Unit) := loopAt X 135 1700003 [] (mkSt 112 [(1, .sv (.ptr 0 0)), (16, .sv (.bool x16))] [(0, .live (.box [(.int .i64 b0_0), (.int .i64 b0_1), (.str b0_2), (.lst .str b0_3)]))])
noncomputable def spec_ValOk_L1700004 (x2 : Bool) : Option (Bool × Unit) := loopAt X 135 1700004 [] (mkSt 112 [(2, .sv (.bool x2))] [])
noncomputable def spec_ValOk_L1700005 (x48 : Bool) (b0_0 : Int) (b0_1 : Int) (b0_2 : ByteArray) (b0_3 : (List ByteArray)) : Option (Bool × Unit) := loopAt X 135 1700005 [] (mkSt 112 [(1, .sv (.ptr 0 0)), (48, .sv (.bool x48))] [(0, .live (.box [(.int .i64 b0_0), (.int .i64 b0_1), (.str b0_2), (.lst .str b0_3)]))])
noncomputable def spec_ValOk_L1700006 (x2 : Bool) : Option (Bool × Unit) := loopAt X 135 1700006 [] (mkSt 112 [(2, .sv (.bool x2))] [])
noncomputable def spec_ValOk_L1700007 (x3 : Int) (b0_0 : Int) (b0_1 : Int) (b0_2 : ByteArray) (b0_3 : (List ByteArray)) : Option (Bool × Unit) := loopAt X 135 1700007 [] (mkSt 112 [(1, .sv (.ptr 0 0)), (3, .sv (.int .i64 x3))] [(0, .live (.box [(.int .i64 b0_0), (.int .i64 b0_1), (.str b0_2), (.lst .str b0_3)]))])
noncomputable def spec_ValOk_L1700008 (x3 : Int) (x53 : Bool) (b0_0 : Int) (b0_1 : Int) (b0_2 : ByteArray) (b0_3 : (List ByteArray)) : Option (Bool × Unit) := loopAt X 135 1700008 [0] (mkSt 112 [(1, .sv (.ptr 0 0)), (3, .sv (.int .i64 x3)), (53, .sv (.bool x53))] [(0, .live (.box [(.int .i64 b0_0), (.int .i64 b0_1), (.str b0_2), (.lst .str b0_3)]))])
noncomputable def spec_ValOk_L1700010 (x3 : Int) (x62 : Bool) (b0_0 : Int) (b0_1 : Int) (b0_2 : ByteArray) (b0_3 : (List ByteArray)) : Option (Bool × Unit) := loopAt X 135 1700010 [0] (mkSt 112 [(1, .sv (.ptr 0 0)), (3, .sv (.int .i64 x3)), (62, .sv (.bool x62))] [(0, .live (.box [(.int .i64 b0_0), (.int .i64 b0_1), (.str b0_2), (.lst .str b0_3)]))])
noncomputable def spec_ValOk_L1700011 (x2 : Bool) : Option (Bool × Unit) := loopAt X 135 1700011 [0] (mkSt 112 [(2, .sv (.bool x2))] [])
noncomputable def spec_ValOk_L1700012 (x3 : Int) (x111 : Bool) (b0_0 : Int) (b0_1 : Int) (b0_2 : ByteArray) (b0_3 : (List ByteArray)) : Option (Bool × Unit) := loopAt X 135 1700012 [0] (mkSt 112 [(1, .sv (.ptr 0 0)), (3, .sv (.int .i64 x3)), (111, .sv (.bool x111))] [(0, .live (.box [(.int .i64 b0_0), (.int .i64 b0_1), (.str b0_2), (.lst .str b0_3)]))])
noncomputable def spec_ValOk_L1700013 (x2 : Bool) : Option (Bool × Unit) := loopAt X 135 1700013 [0] (mkSt 112 [(2, .sv (.bool x2))] [])
noncomputable def spec_ValOk_L1700014 (x2 : Bool) : Option (Bool × Unit) := loopAt X 135 1700014 [] (mkSt 112 [(2, .sv (.bool x2))] [])
noncomputable def spec_Commands : Option ((List ByteArray) × Unit) := DF X 136 (() : Unit)
noncomputable def impl_keyOk (a0 : ByteArray) : Option (Bool × Unit) := DF X 141 ((a0, ()) : (ByteArray) × Unit)
noncomputable def impl_ValOk (a0 : D_Val) : Option (Bool × Unit) := DF X 142 ((a0, ()) : (D_Val) × Unit)
noncomputable def impl_copyVal (a0 : D_Val) : Option (D_Val × Unit) := DF X 143 ((a0, ()) : (D_Val) × Unit)
noncomputable def spec_l01Figure (a0 : Int) : Option (Int × Unit) := DF X 148 ((a0, ()) : (Int) × Unit)
noncomputable def slices_BinarySearchFunc___loop_example_g00124_impl_Entry_loop_example_g00124_impl_Entry_string_ (a0 : (List D_Entry)) (a1 : ByteArray) (a2 : Unit) : Option ((Int × Bool) × ((Unit) × Unit)) := DF X 154 ((a0, a1, a2, ()) : ((List D_Entry)) × (ByteArray) × (Unit) × Unit)
noncomputable def slices_BinarySearchFunc___loop_example_g00124_impl_Entry_loop_example_g00124_impl_Entry_string__L0 (x0 : (List D_Entry)) (x1 : ByteArray) (x8 : Int) (x9 : Int) (x10 : Int) : Option ((Int × Bool) × ((Unit) × Unit)) := loopAt X 154 0 [] (mkSt 49 [(0, .sv (.lst T_Entry x0)), (1, .sv (.str x1)), (2, .sv (.clo 155 [])), (8, .sv (.int .i64 x8)), (9, .sv (.int .i64 x9)), (10, .sv (.int .i64 x10))] [])
noncomputable def __loop_example_g00124_impl_desk__put_1 (a0 : D_Entry) (a1 : ByteArray) : Option (Int × Unit) := DF X 155 ((a0, a1, ()) : (D_Entry) × (ByteArray) × Unit)
noncomputable def slices_Index___string_string_ (a0 : (List ByteArray)) (a1 : ByteArray) : Option (Int × Unit) := DF X 159 ((a0, a1, ()) : ((List ByteArray)) × (ByteArray) × Unit)
noncomputable def slices_Index___string_string__L0 (x0 : (List ByteArray)) (x1 : ByteArray) (x7 : Int) (x8 : Int) : Option (Int × Unit) := loopAt X 159 0 [] (mkSt 19 [(0, .sv (.lst .str x0)), (1, .sv (.str x1)), (7, .sv (.int .i64 x7)), (8, .sv (.int .i64 x8))] [])
noncomputable def __loop_example_g00124_impl_desk__drop (a0 : D_desk) (a1 : ByteArray) : Option (Bool × (D_desk × Unit)) := DF X 160 ((a0, a1, ()) : (D_desk) × (ByteArray) × Unit)
noncomputable def impl_ReadInt (a0 : ByteArray) : Option ((Int × Bool) × Unit) := DF X 161 ((a0, ()) : (ByteArray) × Unit)
noncomputable def impl_Find_1 (a0 : D_Entry) (a1 : ByteArray) : Option (Bool × Unit) := DF X 164 ((a0, a1, ()) : (D_Entry) × (ByteArray) × Unit)
noncomputable def impl_itemsOk (a0 : Int) (a1 : (List ByteArray)) : Option (Bool × Unit) := DF X 165 ((a0, a1, ()) : (Int) × ((List ByteArray)) × Unit)
noncomputable def impl_itemsOk_L1 (x1 : (List ByteArray)) (x5 : Int) (x17 : (List ByteArray)) (x18 : Int) (x19 : Int) : Option (Bool × Unit) := loopAt X 165 1 [] (mkSt 56 [(1, .sv (.lst .str x1)), (5, .sv (.int .i64 x5)), (17, .sv (.lst .str x17)), (18, .sv (.int .i64 x18)), (19, .sv (.int .i64 x19))] [])
noncomputable def __loop_example_g00124_impl_desk__drop_1 (a0 : D_Entry) (a1 : ByteArray) : Option (Bool × Unit) := DF X 175 ((a0, a1, ()) : (D_Entry) × (ByteArray) × Unit)
noncomputable def slices_IndexFunc_Entry_Find (a0 : (List D_Entry)) (a1 : ByteArray × Unit) : Option (Int × ((Unit) × Unit)) := DF X 1001 ((a0, a1, ()) : ((List D_Entry)) × (ByteArray × Unit) × Unit)
noncomputable def slices_IndexFunc_Entry_Find_L0 (x0 : (List D_Entry)) (x7 : Int) (x8 : Int) (b3000064_0 : ByteArray) : Option (Int × ((Unit) × Unit)) := loopAt X 1001 0 [] (mkSt 19 [(0, .sv (.lst T_Entry x0)), (1, .sv (.clo 164 [3000064])), (7, .sv (.int .i64 x7)), (8, .sv (.int .i64 x8))] [(3000064, .live (.cbox [(.str b3000064_0)]))])
noncomputable def slices_IndexFunc_Entry_drop (a0 : (List D_Entry)) (a1 : ByteArray × Unit) : Option (Int × ((Unit) × Unit)) := DF X 1003 ((a0, a1, ()) : ((List D_Entry)) × (ByteArray × Unit) × Unit)
noncomputable def slices_IndexFunc_Entry_drop_L0 (x0 : (List D_Entry)) (x7 : Int) (x8 : Int) (b3000064_0 : ByteArray) : Option (Int × ((Unit) × Unit)) := loopAt X 1003 0 [] (mkSt 19 [(0, .sv (.lst T_Entry x0)), (1, .sv (.clo 175 [3000064])), (7, .sv (.int .i64 x7)), (8, .sv (.int .i64 x8))] [(3000064, .live (.cbox [(.str b3000064_0)]))])
noncomputable def slices_DeleteFunc_Entry_drop (a0 : (List D_Entry)) (a1 : ByteArray × Unit) : Option ((List D_Entry) × ((Unit) × Unit)) := DF X 1012 ((a0, a1, ()) : ((List D_Entry)) × (ByteArray × Unit) × Unit)
noncomputable def slices_DeleteFunc_Entry_drop_L0 (x0 : (List D_Entry)) (x5 : Int) (x6 : Int) (b3000064_0 : ByteArray) : Option ((List D_Entry) × ((Unit) × Unit)) := loopAt X 1012 0 [] (mkSt 42 [(0, .sv (.own 1000000)), (1, .sv (.clo 175 [3000064])), (5, .sv (.int .i64 x5)), (6, .sv (.int .i64 x6))] [(1000000, .live (.row (.pr .str (.pr I (.pr I (.pr .str (.ls .str))))) x0 0)), (3000064, .live (.cbox [(.str b3000064_0)]))])
end Go.Den.S
