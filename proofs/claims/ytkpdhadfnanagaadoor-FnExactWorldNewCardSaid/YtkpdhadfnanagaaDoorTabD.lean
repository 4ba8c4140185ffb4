/- TabD: equations of the functions of this seat as the executor tells them, or plain facts about them. Conditions: none here. -/
import Derived.Test.YtkpdhadfnanagaaDoorDenFour
import Derived.Test.YtkpdhadfnanagaaDoorProg
set_option linter.all false
namespace Go.Den.S
open Go Go.Den Go.Proofs
abbrev I : Ty := .int .i64
abbrev w64 (n : Int) : Int := IntKind.i64.wrap n
abbrev T_File : Ty := (.pr .str (.pr .str I))
abbrev D_File : Type := (ByteArray × (ByteArray × Int))
abbrev T_Spot : Ty := (.pr .str (.pr I (.pr I I)))
abbrev D_Spot : Type := (ByteArray × (Int × (Int × Int)))
abbrev T_Disk : Ty := (.sl T_File)
abbrev D_Disk : Type := (List D_File)
abbrev T_Val : Ty := (.pr I (.pr I (.pr .str (.sl .str))))
abbrev D_Val : Type := (Int × (Int × (ByteArray × (List ByteArray))))
abbrev T_Entry : Ty := (.pr .str T_Val)
abbrev D_Entry : Type := (ByteArray × D_Val)
abbrev T_Conn : Ty := (.pr .str (.pr .bool (.pr .bool (.pr (.sl (.sl .str)) .bool))))
abbrev D_Conn : Type := (ByteArray × (Bool × (Bool × ((List (List ByteArray)) × Bool))))
abbrev T_Unit : Ty := (.pr I (.pr I (.pr (.sl (.sl .str)) (.pr .bool (.pr .str .bool)))))
abbrev D_Unit : Type := (Int × (Int × ((List (List ByteArray)) × (Bool × (ByteArray × Bool)))))
abbrev T_Engine : Ty := (.pr T_Disk (.pr I (.pr I (.pr I (.sl T_Spot)))))
abbrev D_Engine : Type := (D_Disk × (Int × (Int × (Int × (List D_Spot)))))
abbrev T_World : Ty := (.pr T_Engine (.pr (.sl T_Entry) (.pr I (.pr (.sl T_Conn) (.pr (.sl .str) (.pr (.sl T_Unit) .bool))))))
abbrev D_World : Type := (D_Engine × ((List D_Entry) × (Int × ((List D_Conn) × ((List ByteArray) × ((List D_Unit) × Bool))))))
abbrev c___1_262 : ByteArray := ⟨#[45]⟩
abbrev c_m0 : ByteArray := ⟨#[109, 48]⟩
abbrev c_m : ByteArray := ⟨#[109]⟩
abbrev c_0 : ByteArray := ⟨#[48]⟩
abbrev c_b : ByteArray := ⟨#[98]⟩
abbrev c_H : ByteArray := ⟨#[72]⟩
def V (v : Nat) : Sig := (bif Nat.ble v 73
  then (bif Nat.ble v 39
  then (bif Nat.ble v 22
  then (bif Nat.ble v 13
  then (bif Nat.ble v 9
  then (bif Nat.ble v 7
  then (bif Nat.ble v 4
  then (bif Nat.beq v 4 then ⟨4, [.val (.sl (.int .u8))], [.own .bool]⟩ else ⟨0, [], []⟩)
  else (bif Nat.beq v 7 then ⟨7, [.val (.sl (.int .u8))], [.own .bool]⟩ else ⟨0, [], []⟩))
  else (bif Nat.ble v 8
  then (bif Nat.beq v 8 then ⟨8, [.val T_Conn], [.own .bool]⟩ else ⟨0, [], []⟩)
  else (bif Nat.beq v 9 then ⟨9, [.val I], [.own .bool]⟩ else ⟨0, [], []⟩)))
  else (bif Nat.ble v 11
  then (bif Nat.ble v 10
  then (bif Nat.beq v 10 then ⟨10, [.val T_Conn, .val I], [.own I]⟩ else ⟨0, [], []⟩)
  else (bif Nat.beq v 11 then ⟨11, [.val T_Conn], [.own .bool]⟩ else ⟨0, [], []⟩))
  else (bif Nat.ble v 12
  then (bif Nat.beq v 12 then ⟨12, [.val T_Conn], [.own T_Conn]⟩ else ⟨0, [], []⟩)
  else (bif Nat.beq v 13 then ⟨13, [.val T_Conn], [.own .bool]⟩ else ⟨0, [], []⟩))))
  else (bif Nat.ble v 17
  then (bif Nat.ble v 15
  then (bif Nat.ble v 14
  then (bif Nat.beq v 14 then ⟨14, [.val T_Conn, .val T_Conn], [.own .bool]⟩ else ⟨0, [], []⟩)
  else (bif Nat.beq v 15 then ⟨15, [.val (.sl (.int .u8))], [.own .bool]⟩ else ⟨0, [], []⟩))
  else (bif Nat.ble v 16
  then (bif Nat.beq v 16 then ⟨16, [.val (.sl (.int .u8))], [.lst (.sl (.sl .str))]⟩ else ⟨0, [], []⟩)
  else (bif Nat.beq v 17 then ⟨17, [.val T_Conn, .val (.sl .str)], [.own T_Conn, .own (.sl (.sl .str)), .own .str, .own I]⟩ else ⟨0, [], []⟩)))
  else (bif Nat.ble v 19
  then (bif Nat.ble v 18
  then (bif Nat.beq v 18 then ⟨18, [.val .str], [.own .str]⟩ else ⟨0, [], []⟩)
  else (bif Nat.beq v 19 then ⟨19, [.val (.sl .str)], [.own .str]⟩ else ⟨0, [], []⟩))
  else (bif Nat.ble v 20
  then (bif Nat.beq v 20 then ⟨20, [.val (.sl .str), .val (.sl .str)], [.own .bool]⟩ else ⟨0, [], []⟩)
  else (bif Nat.beq v 22 then ⟨22, [.val T_Conn, .val .str], [.own T_Conn, .own .bool]⟩ else ⟨0, [], []⟩)))))
  else (bif Nat.ble v 31
  then (bif Nat.ble v 27
  then (bif Nat.ble v 24
  then (bif Nat.ble v 23
  then (bif Nat.beq v 23 then ⟨23, [.mut T_Conn, .val I], [.own I]⟩ else ⟨0, [], []⟩)
  else (bif Nat.beq v 24 then ⟨24, [.val T_Conn, .val I], [.own I]⟩ else ⟨0, [], []⟩))
  else (bif Nat.ble v 25
  then (bif Nat.beq v 25 then ⟨25, [.val (.sl .str), .val I], [.own I]⟩ else ⟨0, [], []⟩)
  else (bif Nat.beq v 27 then ⟨27, [.val (.sl .str)], [.own (.sl .str)]⟩ else ⟨0, [], []⟩)))
  else (bif Nat.ble v 29
  then (bif Nat.ble v 28
  then (bif Nat.beq v 28 then ⟨28, [.val (.sl (.sl .str)), .val (.sl (.sl .str))], [.own .bool]⟩ else ⟨0, [], []⟩)
  else (bif Nat.beq v 29 then ⟨29, [.val (.sl .str), .val (.sl .str)], [.own .bool]⟩ else ⟨0, [], []⟩))
  else (bif Nat.ble v 30
  then (bif Nat.beq v 30 then ⟨30, [.mut (.sl .str), .val I], [.own I]⟩ else ⟨0, [], []⟩)
  else (bif Nat.beq v 31 then ⟨31, [.mut (.sl (.sl .str)), .val I], [.own I]⟩ else ⟨0, [], []⟩))))
  else (bif Nat.ble v 35
  then (bif Nat.ble v 33
  then (bif Nat.ble v 32
  then (bif Nat.beq v 32 then ⟨32, [.val (.sl (.sl .str)), .val I], [.own I]⟩ else ⟨0, [], []⟩)
  else (bif Nat.beq v 33 then ⟨33, [.val (.sl .str)], [.own .str, .own .bool]⟩ else ⟨0, [], []⟩))
  else (bif Nat.ble v 34
  then (bif Nat.beq v 34 then ⟨34, [.val (.sl (.int .u8))], [.own (.sl I)]⟩ else ⟨0, [], []⟩)
  else (bif Nat.beq v 35 then ⟨35, [.val T_Conn], [.own T_Conn, .own (.sl .str), .own I]⟩ else ⟨0, [], []⟩)))
  else (bif Nat.ble v 37
  then (bif Nat.ble v 36
  then (bif Nat.beq v 36 then ⟨36, [.val T_Conn], [.own T_Conn, .own (.sl .str), .own I]⟩ else ⟨0, [], []⟩)
  else (bif Nat.beq v 37 then ⟨37, [.val (.sl .str), .val I], [.own I]⟩ else ⟨0, [], []⟩))
  else (bif Nat.ble v 38
  then (bif Nat.beq v 38 then ⟨38, [.val I], [.own T_World, .own .bool]⟩ else ⟨0, [], []⟩)
  else (bif Nat.beq v 39 then ⟨39, [.val I], [.own T_World, .own .bool]⟩ else ⟨0, [], []⟩))))))
  else (bif Nat.ble v 55
  then (bif Nat.ble v 47
  then (bif Nat.ble v 43
  then (bif Nat.ble v 41
  then (bif Nat.ble v 40
  then (bif Nat.beq v 40 then ⟨40, [.val T_World, .val T_World], [.own .bool]⟩ else ⟨0, [], []⟩)
  else (bif Nat.beq v 41 then ⟨41, [.mut T_World, .val I], [.own I]⟩ else ⟨0, [], []⟩))
  else (bif Nat.ble v 42
  then (bif Nat.beq v 42 then ⟨42, [.val T_World, .val I], [.own I]⟩ else ⟨0, [], []⟩)
  else (bif Nat.beq v 43 then ⟨43, [.val (.sl (.sl .str)), .val I], [.own I]⟩ else ⟨0, [], []⟩)))
  else (bif Nat.ble v 45
  then (bif Nat.ble v 44
  then (bif Nat.beq v 44 then ⟨44, [.val T_Conn], [.own .bool]⟩ else ⟨0, [], []⟩)
  else (bif Nat.beq v 45 then ⟨45, [.val (.sl (.sl .str))], [.own (.sl (.sl .str))]⟩ else ⟨0, [], []⟩))
  else (bif Nat.ble v 46
  then (bif Nat.beq v 46 then ⟨46, [.val (.sl (.sl .str)), .clo 47 []], [.own .bool]⟩ else ⟨0, [], []⟩)
  else (bif Nat.beq v 47 then ⟨47, [.val (.sl .str)], [.own .bool]⟩ else ⟨0, [], []⟩))))
  else (bif Nat.ble v 51
  then (bif Nat.ble v 49
  then (bif Nat.ble v 48
  then (bif Nat.beq v 48 then ⟨48, [.val (.sl .str)], [.own .str]⟩ else ⟨0, [], []⟩)
  else (bif Nat.beq v 49 then ⟨49, [.val (.sl (.int .u8))], [.ptr (.pr (.ls (.int .u8)) (.pr I I))]⟩ else ⟨0, [], []⟩))
  else (bif Nat.ble v 50
  then (bif Nat.beq v 50 then ⟨50, [.ptr (.pr (.ls (.int .u8)) (.pr I I)), .val I], [.own I]⟩ else ⟨0, [], []⟩)
  else (bif Nat.beq v 51 then ⟨51, [.ptr (.pr (.ls (.int .u8)) (.pr I I))], [.own (.sl .str)]⟩ else ⟨0, [], []⟩)))
  else (bif Nat.ble v 53
  then (bif Nat.ble v 52
  then (bif Nat.beq v 52 then ⟨52, [.val T_Conn], [.own T_Conn]⟩ else ⟨0, [], []⟩)
  else (bif Nat.beq v 53 then ⟨53, [.val .str], [.own .str]⟩ else ⟨0, [], []⟩))
  else (bif Nat.ble v 54
  then (bif Nat.beq v 54 then ⟨54, [.val .str], [.own .str]⟩ else ⟨0, [], []⟩)
  else (bif Nat.beq v 55 then ⟨55, [.val .str], [.own .str]⟩ else ⟨0, [], []⟩)))))
  else (bif Nat.ble v 65
  then (bif Nat.ble v 59
  then (bif Nat.ble v 57
  then (bif Nat.ble v 56
  then (bif Nat.beq v 56 then ⟨56, [.val (.sl (.sl .str))], [.own (.sl (.sl .str))]⟩ else ⟨0, [], []⟩)
  else (bif Nat.beq v 57 then ⟨57, [.own T_Conn, .val (.sl .str)], [.own T_Conn, .own (.sl (.sl .str)), .own .str, .own I]⟩ else ⟨0, [], []⟩))
  else (bif Nat.ble v 58
  then (bif Nat.beq v 58 then ⟨58, [.val (.sl .str), .val .str], [.own .bool]⟩ else ⟨0, [], []⟩)
  else (bif Nat.beq v 59 then ⟨59, [], [.own (.sl .str)]⟩ else ⟨0, [], []⟩)))
  else (bif Nat.ble v 61
  then (bif Nat.ble v 60
  then (bif Nat.beq v 60 then ⟨60, [.val .str], [.own .str]⟩ else ⟨0, [], []⟩)
  else (bif Nat.beq v 61 then ⟨61, [.val (.sl .str)], [.own .bool]⟩ else ⟨0, [], []⟩))
  else (bif Nat.ble v 62
  then (bif Nat.beq v 62 then ⟨62, [.val T_Conn], [.own T_Conn]⟩ else ⟨0, [], []⟩)
  else (bif Nat.beq v 65 then ⟨65, [.val I], [.own .str]⟩ else ⟨0, [], []⟩))))
  else (bif Nat.ble v 69
  then (bif Nat.ble v 67
  then (bif Nat.ble v 66
  then (bif Nat.beq v 66 then ⟨66, [.val I], [.own .str]⟩ else ⟨0, [], []⟩)
  else (bif Nat.beq v 67 then ⟨67, [.ptr (.pr (.ls (.int .u8)) (.pr I I))], [.own I]⟩ else ⟨0, [], []⟩))
  else (bif Nat.ble v 68
  then (bif Nat.beq v 68 then ⟨68, [.val .str], [.own (.sl .str), .own I, .own I]⟩ else ⟨0, [], []⟩)
  else (bif Nat.beq v 69 then ⟨69, [.val .str], [.own (.sl .str), .own I, .own I]⟩ else ⟨0, [], []⟩)))
  else (bif Nat.ble v 71
  then (bif Nat.ble v 70
  then (bif Nat.beq v 70 then ⟨70, [.val I], [.own T_Engine, .own .bool]⟩ else ⟨0, [], []⟩)
  else (bif Nat.beq v 71 then ⟨71, [.val I], [.own T_Engine, .own .bool]⟩ else ⟨0, [], []⟩))
  else (bif Nat.ble v 72
  then (bif Nat.beq v 72 then ⟨72, [.val T_Engine, .val T_Engine], [.own .bool]⟩ else ⟨0, [], []⟩)
  else (bif Nat.beq v 73 then ⟨73, [.val (.sl T_Entry), .val (.sl T_Entry)], [.own .bool]⟩ else ⟨0, [], []⟩)))))))
  else (bif Nat.ble v 105
  then (bif Nat.ble v 89
  then (bif Nat.ble v 81
  then (bif Nat.ble v 77
  then (bif Nat.ble v 75
  then (bif Nat.ble v 74
  then (bif Nat.beq v 74 then ⟨74, [.val (.sl T_Conn), .val (.sl T_Conn)], [.own .bool]⟩ else ⟨0, [], []⟩)
  else (bif Nat.beq v 75 then ⟨75, [.val (.sl T_Unit), .val (.sl T_Unit)], [.own .bool]⟩ else ⟨0, [], []⟩))
  else (bif Nat.ble v 76
  then (bif Nat.beq v 76 then ⟨76, [.mut T_Engine, .val I], [.own I]⟩ else ⟨0, [], []⟩)
  else (bif Nat.beq v 77 then ⟨77, [.mut (.sl T_Entry), .val I], [.own I]⟩ else ⟨0, [], []⟩)))
  else (bif Nat.ble v 79
  then (bif Nat.ble v 78
  then (bif Nat.beq v 78 then ⟨78, [.mut (.sl T_Conn), .val I], [.own I]⟩ else ⟨0, [], []⟩)
  else (bif Nat.beq v 79 then ⟨79, [.mut (.sl T_Unit), .val I], [.own I]⟩ else ⟨0, [], []⟩))
  else (bif Nat.ble v 80
  then (bif Nat.beq v 80 then ⟨80, [.val T_Engine, .val I], [.own I]⟩ else ⟨0, [], []⟩)
  else (bif Nat.beq v 81 then ⟨81, [.val (.sl T_Entry), .val I], [.own I]⟩ else ⟨0, [], []⟩))))
  else (bif Nat.ble v 85
  then (bif Nat.ble v 83
  then (bif Nat.ble v 82
  then (bif Nat.beq v 82 then ⟨82, [.val (.sl T_Conn), .val I], [.own I]⟩ else ⟨0, [], []⟩)
  else (bif Nat.beq v 83 then ⟨83, [.val (.sl T_Unit), .val I], [.own I]⟩ else ⟨0, [], []⟩))
  else (bif Nat.ble v 84
  then (bif Nat.beq v 84 then ⟨84, [.val (.sl (.sl .str)), .clo 47 []], [.own I]⟩ else ⟨0, [], []⟩)
  else (bif Nat.beq v 85 then ⟨85, [.val (.sl .str), .val .str], [.own .bool]⟩ else ⟨0, [], []⟩)))
  else (bif Nat.ble v 87
  then (bif Nat.ble v 86
  then (bif Nat.beq v 86 then ⟨86, [.val (.sl .str)], [.own .bool]⟩ else ⟨0, [], []⟩)
  else (bif Nat.beq v 87 then ⟨87, [.ptr (.pr (.ls (.int .u8)) (.pr I I)), .val I], [.own .bool]⟩ else ⟨0, [], []⟩))
  else (bif Nat.ble v 88
  then (bif Nat.beq v 88 then ⟨88, [.ptr (.pr (.ls (.int .u8)) (.pr I I)), .val (.sl .str)], [.own .str]⟩ else ⟨0, [], []⟩)
  else (bif Nat.beq v 89 then ⟨89, [.ptr (.pr (.ls (.int .u8)) (.pr I I))], [.own .str]⟩ else ⟨0, [], []⟩)))))
  else (bif Nat.ble v 97
  then (bif Nat.ble v 93
  then (bif Nat.ble v 91
  then (bif Nat.ble v 90
  then (bif Nat.beq v 90 then ⟨90, [.ptr (.pr (.ls (.int .u8)) (.pr I I))], [.own .str]⟩ else ⟨0, [], []⟩)
  else (bif Nat.beq v 91 then ⟨91, [.ptr (.pr (.ls (.int .u8)) (.pr I I)), .val .str], [.own (.sl .str)]⟩ else ⟨0, [], []⟩))
  else (bif Nat.ble v 92
  then (bif Nat.beq v 92 then ⟨92, [.val I], [.own (.int .u8)]⟩ else ⟨0, [], []⟩)
  else (bif Nat.beq v 93 then ⟨93, [.val .str], [.own (.sl .str), .own I, .own I]⟩ else ⟨0, [], []⟩)))
  else (bif Nat.ble v 95
  then (bif Nat.ble v 94
  then (bif Nat.beq v 94 then ⟨94, [.val .str, .val I, .val I], [.own I, .own I, .own I]⟩ else ⟨0, [], []⟩)
  else (bif Nat.beq v 95 then ⟨95, [.val .str, .val I], [.own .str, .own I, .own I]⟩ else ⟨0, [], []⟩))
  else (bif Nat.ble v 96
  then (bif Nat.beq v 96 then ⟨96, [.val .str], [.own (.sl .str), .own I, .own I]⟩ else ⟨0, [], []⟩)
  else (bif Nat.beq v 97 then ⟨97, [.val .str, .val I, .val I], [.own I, .own I]⟩ else ⟨0, [], []⟩))))
  else (bif Nat.ble v 101
  then (bif Nat.ble v 99
  then (bif Nat.ble v 98
  then (bif Nat.beq v 98 then ⟨98, [.val I], [.own I]⟩ else ⟨0, [], []⟩)
  else (bif Nat.beq v 99 then ⟨99, [.val I, .val I, .val I], [.own .bool]⟩ else ⟨0, [], []⟩))
  else (bif Nat.ble v 100
  then (bif Nat.beq v 100 then ⟨100, [.val I, .val I], [.own .str, .own .bool]⟩ else ⟨0, [], []⟩)
  else (bif Nat.beq v 101 then ⟨101, [.val I], [.own .str]⟩ else ⟨0, [], []⟩)))
  else (bif Nat.ble v 103
  then (bif Nat.ble v 102
  then (bif Nat.beq v 102 then ⟨102, [.val I, .val I, .val I], [.own .bool]⟩ else ⟨0, [], []⟩)
  else (bif Nat.beq v 103 then ⟨103, [.val I, .val I], [.own .str, .own .bool]⟩ else ⟨0, [], []⟩))
  else (bif Nat.ble v 104
  then (bif Nat.beq v 104 then ⟨104, [.val I], [.own .str]⟩ else ⟨0, [], []⟩)
  else (bif Nat.beq v 105 then ⟨105, [.val T_Disk, .val T_Disk], [.own .bool]⟩ else ⟨0, [], []⟩))))))
  else (bif Nat.ble v 121
  then (bif Nat.ble v 113
  then (bif Nat.ble v 109
  then (bif Nat.ble v 107
  then (bif Nat.ble v 106
  then (bif Nat.beq v 106 then ⟨106, [.val (.sl T_Spot), .val (.sl T_Spot)], [.own .bool]⟩ else ⟨0, [], []⟩)
  else (bif Nat.beq v 107 then ⟨107, [.val T_Entry, .val T_Entry], [.own .bool]⟩ else ⟨0, [], []⟩))
  else (bif Nat.ble v 108
  then (bif Nat.beq v 108 then ⟨108, [.val T_Unit, .val T_Unit], [.own .bool]⟩ else ⟨0, [], []⟩)
  else (bif Nat.beq v 109 then ⟨109, [.mut T_Disk, .val I], [.own I]⟩ else ⟨0, [], []⟩)))
  else (bif Nat.ble v 111
  then (bif Nat.ble v 110
  then (bif Nat.beq v 110 then ⟨110, [.mut (.sl T_Spot), .val I], [.own I]⟩ else ⟨0, [], []⟩)
  else (bif Nat.beq v 111 then ⟨111, [.val T_Disk, .val I], [.own I]⟩ else ⟨0, [], []⟩))
  else (bif Nat.ble v 112
  then (bif Nat.beq v 112 then ⟨112, [.val (.sl T_Spot), .val I], [.own I]⟩ else ⟨0, [], []⟩)
  else (bif Nat.beq v 113 then ⟨113, [.val (.sl .str), .val .str], [.own .bool]⟩ else ⟨0, [], []⟩))))
  else (bif Nat.ble v 117
  then (bif Nat.ble v 115
  then (bif Nat.ble v 114
  then (bif Nat.beq v 114 then ⟨114, [.val .str], [.own (.sl .str)]⟩ else ⟨0, [], []⟩)
  else (bif Nat.beq v 115 then ⟨115, [.val .str, .val .str], [.own .str, .own .str, .own .bool]⟩ else ⟨0, [], []⟩))
  else (bif Nat.ble v 116
  then (bif Nat.beq v 116 then ⟨116, [.val .str, .val .str], [.own (.sl .str)]⟩ else ⟨0, [], []⟩)
  else (bif Nat.beq v 117 then ⟨117, [.val .str, .val .str], [.own .str]⟩ else ⟨0, [], []⟩)))
  else (bif Nat.ble v 119
  then (bif Nat.ble v 118
  then (bif Nat.beq v 118 then ⟨118, [.val .str], [.own I, .own .bool]⟩ else ⟨0, [], []⟩)
  else (bif Nat.beq v 119 then ⟨119, [.val .str], [.own .str, .own .bool]⟩ else ⟨0, [], []⟩))
  else (bif Nat.ble v 120
  then (bif Nat.beq v 120 then ⟨120, [.val I], [.own .str]⟩ else ⟨0, [], []⟩)
  else (bif Nat.beq v 121 then ⟨121, [.val (.sl I)], [.own .str, .own .bool]⟩ else ⟨0, [], []⟩)))))
  else (bif Nat.ble v 129
  then (bif Nat.ble v 125
  then (bif Nat.ble v 123
  then (bif Nat.ble v 122
  then (bif Nat.beq v 122 then ⟨122, [.val .str], [.own .str, .own .bool]⟩ else ⟨0, [], []⟩)
  else (bif Nat.beq v 123 then ⟨123, [.val I], [.own .str]⟩ else ⟨0, [], []⟩))
  else (bif Nat.ble v 124
  then (bif Nat.beq v 124 then ⟨124, [.val T_Disk, .val T_Disk], [.own .bool]⟩ else ⟨0, [], []⟩)
  else (bif Nat.beq v 125 then ⟨125, [.val T_Spot, .val T_Spot], [.own .bool]⟩ else ⟨0, [], []⟩)))
  else (bif Nat.ble v 127
  then (bif Nat.ble v 126
  then (bif Nat.beq v 126 then ⟨126, [.val T_Val, .val T_Val], [.own .bool]⟩ else ⟨0, [], []⟩)
  else (bif Nat.beq v 127 then ⟨127, [.mut T_Disk, .val I], [.own I]⟩ else ⟨0, [], []⟩))
  else (bif Nat.ble v 128
  then (bif Nat.beq v 128 then ⟨128, [.val T_Disk, .val I], [.own I]⟩ else ⟨0, [], []⟩)
  else (bif Nat.beq v 129 then ⟨129, [.val (.sl .str), .val .str], [.own I]⟩ else ⟨0, [], []⟩))))
  else (bif Nat.ble v 138
  then (bif Nat.ble v 136
  then (bif Nat.ble v 135
  then (bif Nat.beq v 135 then ⟨135, [.val (.int .u32)], [.own .str]⟩ else ⟨0, [], []⟩)
  else (bif Nat.beq v 136 then ⟨136, [.val .str], [.own (.int .u32)]⟩ else ⟨0, [], []⟩))
  else (bif Nat.ble v 137
  then (bif Nat.beq v 137 then ⟨137, [.val I], [.own .str, .own .bool]⟩ else ⟨0, [], []⟩)
  else (bif Nat.beq v 138 then ⟨138, [.val .str], [.own (.int .u32)]⟩ else ⟨0, [], []⟩)))
  else (bif Nat.ble v 140
  then (bif Nat.ble v 139
  then (bif Nat.beq v 139 then ⟨139, [.val I], [.own .str]⟩ else ⟨0, [], []⟩)
  else (bif Nat.beq v 140 then ⟨140, [.val T_File, .val T_File], [.own .bool]⟩ else ⟨0, [], []⟩))
  else (bif Nat.ble v 147
  then (bif Nat.beq v 147 then ⟨147, [.val (.int .u32), .val .str], [.own (.int .u32)]⟩ else ⟨0, [], []⟩)
  else (bif Nat.beq v 148 then ⟨148, [.val (.int .u32), .val .str], [.own (.int .u32)]⟩ else ⟨0, [], []⟩))))))))
end Go.Den.S
