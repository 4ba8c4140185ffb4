/- TabD: equations of the functions of this seat as the executor tells them, or plain facts about them. Conditions: none here. -/
import Derived.Test.YtkpdhadfnanagaaDoorDenFour
import Derived.Test.YtkpdhadfnanagaaDoorProg
set_option linter.all false
set_option linter.unusedSimpArgs false
set_option linter.unusedVariables false
namespace Go.Den.S
open Go Go.Den Go.Proofs
set_option linter.unusedVariables false
abbrev I : Ty := .int .i64
abbrev w64 (n : Int) : Int := IntKind.i64.wrap n
abbrev T_File : Ty := (.pr .str (.pr .str I))
abbrev D_File : Type := (ByteArray × (ByteArray × Int))
abbrev T_Spot : Ty := (.pr .str (.pr I (.pr I I)))
abbrev D_Spot : Type := (ByteArray × (Int × (Int × Int)))
abbrev T_Disk : Ty := (.sl T_File)
abbrev D_Disk : Type := (List D_File)
abbrev T_l01Cur : Ty := (.pr (.sl (.int .u8)) (.pr I I))
abbrev D_l01Cur : Type := ((List Int) × (Int × Int))
abbrev T_Val : Ty := (.pr I (.pr I (.pr .str (.sl .str))))
abbrev D_Val : Type := (Int × (Int × (ByteArray × (List ByteArray))))
abbrev T_Entry : Ty := (.pr .str T_Val)
abbrev D_Entry : Type := (ByteArray × D_Val)
abbrev T_Conn : Ty := (.pr .str (.pr .bool (.pr .bool (.pr (.sl (.sl .str)) .bool))))
abbrev D_Conn : Type := (ByteArray × (Bool × (Bool × ((List (List ByteArray)) × Bool))))
abbrev T_Unit : Ty := (.pr I (.pr I (.pr (.sl (.sl .str)) (.pr .bool (.pr .str .bool)))))
abbrev D_Unit : Type := (Int × (Int × ((List (List ByteArray)) × (Bool × (ByteArray × Bool)))))
abbrev T_Engine : Ty := (.pr T_Disk (.pr I (.pr I (.pr I (.sl T_Spot)))))
abbrev D_Engine : Type := (D_Disk × (Int × (Int × (Int × (List D_Spot)))))
abbrev T_World : Ty := (.pr T_Engine (.pr (.sl T_Entry) (.pr I (.pr (.sl T_Conn) (.pr (.sl .str) (.pr (.sl T_Unit) .bool))))))
abbrev D_World : Type := (D_Engine × ((List D_Entry) × (Int × ((List D_Conn) × ((List ByteArray) × ((List D_Unit) × Bool))))))
abbrev c_MULTI : ByteArray := ⟨#[77, 85, 76, 84, 73]⟩
abbrev c_ERR_nested : ByteArray := ⟨#[69, 82, 82, 32, 110, 101, 115, 116, 101, 100]⟩
abbrev c_OK : ByteArray := ⟨#[79, 75]⟩
abbrev c_DISCARD : ByteArray := ⟨#[68, 73, 83, 67, 65, 82, 68]⟩
abbrev c_EXEC : ByteArray := ⟨#[69, 88, 69, 67]⟩
abbrev c_ERR_no_multi : ByteArray := ⟨#[69, 82, 82, 32, 110, 111, 32, 109, 117, 108, 116, 105]⟩
abbrev c_EXECABORT : ByteArray := ⟨#[69, 88, 69, 67, 65, 66, 79, 82, 84]⟩
abbrev c_ERR_unknown : ByteArray := ⟨#[69, 82, 82, 32, 117, 110, 107, 110, 111, 119, 110]⟩
abbrev c_ERR_arguments : ByteArray := ⟨#[69, 82, 82, 32, 97, 114, 103, 117, 109, 101, 110, 116, 115]⟩
abbrev c_ERR_limit : ByteArray := ⟨#[69, 82, 82, 32, 108, 105, 109, 105, 116]⟩
abbrev c_QUEUED : ByteArray := ⟨#[81, 85, 69, 85, 69, 68]⟩
abbrev c_PING_ECHO_GE_244_482754 : ByteArray := ⟨#[80, 73, 78, 71, 32, 69, 67, 72, 79, 32, 71, 69, 84, 32, 83, 69, 84, 32, 83, 69, 84, 78, 88, 32, 71, 69, 84, 83, 69, 84, 32, 65, 80, 80, 69, 78, 68, 32, 83, 84, 82, 76, 69, 78, 32, 73, 78, 67, 82, 32, 68, 69, 67, 82, 32, 73, 78, 67, 82, 66, 89, 32, 68, 69, 67, 82, 66, 89, 32, 77, 71, 69, 84, 32, 77, 83, 69, 84, 32, 68, 69, 76, 32, 69, 88, 73, 83, 84, 83, 32, 84, 89, 80, 69, 32, 69, 88, 80, 73, 82, 69, 32, 84, 84, 76, 32, 80, 69, 82, 83, 73, 83, 84, 32, 75, 69, 89, 83, 32, 68, 66, 83, 73, 90, 69, 32, 70, 76, 85, 83, 72, 65, 76, 76, 32, 76, 80, 85, 83, 72, 32, 82, 80, 85, 83, 72, 32, 76, 80, 79, 80, 32, 82, 80, 79, 80, 32, 76, 76, 69, 78, 32, 76, 82, 65, 78, 71, 69, 32, 76, 73, 78, 68, 69, 88, 32, 72, 83, 69, 84, 32, 72, 71, 69, 84, 32, 72, 68, 69, 76, 32, 72, 76, 69, 78, 32, 72, 71, 69, 84, 65, 76, 76, 32, 72, 75, 69, 89, 83, 32, 83, 65, 68, 68, 32, 83, 82, 69, 77, 32, 83, 73, 83, 77, 69, 77, 66, 69, 82, 32, 83, 67, 65, 82, 68, 32, 83, 77, 69, 77, 66, 69, 82, 83]⟩
abbrev c___1_262 : ByteArray := ⟨#[45]⟩
abbrev c____2_7140 : ByteArray := ⟨#[13, 10]⟩
abbrev c___1_260 : ByteArray := ⟨#[43]⟩
abbrev c_PING : ByteArray := ⟨#[80, 73, 78, 71]⟩
abbrev c_ECHO : ByteArray := ⟨#[69, 67, 72, 79]⟩
abbrev c_GET : ByteArray := ⟨#[71, 69, 84]⟩
abbrev c_SET : ByteArray := ⟨#[83, 69, 84]⟩
abbrev c_SETNX : ByteArray := ⟨#[83, 69, 84, 78, 88]⟩
abbrev c_GETSET : ByteArray := ⟨#[71, 69, 84, 83, 69, 84]⟩
abbrev c_APPEND : ByteArray := ⟨#[65, 80, 80, 69, 78, 68]⟩
abbrev c_STRLEN : ByteArray := ⟨#[83, 84, 82, 76, 69, 78]⟩
abbrev c_INCR : ByteArray := ⟨#[73, 78, 67, 82]⟩
abbrev c_DECR : ByteArray := ⟨#[68, 69, 67, 82]⟩
abbrev c_INCRBY : ByteArray := ⟨#[73, 78, 67, 82, 66, 89]⟩
abbrev c_DECRBY : ByteArray := ⟨#[68, 69, 67, 82, 66, 89]⟩
abbrev c_MGET : ByteArray := ⟨#[77, 71, 69, 84]⟩
abbrev c_MSET : ByteArray := ⟨#[77, 83, 69, 84]⟩
abbrev c_DEL : ByteArray := ⟨#[68, 69, 76]⟩
abbrev c_EXISTS : ByteArray := ⟨#[69, 88, 73, 83, 84, 83]⟩
abbrev c_TYPE : ByteArray := ⟨#[84, 89, 80, 69]⟩
abbrev c_EXPIRE : ByteArray := ⟨#[69, 88, 80, 73, 82, 69]⟩
abbrev c_TTL : ByteArray := ⟨#[84, 84, 76]⟩
abbrev c_PERSIST : ByteArray := ⟨#[80, 69, 82, 83, 73, 83, 84]⟩
abbrev c_KEYS : ByteArray := ⟨#[75, 69, 89, 83]⟩
abbrev c_DBSIZE : ByteArray := ⟨#[68, 66, 83, 73, 90, 69]⟩
abbrev c_FLUSHALL : ByteArray := ⟨#[70, 76, 85, 83, 72, 65, 76, 76]⟩
abbrev c_LPUSH : ByteArray := ⟨#[76, 80, 85, 83, 72]⟩
abbrev c_RPUSH : ByteArray := ⟨#[82, 80, 85, 83, 72]⟩
abbrev c_LPOP : ByteArray := ⟨#[76, 80, 79, 80]⟩
abbrev c_RPOP : ByteArray := ⟨#[82, 80, 79, 80]⟩
abbrev c_LLEN : ByteArray := ⟨#[76, 76, 69, 78]⟩
abbrev c_LRANGE : ByteArray := ⟨#[76, 82, 65, 78, 71, 69]⟩
abbrev c_LINDEX : ByteArray := ⟨#[76, 73, 78, 68, 69, 88]⟩
abbrev c_HSET : ByteArray := ⟨#[72, 83, 69, 84]⟩
abbrev c_HGET : ByteArray := ⟨#[72, 71, 69, 84]⟩
abbrev c_HDEL : ByteArray := ⟨#[72, 68, 69, 76]⟩
abbrev c_HLEN : ByteArray := ⟨#[72, 76, 69, 78]⟩
abbrev c_HGETALL : ByteArray := ⟨#[72, 71, 69, 84, 65, 76, 76]⟩
abbrev c_HKEYS : ByteArray := ⟨#[72, 75, 69, 89, 83]⟩
abbrev c_SADD : ByteArray := ⟨#[83, 65, 68, 68]⟩
abbrev c_SREM : ByteArray := ⟨#[83, 82, 69, 77]⟩
abbrev c_SISMEMBER : ByteArray := ⟨#[83, 73, 83, 77, 69, 77, 66, 69, 82]⟩
abbrev c_SCARD : ByteArray := ⟨#[83, 67, 65, 82, 68]⟩
abbrev c_SMEMBERS : ByteArray := ⟨#[83, 77, 69, 77, 66, 69, 82, 83]⟩
abbrev c_m0 : ByteArray := ⟨#[109, 48]⟩
abbrev c_m : ByteArray := ⟨#[109]⟩
abbrev c_PING_KEYS_DB_25_770361 : ByteArray := ⟨#[80, 73, 78, 71, 32, 75, 69, 89, 83, 32, 68, 66, 83, 73, 90, 69, 32, 70, 76, 85, 83, 72, 65, 76, 76]⟩
abbrev c_ECHO_GET_STR_91_76732 : ByteArray := ⟨#[69, 67, 72, 79, 32, 71, 69, 84, 32, 83, 84, 82, 76, 69, 78, 32, 73, 78, 67, 82, 32, 68, 69, 67, 82, 32, 84, 89, 80, 69, 32, 84, 84, 76, 32, 80, 69, 82, 83, 73, 83, 84, 32, 76, 80, 79, 80, 32, 82, 80, 79, 80, 32, 76, 76, 69, 78, 32, 72, 76, 69, 78, 32, 72, 71, 69, 84, 65, 76, 76, 32, 72, 75, 69, 89, 83, 32, 83, 67, 65, 82, 68, 32, 83, 77, 69, 77, 66, 69, 82, 83]⟩
abbrev c_SET_SETNX_GE_66_689460 : ByteArray := ⟨#[83, 69, 84, 32, 83, 69, 84, 78, 88, 32, 71, 69, 84, 83, 69, 84, 32, 65, 80, 80, 69, 78, 68, 32, 73, 78, 67, 82, 66, 89, 32, 68, 69, 67, 82, 66, 89, 32, 69, 88, 80, 73, 82, 69, 32, 76, 73, 78, 68, 69, 88, 32, 72, 71, 69, 84, 32, 83, 73, 83, 77, 69, 77, 66, 69, 82]⟩
abbrev c_LRANGE_HSET : ByteArray := ⟨#[76, 82, 65, 78, 71, 69, 32, 72, 83, 69, 84]⟩
abbrev c_MGET_DEL_EXISTS : ByteArray := ⟨#[77, 71, 69, 84, 32, 68, 69, 76, 32, 69, 88, 73, 83, 84, 83]⟩
abbrev c_LPUSH_RPUSH__26_457431 : ByteArray := ⟨#[76, 80, 85, 83, 72, 32, 82, 80, 85, 83, 72, 32, 72, 68, 69, 76, 32, 83, 65, 68, 68, 32, 83, 82, 69, 77]⟩
def V (v : Nat) : Sig := (bif Nat.ble v 43
  then (bif Nat.ble v 21
  then (bif Nat.ble v 12
  then (bif Nat.ble v 6
  then (bif Nat.ble v 3
  then (bif Nat.beq v 3 then ⟨3, [.val T_Conn], [.own .bool]⟩ else ⟨0, [], []⟩)
  else (bif Nat.ble v 5
  then (bif Nat.beq v 5 then ⟨5, [.val T_Conn, .val .str], [.own .bool]⟩ else ⟨0, [], []⟩)
  else (bif Nat.beq v 6 then ⟨6, [.val T_Conn, .val (.sl .str)], [.own .bool]⟩ else ⟨0, [], []⟩)))
  else (bif Nat.ble v 10
  then (bif Nat.beq v 10 then ⟨10, [.val T_Conn, .val I], [.own I]⟩ else ⟨0, [], []⟩)
  else (bif Nat.ble v 11
  then (bif Nat.beq v 11 then ⟨11, [.val T_Conn], [.own .bool]⟩ else ⟨0, [], []⟩)
  else (bif Nat.beq v 12 then ⟨12, [.val T_Conn], [.own T_Conn]⟩ else ⟨0, [], []⟩))))
  else (bif Nat.ble v 17
  then (bif Nat.ble v 13
  then (bif Nat.beq v 13 then ⟨13, [.val T_Conn], [.own .bool]⟩ else ⟨0, [], []⟩)
  else (bif Nat.ble v 14
  then (bif Nat.beq v 14 then ⟨14, [.val T_Conn, .val T_Conn], [.own .bool]⟩ else ⟨0, [], []⟩)
  else (bif Nat.beq v 17 then ⟨17, [.val T_Conn, .val (.sl .str)], [.own T_Conn, .own (.sl (.sl .str)), .own .str, .own I]⟩ else ⟨0, [], []⟩)))
  else (bif Nat.ble v 18
  then (bif Nat.beq v 18 then ⟨18, [.val .str], [.own .str]⟩ else ⟨0, [], []⟩)
  else (bif Nat.ble v 19
  then (bif Nat.beq v 19 then ⟨19, [.val (.sl .str)], [.own .str]⟩ else ⟨0, [], []⟩)
  else (bif Nat.beq v 21 then ⟨21, [.val T_Conn, .val .str], [.own T_Conn, .own .bool]⟩ else ⟨0, [], []⟩)))))
  else (bif Nat.ble v 27
  then (bif Nat.ble v 24
  then (bif Nat.ble v 22
  then (bif Nat.beq v 22 then ⟨22, [.val T_Conn, .val .str], [.own T_Conn, .own .bool]⟩ else ⟨0, [], []⟩)
  else (bif Nat.ble v 23
  then (bif Nat.beq v 23 then ⟨23, [.mut T_Conn, .val I], [.own I]⟩ else ⟨0, [], []⟩)
  else (bif Nat.beq v 24 then ⟨24, [.val T_Conn, .val I], [.own I]⟩ else ⟨0, [], []⟩)))
  else (bif Nat.ble v 25
  then (bif Nat.beq v 25 then ⟨25, [.val (.sl .str), .val I], [.own I]⟩ else ⟨0, [], []⟩)
  else (bif Nat.ble v 26
  then (bif Nat.beq v 26 then ⟨26, [.val T_Conn, .val (.sl .str)], [.own T_Conn, .own (.sl (.sl .str)), .own .str, .own I]⟩ else ⟨0, [], []⟩)
  else (bif Nat.beq v 27 then ⟨27, [.val (.sl .str)], [.own (.sl .str)]⟩ else ⟨0, [], []⟩))))
  else (bif Nat.ble v 30
  then (bif Nat.ble v 28
  then (bif Nat.beq v 28 then ⟨28, [.val (.sl (.sl .str)), .val (.sl (.sl .str))], [.own .bool]⟩ else ⟨0, [], []⟩)
  else (bif Nat.ble v 29
  then (bif Nat.beq v 29 then ⟨29, [.val (.sl .str), .val (.sl .str)], [.own .bool]⟩ else ⟨0, [], []⟩)
  else (bif Nat.beq v 30 then ⟨30, [.mut (.sl .str), .val I], [.own I]⟩ else ⟨0, [], []⟩)))
  else (bif Nat.ble v 32
  then (bif Nat.ble v 31
  then (bif Nat.beq v 31 then ⟨31, [.mut (.sl (.sl .str)), .val I], [.own I]⟩ else ⟨0, [], []⟩)
  else (bif Nat.beq v 32 then ⟨32, [.val (.sl (.sl .str)), .val I], [.own I]⟩ else ⟨0, [], []⟩))
  else (bif Nat.ble v 37
  then (bif Nat.beq v 37 then ⟨37, [.val (.sl .str), .val I], [.own I]⟩ else ⟨0, [], []⟩)
  else (bif Nat.beq v 43 then ⟨43, [.val (.sl (.sl .str)), .val I], [.own I]⟩ else ⟨0, [], []⟩))))))
  else (bif Nat.ble v 58
  then (bif Nat.ble v 52
  then (bif Nat.ble v 46
  then (bif Nat.ble v 44
  then (bif Nat.beq v 44 then ⟨44, [.val T_Conn], [.own .bool]⟩ else ⟨0, [], []⟩)
  else (bif Nat.ble v 45
  then (bif Nat.beq v 45 then ⟨45, [.val (.sl (.sl .str))], [.own (.sl (.sl .str))]⟩ else ⟨0, [], []⟩)
  else (bif Nat.beq v 46 then ⟨46, [.val (.sl (.sl .str)), .clo 47 []], [.own .bool]⟩ else ⟨0, [], []⟩)))
  else (bif Nat.ble v 47
  then (bif Nat.beq v 47 then ⟨47, [.val (.sl .str)], [.own .bool]⟩ else ⟨0, [], []⟩)
  else (bif Nat.ble v 48
  then (bif Nat.beq v 48 then ⟨48, [.val (.sl .str)], [.own .str]⟩ else ⟨0, [], []⟩)
  else (bif Nat.beq v 52 then ⟨52, [.val T_Conn], [.own T_Conn]⟩ else ⟨0, [], []⟩))))
  else (bif Nat.ble v 55
  then (bif Nat.ble v 53
  then (bif Nat.beq v 53 then ⟨53, [.val .str], [.own .str]⟩ else ⟨0, [], []⟩)
  else (bif Nat.ble v 54
  then (bif Nat.beq v 54 then ⟨54, [.val .str], [.own .str]⟩ else ⟨0, [], []⟩)
  else (bif Nat.beq v 55 then ⟨55, [.val .str], [.own .str]⟩ else ⟨0, [], []⟩)))
  else (bif Nat.ble v 56
  then (bif Nat.beq v 56 then ⟨56, [.val (.sl (.sl .str))], [.own (.sl (.sl .str))]⟩ else ⟨0, [], []⟩)
  else (bif Nat.ble v 57
  then (bif Nat.beq v 57 then ⟨57, [.own T_Conn, .val (.sl .str)], [.own T_Conn, .own (.sl (.sl .str)), .own .str, .own I]⟩ else ⟨0, [], []⟩)
  else (bif Nat.beq v 58 then ⟨58, [.val (.sl .str), .val .str], [.own .bool]⟩ else ⟨0, [], []⟩)))))
  else (bif Nat.ble v 64
  then (bif Nat.ble v 61
  then (bif Nat.ble v 59
  then (bif Nat.beq v 59 then ⟨59, [], [.own (.sl .str)]⟩ else ⟨0, [], []⟩)
  else (bif Nat.ble v 60
  then (bif Nat.beq v 60 then ⟨60, [.val .str], [.own .str]⟩ else ⟨0, [], []⟩)
  else (bif Nat.beq v 61 then ⟨61, [.val (.sl .str)], [.own .bool]⟩ else ⟨0, [], []⟩)))
  else (bif Nat.ble v 62
  then (bif Nat.beq v 62 then ⟨62, [.val T_Conn], [.own T_Conn]⟩ else ⟨0, [], []⟩)
  else (bif Nat.ble v 63
  then (bif Nat.beq v 63 then ⟨63, [.val .str], [.own .str]⟩ else ⟨0, [], []⟩)
  else (bif Nat.beq v 64 then ⟨64, [.val T_Conn], [.own T_Conn]⟩ else ⟨0, [], []⟩))))
  else (bif Nat.ble v 85
  then (bif Nat.ble v 65
  then (bif Nat.beq v 65 then ⟨65, [.val I], [.own .str]⟩ else ⟨0, [], []⟩)
  else (bif Nat.ble v 84
  then (bif Nat.beq v 84 then ⟨84, [.val (.sl (.sl .str)), .clo 47 []], [.own I]⟩ else ⟨0, [], []⟩)
  else (bif Nat.beq v 85 then ⟨85, [.val (.sl .str), .val .str], [.own .bool]⟩ else ⟨0, [], []⟩)))
  else (bif Nat.ble v 113
  then (bif Nat.ble v 86
  then (bif Nat.beq v 86 then ⟨86, [.val (.sl .str)], [.own .bool]⟩ else ⟨0, [], []⟩)
  else (bif Nat.beq v 113 then ⟨113, [.val (.sl .str), .val .str], [.own .bool]⟩ else ⟨0, [], []⟩))
  else (bif Nat.ble v 114
  then (bif Nat.beq v 114 then ⟨114, [.val .str], [.own (.sl .str)]⟩ else ⟨0, [], []⟩)
  else (bif Nat.beq v 129 then ⟨129, [.val (.sl .str), .val .str], [.own I]⟩ else ⟨0, [], []⟩)))))))
end Go.Den.S
