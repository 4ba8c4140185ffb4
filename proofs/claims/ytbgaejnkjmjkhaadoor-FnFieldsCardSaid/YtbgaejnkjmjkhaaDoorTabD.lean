/- TabD: equations of the functions of this seat as the executor tells them, or plain facts about them. Conditions: none here. -/
import Derived.Test.YtbgaejnkjmjkhaaDoorDenFour
import Derived.Test.YtbgaejnkjmjkhaaDoorProg
set_option linter.all false
namespace Go.Den.S
open Go Go.Den Go.Proofs
abbrev I : Ty := .int .i64
abbrev w64 (n : Int) : Int := IntKind.i64.wrap n
abbrev wh : Type := ((List Int) × (Int × Int))
abbrev q0o : Ty := (.pr I (.pr I (.pr .str (.sl .str))))
abbrev wK : Type := (Int × (Int × (BA × (List BA))))
abbrev ql : Ty := (.pr .str q0o)
abbrev qd : Type := (BA × wK)
abbrev qH : Type := ((List qd) × (BA × Bool))
abbrev wN : BA := ⟨#[72,83,69,84]⟩
abbrev c_q : BA := ⟨#[113]⟩
abbrev wM : BA := ⟨#[72,71,69,84]⟩
abbrev jN : BA := ⟨#[58,49,13,10]⟩
abbrev q0Z : BA := ⟨#[36,45,49,13,10]⟩
abbrev zI : BA := ⟨#[72,76,69,78]⟩
abbrev zY : BA := ⟨#[72,75,69,89,83]⟩
abbrev yQ : BA := ⟨#[72,71,69,84,65,76,76]⟩
abbrev za : BA := ⟨#[72,68,69,76]⟩
abbrev c_a : BA := ⟨#[97]⟩
abbrev c_b : BA := ⟨#[98]⟩
abbrev c_c : BA := ⟨#[99]⟩
abbrev c_d : BA := ⟨#[100]⟩
abbrev c_e : BA := ⟨#[101]⟩
abbrev c_f : BA := ⟨#[102]⟩
abbrev yP : BA := ⟨#[83,65,68,68]⟩
abbrev wS : BA := ⟨#[83,67,65,82,68]⟩
abbrev w9 : BA := ⟨#[83,77,69,77,66,69,82,83]⟩
abbrev q2o : BA := ⟨#[58,48,13,10]⟩
abbrev qV : BA := ⟨#[83,73,83,77,69,77,66,69,82]⟩
abbrev wZ : BA := ⟨#[83,82,69,77]⟩
abbrev c_x : BA := ⟨#[120]⟩
abbrev q1b : BA := ⟨#[45,87,82,79,78,71,84,89,80,69,13,10]⟩
abbrev qbc : BA := ⟨#[76,80,85,83,72]⟩
abbrev qb0 : BA := ⟨#[82,80,85,83,72]⟩
abbrev qdD : BA := ⟨#[76,76,69,78]⟩
abbrev qdb : BA := ⟨#[76,80,79,80]⟩
abbrev qcX : BA := ⟨#[82,80,79,80]⟩
abbrev qan : BA := ⟨#[76,82,65,78,71,69]⟩
abbrev c_0 : BA := ⟨#[48]⟩
abbrev qaI : BA := ⟨#[76,73,78,68,69,88]⟩
abbrev qdm : BA := ⟨#[75,69,89,83]⟩
abbrev q9P : BA := ⟨#[68,66,83,73,90,69]⟩
abbrev qcS : BA := ⟨#[80,73,78,71]⟩
abbrev qer : BA := ⟨#[68,69,76]⟩
abbrev qcP : BA := ⟨#[84,89,80,69]⟩
abbrev zU : BA := ⟨#[45]⟩
abbrev jE : BA := ⟨#[72,83,69,84,32,72,71,69,84,32,72,68,69,76,32,72,76,69,78,32,72,71,69,84,65,76,76,32,72,75,69,89,83]⟩
abbrev wP : BA := ⟨#[36]⟩
abbrev qm : BA := ⟨#[13,10]⟩
abbrev jW : BA := ⟨#[58]⟩
abbrev zT : BA := ⟨#[42]⟩
abbrev jG : BA := ⟨#[83,65,68,68,32,83,82,69,77,32,83,73,83,77,69,77,66,69,82,32,83,67,65,82,68,32,83,77,69,77,66,69,82,83]⟩
abbrev q7w : BA := ⟨#[70,76,85,83,72,65,76,76]⟩
abbrev q4q : BA := ⟨#[69,82,82,32,108,105,109,105,116]⟩
abbrev qda : BA := ⟨#[69,67,72,79]⟩
abbrev q9Y : BA := ⟨#[69,88,73,83,84,83]⟩
abbrev qay : BA := ⟨#[69,88,80,73,82,69]⟩
abbrev qeu : BA := ⟨#[84,84,76]⟩
abbrev q0W : BA := ⟨#[80,73,78,71,32,69,67,72,79,32,71,69,84,32,83,69,84,32,83,69,84,78,88,32,71,69,84,83,69,84,32,65,80,80,69,78,68,32,83,84,82,76,69,78,32,73,78,67,82,32,68,69,67,82,32,73,78,67,82,66,89,32,68,69,67,82,66,89,32,77,71,69,84,32,77,83,69,84,32,68,69,76,32,69,88,73,83,84,83,32,84,89,80,69,32,69,88,80,73,82,69,32,84,84,76,32,80,69,82,83,73,83,84,32,75,69,89,83,32,68,66,83,73,90,69,32,70,76,85,83,72,65,76,76,32,76,80,85,83,72,32,82,80,85,83,72,32,76,80,79,80,32,82,80,79,80,32,76,76,69,78,32,76,82,65,78,71,69,32,76,73,78,68,69,88,32,72,83,69,84,32,72,71,69,84,32,72,68,69,76,32,72,76,69,78,32,72,71,69,84,65,76,76,32,72,75,69,89,83,32,83,65,68,68,32,83,82,69,77,32,83,73,83,77,69,77,66,69,82,32,83,67,65,82,68,32,83,77,69,77,66,69,82,83]⟩
abbrev q14 : BA := ⟨#[80,73,78,71,32,75,69,89,83,32,68,66,83,73,90,69,32,70,76,85,83,72,65,76,76]⟩
abbrev q1x : BA := ⟨#[69,67,72,79,32,71,69,84,32,83,84,82,76,69,78,32,73,78,67,82,32,68,69,67,82,32,84,89,80,69,32,84,84,76,32,80,69,82,83,73,83,84,32,76,80,79,80,32,82,80,79,80,32,76,76,69,78,32,72,76,69,78,32,72,71,69,84,65,76,76,32,72,75,69,89,83,32,83,67,65,82,68,32,83,77,69,77,66,69,82,83]⟩
abbrev q12 : BA := ⟨#[83,69,84,32,83,69,84,78,88,32,71,69,84,83,69,84,32,65,80,80,69,78,68,32,73,78,67,82,66,89,32,68,69,67,82,66,89,32,69,88,80,73,82,69,32,76,73,78,68,69,88,32,72,71,69,84,32,83,73,83,77,69,77,66,69,82]⟩
abbrev q5r : BA := ⟨#[76,82,65,78,71,69,32,72,83,69,84]⟩
abbrev q3m : BA := ⟨#[77,71,69,84,32,68,69,76,32,69,88,73,83,84,83]⟩
abbrev q15 : BA := ⟨#[76,80,85,83,72,32,82,80,85,83,72,32,72,68,69,76,32,83,65,68,68,32,83,82,69,77]⟩
abbrev zQ : BA := ⟨#[87,82,79,78,71,84,89,80,69]⟩
def bN {α : Type} (v k : Nat) (a b : α) : α := bif Nat.ble v k then a else b
def bV (v k : Nat) (a : Sig) : Sig := bif Nat.beq v k then a else ⟨0,[],[]⟩
def V (v : Nat) : Sig := (bN v 51 (bN v 26 (bN v 14 (bN v 8 (bN v 5 (bN v 3 (bV v 3 ⟨3,[.val (.sl (.int .u8))],[.own .bool]⟩) (bN v 4 (bV v 4 ⟨4,[.val (.sl (.int .u8))],[.own .bool]⟩) (bV v 5 ⟨5,[.val (.sl (.int .u8))],[.own .bool]⟩))) (bN v 6 (bV v 6 ⟨6,[.val (.sl (.int .u8))],[.own .bool]⟩) (bN v 7 (bV v 7 ⟨7,[.val (.sl (.int .u8))],[.own .bool]⟩) (bV v 8 ⟨8,[.val (.sl (.int .u8))],[.own .bool]⟩)))) (bN v 11 (bN v 9 (bV v 9 ⟨9,[.val (.sl (.int .u8))],[.own (.sl .str)]⟩) (bN v 10 (bV v 10 ⟨10,[.val I],[.own .str]⟩) (bV v 11 ⟨11,[.val (.sl ql),.val (.sl .str)],[.lst (.sl ql),.own .str,.own .bool]⟩))) (bN v 12 (bV v 12 ⟨12,[.val .str],[.own .str]⟩) (bN v 13 (bV v 13 ⟨13,[.val I],[.own .str]⟩) (bV v 14 ⟨14,[.val (.sl .str)],[.own .str]⟩))))) (bN v 20 (bN v 17 (bN v 15 (bV v 15 ⟨15,[.val (.sl ql)],[.own .bool]⟩) (bN v 16 (bV v 16 ⟨16,[.val (.sl ql),.val (.sl .str)],[.own (.sl ql),.own .str,.own .bool]⟩) (bV v 17 ⟨17,[.val (.sl .str)],[.own (.sl ql)]⟩))) (bN v 18 (bV v 18 ⟨18,[.val (.sl ql),.val (.sl ql)],[.own .bool]⟩) (bN v 19 (bV v 19 ⟨19,[.val (.sl ql),.val (.sl .str)],[.lst (.sl ql),.own .str,.own .bool]⟩) (bV v 20 ⟨20,[.val (.sl (.int .u8))],[.own (.sl I)]⟩)))) (bN v 23 (bN v 21 (bV v 21 ⟨21,[.val I,.val I,.val I],[.own I,.own I]⟩) (bN v 22 (bV v 22 ⟨22,[.val I,.val I,.val I],[.own I,.own I]⟩) (bV v 23 ⟨23,[.val (.sl (.int .u8))],[.own (.sl ql),.own (.sl ql)]⟩))) (bN v 24 (bV v 24 ⟨24,[.val (.sl ql),.val I,.val (.sl .str)],[.own (.sl ql),.own .str,.own .bool]⟩) (bN v 25 (bV v 25 ⟨25,[.val (.sl (.int .u8))],[.ptr (.pr (.ls (.int .u8)) (.pr I I))]⟩) (bV v 26 ⟨26,[.ptr (.pr (.ls (.int .u8)) (.pr I I)),.val I],[.own I]⟩)))))) (bN v 38 (bN v 32 (bN v 29 (bN v 27 (bV v 27 ⟨27,[.ptr (.pr (.ls (.int .u8)) (.pr I I)),.val (.sl .str)],[.own .str]⟩) (bN v 28 (bV v 28 ⟨28,[.val I],[.own (.int .u8)]⟩) (bV v 29 ⟨29,[.val (.sl ql),.val (.sl .str),.val .str],[.optr (.pr (.sl (.pr .str (.pr I (.pr I (.pr .str (.ls .str)))))) (.pr .str .bool)),.own .bool]⟩))) (bN v 30 (bV v 30 ⟨30,[.ptr (.pr (.sl (.pr .str (.pr I (.pr I (.pr .str (.ls .str)))))) (.pr .str .bool)),.val .str,.val .str,.val (.sl .str)],[]⟩) (bN v 31 (bV v 31 ⟨31,[.val .str],[.own .str]⟩) (bV v 32 ⟨32,[.ptr (.pr (.sl (.pr .str (.pr I (.pr I (.pr .str (.ls .str)))))) (.pr .str .bool)),.val (.sl ql)],[.own (.sl ql),.own .str,.own .bool]⟩)))) (bN v 35 (bN v 33 (bV v 33 ⟨33,[.val I,.val I,.val I],[.own .bool]⟩) (bN v 34 (bV v 34 ⟨34,[.val q0o],[.own .bool]⟩) (bV v 35 ⟨35,[.ptr (.pr (.sl (.pr .str (.pr I (.pr I (.pr .str (.ls .str)))))) (.pr .str .bool)),.val .str,.val .str,.val (.sl .str)],[]⟩))) (bN v 36 (bV v 36 ⟨36,[.val q0o,.val q0o],[.own .bool]⟩) (bN v 37 (bV v 37 ⟨37,[.ptr (.pr (.sl (.pr .str (.pr I (.pr I (.pr .str (.ls .str)))))) (.pr .str .bool)),.val .str,.val .str,.val (.sl .str)],[]⟩) (bV v 38 ⟨38,[.ptr (.pr (.ls (.int .u8)) (.pr I I))],[.own I]⟩))))) (bN v 44 (bN v 41 (bN v 39 (bV v 39 ⟨39,[.val I,.val I,.val I],[.own .bool]⟩) (bN v 40 (bV v 40 ⟨40,[.val I,.val I],[.own I]⟩) (bV v 41 ⟨41,[.ptr (.pr (.ls (.int .u8)) (.pr I I))],[.own (.sl ql)]⟩))) (bN v 42 (bV v 42 ⟨42,[.ptr (.pr (.sl (.pr .str (.pr I (.pr I (.pr .str (.ls .str)))))) (.pr .str .bool)),.val .str],[]⟩) (bN v 43 (bV v 43 ⟨43,[.val .str],[.own .str]⟩) (bV v 44 ⟨44,[.val (.sl .str)],[.own .str]⟩)))) (bN v 47 (bN v 45 (bV v 45 ⟨45,[.val (.sl .str)],[.own (.sl .str)]⟩) (bN v 46 (bV v 46 ⟨46,[.val I],[.own .str]⟩) (bV v 47 ⟨47,[.ptr (.pr (.sl (.pr .str (.pr I (.pr I (.pr .str (.ls .str)))))) (.pr .str .bool)),.val I,.val .str,.val (.sl .str)],[]⟩))) (bN v 49 (bN v 48 (bV v 48 ⟨48,[.val (.sl ql)],[.own .bool]⟩) (bV v 49 ⟨49,[.val (.sl .str),.val .str],[.own .bool]⟩)) (bN v 50 (bV v 50 ⟨50,[.val (.sl .str)],[.own .bool]⟩) (bV v 51 ⟨51,[.val (.sl ql)],[.own (.sl ql)]⟩))))))) (bN v 76 (bN v 63 (bN v 57 (bN v 54 (bN v 52 (bV v 52 ⟨52,[.ptr (.pr (.sl (.pr .str (.pr I (.pr I (.pr .str (.ls .str)))))) (.pr .str .bool)),.val .str,.val I],[.own q0o,.own .bool]⟩) (bN v 53 (bV v 53 ⟨53,[.val (.sl .str),.val .str],[.own I,.own .bool]⟩) (bV v 54 ⟨54,[.own (.sl .str),.val I,.own (.sl .str)],[.own (.sl .str)]⟩))) (bN v 55 (bV v 55 ⟨55,[.ptr (.pr (.sl (.pr .str (.pr I (.pr I (.pr .str (.ls .str)))))) (.pr .str .bool)),.val .str,.val q0o],[]⟩) (bN v 56 (bV v 56 ⟨56,[],[.own .str]⟩) (bV v 57 ⟨57,[.val .str],[.own .str]⟩)))) (bN v 60 (bN v 58 (bV v 58 ⟨58,[.own (.sl .str),.val I,.val I],[.own (.sl .str)]⟩) (bN v 59 (bV v 59 ⟨59,[.ptr (.pr (.sl (.pr .str (.pr I (.pr I (.pr .str (.ls .str)))))) (.pr .str .bool)),.val .str,.val q0o],[]⟩) (bV v 60 ⟨60,[.val (.sl .str)],[.own (.sl .str)]⟩))) (bN v 61 (bV v 61 ⟨61,[.ptr (.pr (.sl (.pr .str (.pr I (.pr I (.pr .str (.ls .str)))))) (.pr .str .bool)),.val .str],[]⟩) (bN v 62 (bV v 62 ⟨62,[.val (.sl .str),.val .str],[.own I,.own .bool]⟩) (bV v 63 ⟨63,[.own (.sl .str),.clo 64 [((.sl .str),false)]],[.own (.sl .str)]⟩))))) (bN v 69 (bN v 66 (bN v 64 (bV v 64 ⟨64,[.val .str,.cptr (.sl .str)],[.own .bool]⟩) (bN v 65 (bV v 65 ⟨65,[.val (.sl .str),.val .str],[.own .bool]⟩) (bV v 66 ⟨66,[.val (.sl .str),.val (.sl .str)],[.own .bool]⟩))) (bN v 67 (bV v 67 ⟨67,[.ptr (.pr (.sl (.pr .str (.pr I (.pr I (.pr .str (.ls .str)))))) (.pr .str .bool)),.val .str,.val q0o,.val .bool,.val .bool],[]⟩) (bN v 68 (bV v 68 ⟨68,[.ptr (.pr (.sl (.pr .str (.pr I (.pr I (.pr .str (.ls .str)))))) (.pr .str .bool)),.val .str],[.own I]⟩) (bV v 69 ⟨69,[.ptr (.pr (.ls (.int .u8)) (.pr I I)),.val I],[.own .bool]⟩)))) (bN v 72 (bN v 70 (bV v 70 ⟨70,[.ptr (.pr (.ls (.int .u8)) (.pr I I))],[.own q0o]⟩) (bN v 71 (bV v 71 ⟨71,[.val I],[.own .str]⟩) (bV v 72 ⟨72,[.val (.sl ql),.val .str],[.own q0o,.own .bool]⟩))) (bN v 74 (bN v 73 (bV v 73 ⟨73,[.ptr (.pr (.sl (.pr .str (.pr I (.pr I (.pr .str (.ls .str)))))) (.pr .str .bool)),.val (.sl .str),.val .bool],[.own I]⟩) (bV v 74 ⟨74,[.val q0o,.val .bool],[.own .str]⟩)) (bN v 75 (bV v 75 ⟨75,[.ptr (.pr (.sl (.pr .str (.pr I (.pr I (.pr .str (.ls .str)))))) (.pr .str .bool)),.val I,.val .str,.val .str],[]⟩) (bV v 76 ⟨76,[.val q0o,.val .bool,.val I],[.own I]⟩)))))) (bN v 90 (bN v 84 (bN v 79 (bN v 77 (bV v 77 ⟨77,[.val .str],[.own .bool]⟩) (bN v 78 (bV v 78 ⟨78,[.val q0o],[.own .bool]⟩) (bV v 79 ⟨79,[.val .str],[.own (.sl .str)]⟩))) (bN v 80 (bV v 80 ⟨80,[.val q0o],[.own q0o]⟩) (bN v 83 (bV v 83 ⟨83,[.val (.sl ql),.val .str,.clo 84 []],[.own I,.own .bool]⟩) (bV v 84 ⟨84,[.val ql,.val .str],[.own I]⟩)))) (bN v 87 (bN v 85 (bV v 85 ⟨85,[.val .str,.val .str],[.own I]⟩) (bN v 86 (bV v 86 ⟨86,[.own (.sl (.pr .str (.pr I (.pr I (.pr .str (.ls .str)))))),.val I,.own (.sl (.pr .str (.pr I (.pr I (.pr .str (.ls .str))))))],[.own (.sl (.pr .str (.pr I (.pr I (.pr .str (.ls .str))))))]⟩) (bV v 87 ⟨87,[.ptr (.pr (.sl (.pr .str (.pr I (.pr I (.pr .str (.ls .str)))))) (.pr .str .bool)),.val .str],[.own .bool]⟩))) (bN v 88 (bV v 88 ⟨88,[.val .str],[.own .str]⟩) (bN v 89 (bV v 89 ⟨89,[.val .str,.val .str],[.own .bool]⟩) (bV v 90 ⟨90,[.val .str],[.own .bool]⟩))))) (bN v 97 (bN v 93 (bN v 91 (bV v 91 ⟨91,[.val (.sl .str),.clo 64 [((.sl .str),false)]],[.own I]⟩) (bN v 92 (bV v 92 ⟨92,[.val (.sl .str),.val .str],[.own I]⟩) (bV v 93 ⟨93,[.val .str],[.own I,.own .bool]⟩))) (bN v 94 (bV v 94 ⟨94,[.ptr (.pr (.ls (.int .u8)) (.pr I I))],[.own .str]⟩) (bN v 95 (bV v 95 ⟨95,[.val I],[.own .str]⟩) (bV v 97 ⟨97,[.val ql,.cptr .str],[.own .bool]⟩)))) (bN v 107 (bN v 98 (bV v 98 ⟨98,[.val I,.val (.sl .str)],[.own .bool]⟩) (bN v 106 (bV v 106 ⟨106,[.val ql,.cptr .str],[.own .bool]⟩) (bV v 107 ⟨107,[.val .str],[.own .bool]⟩))) (bN v 1001 (bN v 108 (bV v 108 ⟨108,[.val .str],[.own I,.err]⟩) (bV v 1001 ⟨96,[.val (.sl ql),.clo 97 [(.str,false)]],[.own I]⟩)) (bN v 1003 (bV v 1003 ⟨96,[.val (.sl ql),.clo 106 [(.str,false)]],[.own I]⟩) (bV v 1012 ⟨105,[.own (.sl (.pr .str (.pr I (.pr I (.pr .str (.ls .str)))))),.clo 106 [(.str,false)]],[.own (.sl (.pr .str (.pr I (.pr I (.pr .str (.ls .str))))))]⟩))))))))
end Go.Den.S
