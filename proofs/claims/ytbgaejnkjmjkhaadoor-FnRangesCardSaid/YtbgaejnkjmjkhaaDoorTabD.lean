/- TabD: equations of the functions of this seat as the executor tells them, or plain facts about them. Conditions: none here. -/
import Derived.Test.YtbgaejnkjmjkhaaDoorDenFour
import Derived.Test.YtbgaejnkjmjkhaaDoorProg
set_option linter.all false
namespace Go.Den.S
open Go Go.Den Go.Proofs
abbrev I : Ty := .int .i64
abbrev w64 (n : Int) : Int := IntKind.i64.wrap n
abbrev yJ : Type := ((List Int) × (Int × Int))
abbrev jS : Ty := (.pr I (.pr I (.pr .str (.sl .str))))
abbrev wY : Type := (Int × (Int × (BA × (List BA))))
abbrev qj : Ty := (.pr .str jS)
abbrev qd : Type := (BA × wY)
abbrev qB : Type := ((List qd) × (BA × Bool))
abbrev qb0 : BA := ⟨#[72,83,69,84]⟩
abbrev c_q : BA := ⟨#[113]⟩
abbrev qb8 : BA := ⟨#[72,71,69,84]⟩
abbrev q0a : BA := ⟨#[36,45,49,13,10]⟩
abbrev qbs : BA := ⟨#[72,76,69,78]⟩
abbrev q9u : BA := ⟨#[72,75,69,89,83]⟩
abbrev q7c : BA := ⟨#[72,71,69,84,65,76,76]⟩
abbrev qbk : BA := ⟨#[72,68,69,76]⟩
abbrev c_a : BA := ⟨#[97]⟩
abbrev c_b : BA := ⟨#[98]⟩
abbrev c_c : BA := ⟨#[99]⟩
abbrev c_d : BA := ⟨#[100]⟩
abbrev c_e : BA := ⟨#[101]⟩
abbrev c_f : BA := ⟨#[102]⟩
abbrev qaD : BA := ⟨#[83,65,68,68]⟩
abbrev q9p : BA := ⟨#[83,67,65,82,68]⟩
abbrev q5q : BA := ⟨#[83,77,69,77,66,69,82,83]⟩
abbrev q59 : BA := ⟨#[83,73,83,77,69,77,66,69,82]⟩
abbrev qaI : BA := ⟨#[83,82,69,77]⟩
abbrev yw : BA := ⟨#[76,80,85,83,72]⟩
abbrev yu : BA := ⟨#[82,80,85,83,72]⟩
abbrev wO : BA := ⟨#[76,76,69,78]⟩
abbrev yR : BA := ⟨#[76,80,79,80]⟩
abbrev wo : BA := ⟨#[82,80,79,80]⟩
abbrev yj : BA := ⟨#[76,82,65,78,71,69]⟩
abbrev c_0 : BA := ⟨#[48]⟩
abbrev q4X : BA := ⟨#[45,49]⟩
abbrev qV : BA := ⟨#[76,73,78,68,69,88]⟩
abbrev qaW : BA := ⟨#[75,69,89,83]⟩
abbrev q8s : BA := ⟨#[68,66,83,73,90,69]⟩
abbrev qaJ : BA := ⟨#[80,73,78,71]⟩
abbrev qci : BA := ⟨#[68,69,76]⟩
abbrev qbd : BA := ⟨#[84,89,80,69]⟩
abbrev zi : BA := ⟨#[45]⟩
abbrev wD : BA := ⟨#[36]⟩
abbrev ql : BA := ⟨#[13,10]⟩
abbrev zW : BA := ⟨#[58]⟩
abbrev zh : BA := ⟨#[42]⟩
abbrev zR : BA := ⟨#[76,80,85,83,72,32,82,80,85,83,72,32,76,80,79,80,32,82,80,79,80,32,76,76,69,78,32,76,82,65,78,71,69,32,76,73,78,68,69,88]⟩
abbrev q6b : BA := ⟨#[70,76,85,83,72,65,76,76]⟩
abbrev q2V : BA := ⟨#[69,82,82,32,108,105,109,105,116]⟩
abbrev qaV : BA := ⟨#[69,67,72,79]⟩
abbrev q8y : BA := ⟨#[69,88,73,83,84,83]⟩
abbrev q7H : BA := ⟨#[69,88,80,73,82,69]⟩
abbrev qcj : BA := ⟨#[84,84,76]⟩
abbrev q0c : BA := ⟨#[80,73,78,71,32,69,67,72,79,32,71,69,84,32,83,69,84,32,83,69,84,78,88,32,71,69,84,83,69,84,32,65,80,80,69,78,68,32,83,84,82,76,69,78,32,73,78,67,82,32,68,69,67,82,32,73,78,67,82,66,89,32,68,69,67,82,66,89,32,77,71,69,84,32,77,83,69,84,32,68,69,76,32,69,88,73,83,84,83,32,84,89,80,69,32,69,88,80,73,82,69,32,84,84,76,32,80,69,82,83,73,83,84,32,75,69,89,83,32,68,66,83,73,90,69,32,70,76,85,83,72,65,76,76,32,76,80,85,83,72,32,82,80,85,83,72,32,76,80,79,80,32,82,80,79,80,32,76,76,69,78,32,76,82,65,78,71,69,32,76,73,78,68,69,88,32,72,83,69,84,32,72,71,69,84,32,72,68,69,76,32,72,76,69,78,32,72,71,69,84,65,76,76,32,72,75,69,89,83,32,83,65,68,68,32,83,82,69,77,32,83,73,83,77,69,77,66,69,82,32,83,67,65,82,68,32,83,77,69,77,66,69,82,83]⟩
abbrev q0l : BA := ⟨#[80,73,78,71,32,75,69,89,83,32,68,66,83,73,90,69,32,70,76,85,83,72,65,76,76]⟩
abbrev q0B : BA := ⟨#[69,67,72,79,32,71,69,84,32,83,84,82,76,69,78,32,73,78,67,82,32,68,69,67,82,32,84,89,80,69,32,84,84,76,32,80,69,82,83,73,83,84,32,76,80,79,80,32,82,80,79,80,32,76,76,69,78,32,72,76,69,78,32,72,71,69,84,65,76,76,32,72,75,69,89,83,32,83,67,65,82,68,32,83,77,69,77,66,69,82,83]⟩
abbrev q0j : BA := ⟨#[83,69,84,32,83,69,84,78,88,32,71,69,84,83,69,84,32,65,80,80,69,78,68,32,73,78,67,82,66,89,32,68,69,67,82,66,89,32,69,88,80,73,82,69,32,76,73,78,68,69,88,32,72,71,69,84,32,83,73,83,77,69,77,66,69,82]⟩
abbrev q3L : BA := ⟨#[76,82,65,78,71,69,32,72,83,69,84]⟩
abbrev q25 : BA := ⟨#[77,71,69,84,32,68,69,76,32,69,88,73,83,84,83]⟩
abbrev q0e : BA := ⟨#[76,80,85,83,72,32,82,80,85,83,72,32,72,68,69,76,32,83,65,68,68,32,83,82,69,77]⟩
abbrev zI : BA := ⟨#[87,82,79,78,71,84,89,80,69]⟩
abbrev zq : BA := ⟨#[69,82,82,32,105,110,116,101,103,101,114]⟩
def bN {α : Type} (v k : Nat) (a b : α) : α := bif Nat.ble v k then a else b
def bV (v k : Nat) (a : Sig) : Sig := bif Nat.beq v k then a else ⟨0,[],[]⟩
def V (v : Nat) : Sig := (bN v 51 (bN v 26 (bN v 14 (bN v 8 (bN v 5 (bN v 3 (bV v 3 ⟨3,[.val (.sl (.int .u8))],[.own .bool]⟩) (bN v 4 (bV v 4 ⟨4,[.val (.sl (.int .u8))],[.own .bool]⟩) (bV v 5 ⟨5,[.val (.sl (.int .u8))],[.own .bool]⟩))) (bN v 6 (bV v 6 ⟨6,[.val (.sl (.int .u8))],[.own .bool]⟩) (bN v 7 (bV v 7 ⟨7,[.val (.sl (.int .u8))],[.own .bool]⟩) (bV v 8 ⟨8,[.val (.sl (.int .u8))],[.own .bool]⟩)))) (bN v 11 (bN v 9 (bV v 9 ⟨9,[.val (.sl (.int .u8))],[.own (.sl .str)]⟩) (bN v 10 (bV v 10 ⟨10,[.val I],[.own .str]⟩) (bV v 11 ⟨11,[.val (.sl qj),.val (.sl .str)],[.lst (.sl qj),.own .str,.own .bool]⟩))) (bN v 12 (bV v 12 ⟨12,[.val .str],[.own .str]⟩) (bN v 13 (bV v 13 ⟨13,[.val I],[.own .str]⟩) (bV v 14 ⟨14,[.val (.sl .str)],[.own .str]⟩))))) (bN v 20 (bN v 17 (bN v 15 (bV v 15 ⟨15,[.val (.sl qj)],[.own .bool]⟩) (bN v 16 (bV v 16 ⟨16,[.val (.sl qj),.val (.sl .str)],[.own (.sl qj),.own .str,.own .bool]⟩) (bV v 17 ⟨17,[.val (.sl .str)],[.own (.sl qj)]⟩))) (bN v 18 (bV v 18 ⟨18,[.val (.sl qj),.val (.sl qj)],[.own .bool]⟩) (bN v 19 (bV v 19 ⟨19,[.val (.sl qj),.val (.sl .str)],[.lst (.sl qj),.own .str,.own .bool]⟩) (bV v 20 ⟨20,[.val (.sl (.int .u8))],[.own (.sl I)]⟩)))) (bN v 23 (bN v 21 (bV v 21 ⟨21,[.val I,.val I,.val I],[.own I,.own I]⟩) (bN v 22 (bV v 22 ⟨22,[.val I,.val I,.val I],[.own I,.own I]⟩) (bV v 23 ⟨23,[.val (.sl (.int .u8))],[.own (.sl qj),.own (.sl qj)]⟩))) (bN v 24 (bV v 24 ⟨24,[.val (.sl qj),.val I,.val (.sl .str)],[.own (.sl qj),.own .str,.own .bool]⟩) (bN v 25 (bV v 25 ⟨25,[.val (.sl (.int .u8))],[.ptr (.pr (.ls (.int .u8)) (.pr I I))]⟩) (bV v 26 ⟨26,[.ptr (.pr (.ls (.int .u8)) (.pr I I)),.val I],[.own I]⟩)))))) (bN v 38 (bN v 32 (bN v 29 (bN v 27 (bV v 27 ⟨27,[.ptr (.pr (.ls (.int .u8)) (.pr I I)),.val (.sl .str)],[.own .str]⟩) (bN v 28 (bV v 28 ⟨28,[.val I],[.own (.int .u8)]⟩) (bV v 29 ⟨29,[.val (.sl qj),.val (.sl .str),.val .str],[.optr (.pr (.sl (.pr .str (.pr I (.pr I (.pr .str (.ls .str)))))) (.pr .str .bool)),.own .bool]⟩))) (bN v 30 (bV v 30 ⟨30,[.ptr (.pr (.sl (.pr .str (.pr I (.pr I (.pr .str (.ls .str)))))) (.pr .str .bool)),.val .str,.val .str,.val (.sl .str)],[]⟩) (bN v 31 (bV v 31 ⟨31,[.val .str],[.own .str]⟩) (bV v 32 ⟨32,[.ptr (.pr (.sl (.pr .str (.pr I (.pr I (.pr .str (.ls .str)))))) (.pr .str .bool)),.val (.sl qj)],[.own (.sl qj),.own .str,.own .bool]⟩)))) (bN v 35 (bN v 33 (bV v 33 ⟨33,[.val I,.val I,.val I],[.own .bool]⟩) (bN v 34 (bV v 34 ⟨34,[.val jS],[.own .bool]⟩) (bV v 35 ⟨35,[.ptr (.pr (.sl (.pr .str (.pr I (.pr I (.pr .str (.ls .str)))))) (.pr .str .bool)),.val .str,.val .str,.val (.sl .str)],[]⟩))) (bN v 36 (bV v 36 ⟨36,[.val jS,.val jS],[.own .bool]⟩) (bN v 37 (bV v 37 ⟨37,[.ptr (.pr (.sl (.pr .str (.pr I (.pr I (.pr .str (.ls .str)))))) (.pr .str .bool)),.val .str,.val .str,.val (.sl .str)],[]⟩) (bV v 38 ⟨38,[.ptr (.pr (.ls (.int .u8)) (.pr I I))],[.own I]⟩))))) (bN v 44 (bN v 41 (bN v 39 (bV v 39 ⟨39,[.val I,.val I,.val I],[.own .bool]⟩) (bN v 40 (bV v 40 ⟨40,[.val I,.val I],[.own I]⟩) (bV v 41 ⟨41,[.ptr (.pr (.ls (.int .u8)) (.pr I I))],[.own (.sl qj)]⟩))) (bN v 42 (bV v 42 ⟨42,[.ptr (.pr (.sl (.pr .str (.pr I (.pr I (.pr .str (.ls .str)))))) (.pr .str .bool)),.val .str],[]⟩) (bN v 43 (bV v 43 ⟨43,[.val .str],[.own .str]⟩) (bV v 44 ⟨44,[.val (.sl .str)],[.own .str]⟩)))) (bN v 47 (bN v 45 (bV v 45 ⟨45,[.val (.sl .str)],[.own (.sl .str)]⟩) (bN v 46 (bV v 46 ⟨46,[.val I],[.own .str]⟩) (bV v 47 ⟨47,[.ptr (.pr (.sl (.pr .str (.pr I (.pr I (.pr .str (.ls .str)))))) (.pr .str .bool)),.val I,.val .str,.val (.sl .str)],[]⟩))) (bN v 49 (bN v 48 (bV v 48 ⟨48,[.val (.sl qj)],[.own .bool]⟩) (bV v 49 ⟨49,[.val (.sl .str),.val .str],[.own .bool]⟩)) (bN v 50 (bV v 50 ⟨50,[.val (.sl .str)],[.own .bool]⟩) (bV v 51 ⟨51,[.val (.sl qj)],[.own (.sl qj)]⟩))))))) (bN v 76 (bN v 63 (bN v 57 (bN v 54 (bN v 52 (bV v 52 ⟨52,[.ptr (.pr (.sl (.pr .str (.pr I (.pr I (.pr .str (.ls .str)))))) (.pr .str .bool)),.val .str,.val I],[.own jS,.own .bool]⟩) (bN v 53 (bV v 53 ⟨53,[.val (.sl .str),.val .str],[.own I,.own .bool]⟩) (bV v 54 ⟨54,[.own (.sl .str),.val I,.own (.sl .str)],[.own (.sl .str)]⟩))) (bN v 55 (bV v 55 ⟨55,[.ptr (.pr (.sl (.pr .str (.pr I (.pr I (.pr .str (.ls .str)))))) (.pr .str .bool)),.val .str,.val jS],[]⟩) (bN v 56 (bV v 56 ⟨56,[],[.own .str]⟩) (bV v 57 ⟨57,[.val .str],[.own .str]⟩)))) (bN v 60 (bN v 58 (bV v 58 ⟨58,[.own (.sl .str),.val I,.val I],[.own (.sl .str)]⟩) (bN v 59 (bV v 59 ⟨59,[.ptr (.pr (.sl (.pr .str (.pr I (.pr I (.pr .str (.ls .str)))))) (.pr .str .bool)),.val .str,.val jS],[]⟩) (bV v 60 ⟨60,[.val (.sl .str)],[.own (.sl .str)]⟩))) (bN v 61 (bV v 61 ⟨61,[.ptr (.pr (.sl (.pr .str (.pr I (.pr I (.pr .str (.ls .str)))))) (.pr .str .bool)),.val .str],[]⟩) (bN v 62 (bV v 62 ⟨62,[.val (.sl .str),.val .str],[.own I,.own .bool]⟩) (bV v 63 ⟨63,[.own (.sl .str),.clo 64 [((.sl .str),false)]],[.own (.sl .str)]⟩))))) (bN v 69 (bN v 66 (bN v 64 (bV v 64 ⟨64,[.val .str,.cptr (.sl .str)],[.own .bool]⟩) (bN v 65 (bV v 65 ⟨65,[.val (.sl .str),.val .str],[.own .bool]⟩) (bV v 66 ⟨66,[.val (.sl .str),.val (.sl .str)],[.own .bool]⟩))) (bN v 67 (bV v 67 ⟨67,[.ptr (.pr (.sl (.pr .str (.pr I (.pr I (.pr .str (.ls .str)))))) (.pr .str .bool)),.val .str,.val jS,.val .bool,.val .bool],[]⟩) (bN v 68 (bV v 68 ⟨68,[.ptr (.pr (.sl (.pr .str (.pr I (.pr I (.pr .str (.ls .str)))))) (.pr .str .bool)),.val .str],[.own I]⟩) (bV v 69 ⟨69,[.ptr (.pr (.ls (.int .u8)) (.pr I I)),.val I],[.own .bool]⟩)))) (bN v 72 (bN v 70 (bV v 70 ⟨70,[.ptr (.pr (.ls (.int .u8)) (.pr I I))],[.own jS]⟩) (bN v 71 (bV v 71 ⟨71,[.val I],[.own .str]⟩) (bV v 72 ⟨72,[.val (.sl qj),.val .str],[.own jS,.own .bool]⟩))) (bN v 74 (bN v 73 (bV v 73 ⟨73,[.ptr (.pr (.sl (.pr .str (.pr I (.pr I (.pr .str (.ls .str)))))) (.pr .str .bool)),.val (.sl .str),.val .bool],[.own I]⟩) (bV v 74 ⟨74,[.val jS,.val .bool],[.own .str]⟩)) (bN v 75 (bV v 75 ⟨75,[.ptr (.pr (.sl (.pr .str (.pr I (.pr I (.pr .str (.ls .str)))))) (.pr .str .bool)),.val I,.val .str,.val .str],[]⟩) (bV v 76 ⟨76,[.val jS,.val .bool,.val I],[.own I]⟩)))))) (bN v 90 (bN v 84 (bN v 79 (bN v 77 (bV v 77 ⟨77,[.val .str],[.own .bool]⟩) (bN v 78 (bV v 78 ⟨78,[.val jS],[.own .bool]⟩) (bV v 79 ⟨79,[.val .str],[.own (.sl .str)]⟩))) (bN v 80 (bV v 80 ⟨80,[.val jS],[.own jS]⟩) (bN v 83 (bV v 83 ⟨83,[.val (.sl qj),.val .str,.clo 84 []],[.own I,.own .bool]⟩) (bV v 84 ⟨84,[.val qj,.val .str],[.own I]⟩)))) (bN v 87 (bN v 85 (bV v 85 ⟨85,[.val .str,.val .str],[.own I]⟩) (bN v 86 (bV v 86 ⟨86,[.own (.sl (.pr .str (.pr I (.pr I (.pr .str (.ls .str)))))),.val I,.own (.sl (.pr .str (.pr I (.pr I (.pr .str (.ls .str))))))],[.own (.sl (.pr .str (.pr I (.pr I (.pr .str (.ls .str))))))]⟩) (bV v 87 ⟨87,[.ptr (.pr (.sl (.pr .str (.pr I (.pr I (.pr .str (.ls .str)))))) (.pr .str .bool)),.val .str],[.own .bool]⟩))) (bN v 88 (bV v 88 ⟨88,[.val .str],[.own .str]⟩) (bN v 89 (bV v 89 ⟨89,[.val .str,.val .str],[.own .bool]⟩) (bV v 90 ⟨90,[.val .str],[.own .bool]⟩))))) (bN v 97 (bN v 93 (bN v 91 (bV v 91 ⟨91,[.val (.sl .str),.clo 64 [((.sl .str),false)]],[.own I]⟩) (bN v 92 (bV v 92 ⟨92,[.val (.sl .str),.val .str],[.own I]⟩) (bV v 93 ⟨93,[.val .str],[.own I,.own .bool]⟩))) (bN v 94 (bV v 94 ⟨94,[.ptr (.pr (.ls (.int .u8)) (.pr I I))],[.own .str]⟩) (bN v 95 (bV v 95 ⟨95,[.val I],[.own .str]⟩) (bV v 97 ⟨97,[.val qj,.cptr .str],[.own .bool]⟩)))) (bN v 107 (bN v 98 (bV v 98 ⟨98,[.val I,.val (.sl .str)],[.own .bool]⟩) (bN v 106 (bV v 106 ⟨106,[.val qj,.cptr .str],[.own .bool]⟩) (bV v 107 ⟨107,[.val .str],[.own .bool]⟩))) (bN v 1001 (bN v 108 (bV v 108 ⟨108,[.val .str],[.own I,.err]⟩) (bV v 1001 ⟨96,[.val (.sl qj),.clo 97 [(.str,false)]],[.own I]⟩)) (bN v 1003 (bV v 1003 ⟨96,[.val (.sl qj),.clo 106 [(.str,false)]],[.own I]⟩) (bV v 1012 ⟨105,[.own (.sl (.pr .str (.pr I (.pr I (.pr .str (.ls .str)))))),.clo 106 [(.str,false)]],[.own (.sl (.pr .str (.pr I (.pr I (.pr .str (.ls .str))))))]⟩))))))))
end Go.Den.S
