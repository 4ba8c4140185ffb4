/- TabD: equations of the functions of this seat as the executor tells them, or plain facts about them. Conditions: none here. -/
import Derived.Test.YthejgmhimclmdaaGreatDoorDenFour
import Derived.Test.YthejgmhimclmdaaGreatDoorProg
set_option linter.all false
namespace Go.Den.S
open Go Go.Den Go.Proofs
abbrev I:Ty:=.int .i64
abbrev w64 (n:Int):Int:=IntKind.i64.wrap n
abbrev qm:Ty:=(.pr .str (.pr .str I))
abbrev zS:Type:=(BA×(BA×Int))
abbrev q0R:Ty:=(.pr .str (.pr I .bool))
abbrev qA:Type:=(BA×(Int×Bool))
abbrev qy:Ty:=(.pr .str (.pr .str .bool))
abbrev qg:Type:=(BA×(BA×Bool))
abbrev yH:Ty:=(.pr .str (.pr I (.pr I I)))
abbrev qE:Type:=(BA×(Int×(Int×Int)))
abbrev yw:Ty:=(.sl qm)
abbrev q9:Type:=(List zS)
abbrev qR:Type:=((List Int)×(Int×Int))
abbrev je:Ty:=(.pr I (.pr .str (.pr .str .str)))
abbrev yR:Type:=(Int×(BA×(BA×BA)))
abbrev q1a:Ty:=(.pr I (.pr I (.pr .str (.sl .str))))
abbrev yD:Type:=(Int×(Int×(BA×(List BA))))
abbrev zm:Ty:=(.pr I (.sl qy))
abbrev qQ:Type:=(Int×(List qg))
abbrev qx:Ty:=(.pr .str q1a)
abbrev qh:Type:=(BA×yD)
abbrev q0S:Ty:=(.pr zm (.pr I I))
abbrev jD:Type:=(qQ×(Int×Int))
abbrev q0Q:Ty:=(.pr yw (.pr I (.pr I (.pr I (.sl yH)))))
abbrev yL:Type:=(q9×(Int×(Int×(Int×(List qE)))))
abbrev qH:BA:=⟨#[109,43]⟩
abbrev c_a:BA:=⟨#[97]⟩
abbrev c_b:BA:=⟨#[98]⟩
abbrev c_c:BA:=⟨#[99]⟩
abbrev c_d:BA:=⟨#[100]⟩
abbrev qnc:BA:=⟨#[107,101,121]⟩
abbrev c_kk:BA:=⟨#[107,107]⟩
abbrev c_H:BA:=⟨#[72]⟩
abbrev c_B:BA:=⟨#[66]⟩
abbrev c_k:BA:=⟨#[107]⟩
abbrev q9A:BA:=⟨#[1]⟩
abbrev qiG:BA:=⟨#[0]⟩
abbrev c_0:BA:=⟨#[48]⟩
abbrev q9B:BA:=⟨#[45]⟩
abbrev c_f:BA:=⟨#[102]⟩
abbrev c_g:BA:=⟨#[103]⟩
abbrev c_h:BA:=⟨#[104]⟩
abbrev c_i:BA:=⟨#[105]⟩
abbrev c_1:BA:=⟨#[49]⟩
abbrev qa7:BA:=⟨#[45,55]⟩
abbrev c_x:BA:=⟨#[120]⟩
abbrev c_yy:BA:=⟨#[121,121]⟩
abbrev qhC:BA:=⟨#[104,101,108,108,111]⟩
abbrev c_12:BA:=⟨#[49,50]⟩
abbrev qnb:BA:=⟨#[97,32,98]⟩
def bN {α:Type} (v k:Nat) (a b:α):α:=bif Nat.ble v k then a else b
def bV (v k:Nat) (a:Sig):Sig:=bif Nat.beq v k then a else ⟨0,[],[]⟩
def V (v:Nat):Sig:=(bN v 171 (bN v 107 (bN v 79 (bN v 43 (bN v 29 (bN v 16 (bN v 12 (bV v 12 ⟨12,[.val (.sl (.int .u8))],[.own .bool]⟩) (bV v 16 ⟨16,[.val q0Q],[.own (.sl qy),.own .bool]⟩)) (bN v 22 (bV v 22 ⟨22,[.val (.sl (.int .u8))],[.own .bool]⟩) (bV v 29 ⟨29,[.val (.sl qy),.val (.sl qy)],[.own .bool]⟩))) (bN v 37 (bN v 35 (bV v 35 ⟨35,[.val q0Q,.val (.sl qy)],[.own q0Q,.own (.sl je),.own I]⟩) (bV v 37 ⟨37,[.val yw,.val I],[.own q0Q,.own (.sl je),.own .bool]⟩)) (bN v 38 (bV v 38 ⟨38,[.val yw,.val (.sl je)],[.own yw,.own I]⟩) (bN v 42 (bV v 42 ⟨42,[.val yw],[.own (.sl I),.own .bool]⟩) (bV v 43 ⟨43,[.val q0Q],[.own .bool]⟩))))) (bN v 63 (bN v 60 (bN v 56 (bV v 56 ⟨56,[.val q0Q],[.own (.sl qx),.own .bool]⟩) (bV v 60 ⟨60,[.val (.sl (.int .u8))],[.own (.sl qx),.own (.sl qx)]⟩)) (bN v 61 (bV v 61 ⟨61,[.val I],[.own q0Q,.own .bool]⟩) (bN v 62 (bV v 62 ⟨62,[.val (.sl qx),.val (.sl qx)],[.own (.sl qy)]⟩) (bV v 63 ⟨63,[.val (.sl qx)],[.own .bool]⟩)))) (bN v 65 (bN v 64 (bV v 64 ⟨64,[.val (.sl qx),.val (.sl qx)],[.own (.sl qy)]⟩) (bV v 65 ⟨65,[.val (.sl qx),.val (.sl qx)],[.own .bool]⟩)) (bN v 68 (bV v 68 ⟨68,[.val q0Q],[.own .bool]⟩) (bN v 72 (bV v 72 ⟨72,[.val yw,.val yH],[.own .str,.own .bool]⟩) (bV v 79 ⟨79,[.val (.sl (.int .u8))],[.ptr (.pr (.ls (.int .u8)) (.pr I I))]⟩)))))) (bN v 91 (bN v 85 (bN v 83 (bN v 82 (bV v 82 ⟨82,[.val yw],[.own (.sl I),.own .bool]⟩) (bV v 83 ⟨83,[.val I,.val I],[.own .str,.own .bool]⟩)) (bN v 84 (bV v 84 ⟨84,[.val yw,.val .str],[.own .str,.own .bool]⟩) (bV v 85 ⟨85,[.val I],[.own .str]⟩))) (bN v 88 (bN v 86 (bV v 86 ⟨86,[.val I,.val .str],[.own I,.lst (.sl q0S),.own .bool]⟩) (bV v 88 ⟨88,[.val zm],[.own .str,.own .bool]⟩)) (bN v 89 (bV v 89 ⟨89,[.val .str],[.own .str,.own .bool]⟩) (bN v 90 (bV v 90 ⟨90,[.val I,.val I],[.own .str,.own .bool]⟩) (bV v 91 ⟨91,[.val yw,.val .str],[.own .str,.own .bool]⟩))))) (bN v 98 (bN v 93 (bN v 92 (bV v 92 ⟨92,[.val I],[.own .str]⟩) (bV v 93 ⟨93,[.val I,.val .str],[.own I,.lst (.sl zm),.own I,.own .bool]⟩)) (bN v 95 (bV v 95 ⟨95,[.val zm],[.own .str,.own .bool]⟩) (bN v 97 (bV v 97 ⟨97,[.val .str],[.own .str,.own .bool]⟩) (bV v 98 ⟨98,[.val zm],[.own I]⟩)))) (bN v 100 (bN v 99 (bV v 99 ⟨99,[.ptr (.pr (.ls (.int .u8)) (.pr I I))],[.own I]⟩) (bV v 100 ⟨100,[.ptr (.pr (.ls (.int .u8)) (.pr I I)),.val I],[.own I]⟩)) (bN v 102 (bV v 102 ⟨102,[.val yw,.val je],[.own yw,.own .bool]⟩) (bN v 106 (bV v 106 ⟨106,[.val yw,.val (.sl je)],[.own yw,.own I]⟩) (bV v 107 ⟨107,[.val yw,.val .str],[.own I]⟩))))))) (bN v 138 (bN v 117 (bN v 112 (bN v 109 (bN v 108 (bV v 108 ⟨108,[.val yw],[.own I]⟩) (bV v 109 ⟨109,[.val yw,.val I],[.own q0Q,.own (.sl je),.own .bool]⟩)) (bN v 110 (bV v 110 ⟨110,[.val I,.val I,.val I],[.own .bool]⟩) (bV v 112 ⟨112,[.val I,.val I,.val I],[.own .bool]⟩))) (bN v 114 (bN v 113 (bV v 113 ⟨113,[.val yw],[.own .bool]⟩) (bV v 114 ⟨114,[.val yw],[.own .bool]⟩)) (bN v 115 (bV v 115 ⟨115,[.val yw],[.own (.sl yH),.own .bool]⟩) (bN v 116 (bV v 116 ⟨116,[.val yw,.val (.sl I)],[.own (.sl je)]⟩) (bV v 117 ⟨117,[.val I,.val .str],[.own I,.lst (.sl zm),.own I,.own .bool]⟩))))) (bN v 130 (bN v 119 (bN v 118 (bV v 118 ⟨118,[.val yw,.val je],[.own yw,.own .bool]⟩) (bV v 119 ⟨119,[.val yw],[.own .bool]⟩)) (bN v 120 (bV v 120 ⟨120,[.val q0Q,.val q0Q],[.own .bool]⟩) (bN v 129 (bV v 129 ⟨129,[.val (.sl qx)],[.own .bool]⟩) (bV v 130 ⟨130,[.val .str],[.own q1a,.own .bool]⟩)))) (bN v 135 (bN v 134 (bV v 134 ⟨134,[.ptr (.pr (.ls (.int .u8)) (.pr I I))],[.own (.sl qx)]⟩) (bV v 135 ⟨135,[.val (.sl qx),.val .str],[.own q1a,.own .bool]⟩)) (bN v 136 (bV v 136 ⟨136,[.val q1a,.val q1a],[.own .bool]⟩) (bN v 137 (bV v 137 ⟨137,[.val q1a],[.own .str,.own .bool]⟩) (bV v 138 ⟨138,[.mut (.sl qy),.clo 139 []],[]⟩)))))) (bN v 160 (bN v 145 (bN v 142 (bN v 141 (bV v 141 ⟨141,[.val .str],[.own .bool]⟩) (bV v 142 ⟨142,[.val q1a],[.own .bool]⟩)) (bN v 143 (bV v 143 ⟨143,[.val q1a],[.own .str,.own .bool]⟩) (bN v 144 (bV v 144 ⟨144,[.val q1a,.val q1a],[.own .bool]⟩) (bV v 145 ⟨145,[.val q1a,.val q1a],[.own .bool]⟩)))) (bN v 152 (bN v 151 (bV v 151 ⟨151,[.val yw],[.own .bool]⟩) (bV v 152 ⟨152,[.val .str],[.own (.sl .str),.own I]⟩)) (bN v 153 (bV v 153 ⟨153,[.val .str],[.own zm,.own .bool]⟩) (bN v 157 (bV v 157 ⟨157,[.ptr (.pr (.ls (.int .u8)) (.pr I I)),.val I],[.own .bool]⟩) (bV v 160 ⟨160,[.val .str],[.own I]⟩))))) (bN v 165 (bN v 162 (bN v 161 (bV v 161 ⟨161,[.val I,.val .str],[.own I,.own I,.own .bool]⟩) (bV v 162 ⟨162,[.mut (.sl I)],[]⟩)) (bN v 163 (bV v 163 ⟨163,[.own (.sl I),.clo 164 [(I,false)]],[.own (.sl I)]⟩) (bN v 164 (bV v 164 ⟨164,[.val I,.cptr I],[.own .bool]⟩) (bV v 165 ⟨165,[.val (.sl I)],[.own .str,.own .bool]⟩)))) (bN v 167 (bN v 166 (bV v 166 ⟨166,[.val yw,.val .str],[.own I]⟩) (bV v 167 ⟨167,[.val I],[.own .str]⟩)) (bN v 169 (bV v 169 ⟨169,[.val zm],[.own .bool]⟩) (bN v 170 (bV v 170 ⟨170,[.val .str],[.own .str]⟩) (bV v 171 ⟨171,[.val .bool],[.own .str]⟩)))))))) (bN v 215 (bN v 191 (bN v 180 (bN v 175 (bN v 173 (bN v 172 (bV v 172 ⟨172,[.val I],[.own .str,.own .bool]⟩) (bV v 173 ⟨173,[.val .str],[.own (.int .u32)]⟩)) (bN v 174 (bV v 174 ⟨174,[.val I],[.own .str]⟩) (bV v 175 ⟨175,[.val I],[.own .str]⟩))) (bN v 177 (bN v 176 (bV v 176 ⟨176,[.val .str],[.own (.sl .str),.own I]⟩) (bV v 177 ⟨177,[.val I,.val .str],[.own I,.own .bool]⟩)) (bN v 178 (bV v 178 ⟨178,[.val .str],[.own zm,.own .bool]⟩) (bN v 179 (bV v 179 ⟨179,[.val zm],[.own .bool]⟩) (bV v 180 ⟨180,[.val .str],[.own .str]⟩))))) (bN v 186 (bN v 182 (bN v 181 (bV v 181 ⟨181,[.val .bool],[.own .str]⟩) (bV v 182 ⟨182,[.val (.int .u32)],[.own .str]⟩)) (bN v 183 (bV v 183 ⟨183,[.val .str],[.own (.int .u32)]⟩) (bN v 185 (bV v 185 ⟨185,[.val yw],[.own yw]⟩) (bV v 186 ⟨186,[.ptr yw,.val qm],[]⟩)))) (bN v 188 (bN v 187 (bV v 187 ⟨187,[.own yw,.val I,.val I],[.own yw]⟩) (bV v 188 ⟨188,[.val yw],[.own .bool]⟩)) (bN v 189 (bV v 189 ⟨189,[.val yw],[.own .bool]⟩) (bN v 190 (bV v 190 ⟨190,[.val yw,.val (.sl I)],[.own (.sl je),.own .bool]⟩) (bV v 191 ⟨191,[.val yw],[.own (.sl yH),.own .bool]⟩)))))) (bN v 202 (bN v 197 (bN v 193 (bN v 192 (bV v 192 ⟨192,[.val yw,.val (.sl I)],[.own I]⟩) (bV v 193 ⟨193,[.val yw,.clo 194 []],[.own .bool]⟩)) (bN v 194 (bV v 194 ⟨194,[.val qm],[.own .bool]⟩) (bV v 197 ⟨197,[.val (.sl I),.val I],[.own .bool]⟩))) (bN v 199 (bN v 198 (bV v 198 ⟨198,[.val .str],[.own .bool]⟩) (bV v 199 ⟨199,[.val yw,.val qm],[.own yw]⟩)) (bN v 200 (bV v 200 ⟨200,[.val yw,.val .str],[.own yw]⟩) (bN v 201 (bV v 201 ⟨201,[.val yw,.val yw],[.own .bool]⟩) (bV v 202 ⟨202,[.val (.sl yH),.val (.sl yH)],[.own .bool]⟩))))) (bN v 208 (bN v 205 (bN v 204 (bV v 204 ⟨204,[.ptr q0R,.val I],[.own .str]⟩) (bV v 205 ⟨205,[.ptr q0R],[.own I]⟩)) (bN v 206 (bV v 206 ⟨206,[.ptr q0R],[.own .str]⟩) (bN v 207 (bV v 207 ⟨207,[.val q1a],[.own .bool]⟩) (bV v 208 ⟨208,[.ptr q0R],[.own I]⟩)))) (bN v 210 (bN v 209 (bV v 209 ⟨209,[.ptr q0R],[.own I]⟩) (bV v 210 ⟨210,[.ptr q0R],[.own .str]⟩)) (bN v 212 (bV v 212 ⟨212,[.ptr q1a,.pptr q0R],[]⟩) (bN v 213 (bV v 213 ⟨213,[.ptr q0R],[.own .bool]⟩) (bV v 215 ⟨215,[.ptr (.pr (.ls (.int .u8)) (.pr I I))],[.own q1a]⟩))))))) (bN v 243 (bN v 230 (bN v 219 (bN v 217 (bN v 216 (bV v 216 ⟨216,[.val (.sl qx),.clo 217 [(.str,false)]],[.own I]⟩) (bV v 217 ⟨217,[.val qx,.cptr .str],[.own .bool]⟩)) (bN v 218 (bV v 218 ⟨218,[.val q1a],[.own q1a]⟩) (bV v 219 ⟨219,[.val (.sl .str),.val (.sl .str)],[.own .bool]⟩))) (bN v 224 (bN v 223 (bV v 223 ⟨223,[.val I,.val (.sl .str)],[.own .bool]⟩) (bV v 224 ⟨224,[.val (.sl .str),.val (.sl .str)],[.own .bool]⟩)) (bN v 227 (bV v 227 ⟨227,[.val .str,.val I],[.own I,.own I,.own .bool]⟩) (bN v 228 (bV v 228 ⟨228,[.pptr q0R,.ptr zm],[]⟩) (bV v 230 ⟨230,[.ptr (.pr (.ls (.int .u8)) (.pr I I)),.val (.sl .str)],[.own .str]⟩))))) (bN v 237 (bN v 232 (bN v 231 (bV v 231 ⟨231,[.val .str,.val .str],[.own .str,.own .bool]⟩) (bV v 232 ⟨232,[.val .str],[.own I,.own .bool]⟩)) (bN v 234 (bV v 234 ⟨234,[.val (.sl I),.clo 164 [(I,false)]],[.own I]⟩) (bN v 236 (bV v 236 ⟨236,[.val qm,.cptr .str],[.own .bool]⟩) (bV v 237 ⟨237,[.val I],[.own .str]⟩)))) (bN v 240 (bN v 239 (bV v 239 ⟨239,[.val .str],[.own .str,.own .bool]⟩) (bV v 240 ⟨240,[.val (.int .u32),.val .str],[.own (.int .u32)]⟩)) (bN v 241 (bV v 241 ⟨241,[.val I],[.own (.int .u8)]⟩) (bN v 242 (bV v 242 ⟨242,[.val .str,.val I],[.own I,.own I,.own .bool]⟩) (bV v 243 ⟨243,[.val (.int .u32),.val .str],[.own (.int .u32)]⟩)))))) (bN v 268 (bN v 248 (bN v 245 (bN v 244 (bV v 244 ⟨244,[.val qm,.cptr qm],[.own .bool]⟩) (bV v 245 ⟨245,[.own yw,.val I,.own yw],[.own yw]⟩)) (bN v 246 (bV v 246 ⟨246,[.val yw,.val I],[.lst (.sl zm)]⟩) (bN v 247 (bV v 247 ⟨247,[.val .str],[.own I]⟩) (bV v 248 ⟨248,[.val (.sl yH),.val yH,.val .bool],[.own (.sl yH)]⟩)))) (bN v 253 (bN v 252 (bV v 252 ⟨252,[.val (.sl I),.val I],[.own I]⟩) (bV v 253 ⟨253,[.val .str,.val I],[.own .str,.own I,.own .bool]⟩)) (bN v 255 (bV v 255 ⟨255,[.ptr (.pr (.ls (.int .u8)) (.pr I I))],[.own .str]⟩) (bN v 267 (bV v 267 ⟨267,[.val .str,.val .str],[.own .str,.own .bool]⟩) (bV v 268 ⟨268,[.val .str],[.own I,.err]⟩))))) (bN v 1003 (bN v 289 (bN v 281 (bV v 281 ⟨281,[.val .str],[.own I,.own .bool]⟩) (bV v 289 ⟨289,[.val .str,.val .str],[.own .bool]⟩)) (bN v 1001 (bV v 1001 ⟨235,[.val yw,.clo 236 [(.str,false)]],[.own I]⟩) (bN v 1002 (bV v 1002 ⟨235,[.val yw,.clo 244 [(qm,false)]],[.own I]⟩) (bV v 1003 ⟨235,[.val yw,.clo 194 []],[.own I]⟩)))) (bN v 1012 (bN v 1011 (bV v 1011 ⟨211,[.ptr q0R,.rclo 456 [(zm,true)]],[]⟩) (bV v 1012 ⟨211,[.ptr q0R,.rclo 425 [(q1a,true)]],[]⟩)) (bN v 1999999001 (bV v 1999999001 ⟨196,[],[]⟩) (bN v 1999999002 (bV v 1999999002 ⟨195,[],[]⟩) (bV v 1999999003 ⟨251,[],[]⟩)))))))))
end Go.Den.S
