/- EqA: equations of the functions of this seat as the executor tells them, or plain facts about them. Conditions: none here. -/
import Derived.Test.YtbgaejnkjmjkhaaDoorTabD
import Derived.KernelRfl
import Derived.Lib.FieldsLaws
import Derived.Lib.Bytealg
import Derived.Lib.AtoiAll
import Derived.Lib.ItoaNum
set_option linter.all false
namespace Go.Den.S
open Go Go.Den Go.Proofs
def hE : Hint := ⟨[],[],[]⟩
def bH (v k : Nat) (a : Nat -> Hint) : Nat -> Hint := bif Nat.beq v k then a else fun _ => hE
def bI (v k : Nat) (a b : Hint) : Hint := bif Nat.beq v k then a else b
noncomputable section
def H (v : Nat) : Nat -> Hint := (bN v 37 (bN v 15 (bN v 6 (bN v 4 (bN v 3 (bH v 3 fun i => bI i 0 ⟨[(3,.row .str),(4,.lst qj),(6,.v)],[],[]⟩ <| bI i 2 ⟨[(4,.lst qj),(17,.v),(20,.v),(23,.v),(25,.row .str),(26,.row .str),(27,.lst .str),(28,.v)],[],[]⟩ <| hE) (bH v 4 fun i => bI i 0 ⟨[(3,.row .str),(4,.row qj),(5,.v),(14,.v),(16,.row .str),(17,.v)],[],[]⟩ <| bI i 2 ⟨[(3,.row .str),(4,.row qj),(5,.v),(14,.v),(16,.row .str),(18,.v)],[],[]⟩ <| hE)) (bN v 5 (bH v 5 fun i => bI i 0 ⟨[(3,.row .str),(13,.lst qj),(14,.lst qj),(15,.lst qj),(16,.v)],[],[]⟩ <| hE) (bH v 6 fun i => bI i 0 ⟨[(3,.row .str),(7,.v),(8,.v),(11,.lst qj),(13,.v),(14,.v),(16,.v),(18,.row .str),(19,.row .str),(20,.v)],[],[]⟩ <| hE))) (bN v 9 (bN v 7 (bH v 7 fun i => bI i 0 ⟨[(3,.row qj),(5,.row .str),(6,.v)],[],[]⟩ <| bI i 2 ⟨[(3,.row qj),(19,.v)],[],[]⟩ <| hE) (bH v 9 fun i => bI i 0 ⟨[(3,.v),(4,.row .str),(5,.v)],[],[(1040,[(0,.lst (.int .u8)),(1,.v),(2,.v)])]⟩ <| hE)) (bN v 10 (bH v 10 fun i => bI i 0 ⟨[(0,.v),(3,.v),(4,.v)],[],[]⟩ <| hE) (bN v 14 (bH v 14 fun i => bI i 0 ⟨[(0,.lst .str),(3,.row (.int .u8)),(4,.v)],[],[]⟩ <| hE) (bH v 15 fun i => bI i 0 ⟨[(0,.lst qj),(3,.v)],[],[]⟩ <| hE))))) (bN v 25 (bN v 20 (bN v 18 (bH v 18 fun i => bI i 0 ⟨[(0,.lst qj),(1,.lst qj),(5,.v)],[],[]⟩ <| hE) (bH v 20 fun i => bI i 0 ⟨[(3,.v),(4,.row I),(5,.v)],[],[(1040,[(0,.lst (.int .u8)),(1,.v),(2,.v)])]⟩ <| hE)) (bN v 24 (bH v 24 fun i => bI i 1 ⟨[(0,.lst qj),(9,.v),(12,.row .str),(46,.lst qj),(47,.v),(48,.v)],[],[(1056,[(0,.row (.pr .str (.pr I (.pr I (.pr .str (.ls .str)))))),(1,.v),(2,.v)])]⟩ <| hE) (bH v 25 fun i => bI i 0 ⟨[(0,.lst (.int .u8)),(3,.v),(4,.v)],[],[]⟩ <| hE))) (bN v 31 (bN v 30 (bH v 30 fun i => bI i 1 ⟨[(0,.v),(2,.v),(8,.v),(14,.v),(106,.lst .str),(107,.v),(108,.v)],[],[(3000000,[(0,.row (.pr .str (.pr I (.pr I (.pr .str (.ls .str)))))),(1,.v),(2,.v)]),(96,[(0,.v),(1,.v),(2,.v),(3,.row .str)])]⟩ <| hE) (bH v 31 fun i => bI i 0 ⟨[(3,.v),(8,.v),(9,.v),(10,.v)],[],[(1040,[])]⟩ <| hE)) (bN v 34 (bH v 34 fun i => bI i 0 ⟨[(1,.v),(3,.v)],[],[(0,[(0,.v),(1,.v),(2,.v),(3,.lst .str)])]⟩ <| bI i 1700000 ⟨[(1,.v)],[],[(0,[(0,.v),(1,.v),(2,.v),(3,.lst .str)])]⟩ <| bI i 1700001 ⟨[(1,.v),(13,.v)],[],[(0,[(0,.v),(1,.v),(2,.v),(3,.lst .str)])]⟩ <| bI i 1700002 ⟨[(2,.v)],[],[]⟩ <| bI i 1700003 ⟨[(1,.v),(16,.v)],[],[(0,[(0,.v),(1,.v),(2,.v),(3,.lst .str)])]⟩ <| bI i 1700004 ⟨[(2,.v)],[],[]⟩ <| bI i 1700005 ⟨[(1,.v),(48,.v)],[],[(0,[(0,.v),(1,.v),(2,.v),(3,.lst .str)])]⟩ <| bI i 1700006 ⟨[(2,.v)],[],[]⟩ <| bI i 1700007 ⟨[(1,.v),(3,.v)],[],[(0,[(0,.v),(1,.v),(2,.v),(3,.lst .str)])]⟩ <| bI i 1700008 ⟨[(1,.v),(3,.v),(53,.v)],[],[(0,[(0,.v),(1,.v),(2,.v),(3,.lst .str)])]⟩ <| bI i 1700010 ⟨[(1,.v),(3,.v),(62,.v)],[],[(0,[(0,.v),(1,.v),(2,.v),(3,.lst .str)])]⟩ <| bI i 1700011 ⟨[(2,.v)],[],[]⟩ <| bI i 1700012 ⟨[(1,.v),(3,.v),(111,.v)],[],[(0,[(0,.v),(1,.v),(2,.v),(3,.lst .str)])]⟩ <| bI i 1700013 ⟨[(2,.v)],[],[]⟩ <| bI i 1700014 ⟨[(2,.v)],[],[]⟩ <| bI i 2700000 ⟨[(0,.v)],[],[]⟩ <| bI i 2700001 ⟨[(0,.v)],[],[]⟩ <| bI i 2700002 ⟨[(0,.v)],[],[]⟩ <| bI i 2700003 ⟨[(0,.v)],[],[]⟩ <| bI i 2700004 ⟨[(0,.v)],[],[]⟩ <| bI i 2700005 ⟨[(0,.v)],[],[]⟩ <| bI i 2700006 ⟨[(0,.v)],[],[]⟩ <| bI i 2700007 ⟨[(0,.v)],[],[]⟩ <| bI i 2700008 ⟨[(0,.v)],[],[]⟩ <| bI i 2700010 ⟨[(0,.v)],[],[]⟩ <| bI i 2700011 ⟨[(0,.v)],[],[]⟩ <| bI i 2700012 ⟨[(0,.v)],[],[]⟩ <| bI i 2700013 ⟨[(0,.v)],[],[]⟩ <| bI i 2700014 ⟨[(0,.v)],[],[]⟩ <| hE) (bN v 35 (bH v 35 fun i => bI i 1 ⟨[(0,.v),(2,.v),(8,.v),(10,.v),(39,.lst .str),(40,.v),(41,.v)],[],[(3000000,[(0,.row (.pr .str (.pr I (.pr I (.pr .str (.ls .str)))))),(1,.v),(2,.v)]),(1120,[(0,.v),(1,.v),(2,.v),(3,.row .str)])]⟩ <| hE) (bH v 37 fun i => bI i 1 ⟨[(0,.v),(2,.v),(8,.v),(51,.lst .str),(52,.v),(53,.v)],[],[(3000000,[(0,.row (.pr .str (.pr I (.pr I (.pr .str (.ls .str)))))),(1,.v),(2,.v)]),(96,[(0,.v),(1,.v),(2,.v),(3,.row .str)])]⟩ <| hE)))))) (bN v 63 (bN v 48 (bN v 44 (bN v 41 (bH v 41 fun i => bI i 0 ⟨[(0,.v),(3,.row qj),(4,.row .str),(5,.v)],[],[(3000000,[(0,.lst (.int .u8)),(1,.v),(2,.v)])]⟩ <| bI i 2 ⟨[(0,.v),(3,.row qj),(6,.v)],[],[(3000000,[(0,.lst (.int .u8)),(1,.v),(2,.v)])]⟩ <| hE) (bH v 44 fun i => bI i 0 ⟨[(3,.row (.int .u8)),(12,.lst .str),(13,.v),(14,.v)],[],[]⟩ <| hE)) (bN v 45 (bH v 45 fun i => bI i 0 ⟨[(3,.row .str),(6,.lst .str),(7,.v),(8,.v)],[],[]⟩ <| hE) (bH v 48 fun i => bI i 0 ⟨[(0,.lst qj),(5,.lst qj),(6,.v),(7,.v)],[],[]⟩ <| hE))) (bN v 53 (bN v 51 (bH v 51 fun i => bI i 0 ⟨[(3,.row qj),(6,.lst qj),(7,.v),(8,.v)],[],[]⟩ <| hE) (bH v 53 fun i => bI i 0 ⟨[(0,.lst .str),(1,.v),(6,.v)],[],[]⟩ <| hE)) (bN v 60 (bH v 60 fun i => bI i 0 ⟨[(0,.lst .str),(3,.row .str),(4,.v)],[],[]⟩ <| hE) (bN v 62 (bH v 62 fun i => bI i 0 ⟨[(0,.lst .str),(1,.v),(6,.v),(7,.v),(8,.v)],[],[]⟩ <| hE) (bH v 63 fun i => bI i 0 ⟨[(0,.row .str),(1,.v),(5,.v),(6,.v)],[],[(3000064,[])]⟩ <| hE))))) (bN v 91 (bN v 70 (bN v 66 (bH v 66 fun i => bI i 0 ⟨[(0,.lst .str),(1,.lst .str),(5,.v)],[],[]⟩ <| hE) (bH v 70 fun i => bI i 1 ⟨[(0,.v),(2,.v),(3,.v),(4,.row .str),(6,.v)],[],[(3000000,[(0,.lst (.int .u8)),(1,.v),(2,.v)]),(0,[(0,.v),(1,.v),(2,.v),(3,.row .str)]),(1088,[(0,.v),(1,.v),(2,.v),(3,.row .str)])]⟩ <| bI i 3 ⟨[(0,.v),(2,.v),(3,.v),(5,.v)],[],[(3000000,[(0,.lst (.int .u8)),(1,.v),(2,.v)]),(0,[(0,.v),(1,.v),(2,.v),(3,.row .str)]),(1088,[(0,.v),(1,.v),(2,.v),(3,.row .str)])]⟩ <| hE)) (bN v 73 (bH v 73 fun i => bI i 0 ⟨[(0,.v),(2,.v),(7,.v),(12,.lst .str),(13,.v),(14,.v)],[],[(3000000,[(0,.row (.pr .str (.pr I (.pr I (.pr .str (.ls .str)))))),(1,.v),(2,.v)])]⟩ <| hE) (bN v 83 (bH v 83 fun i => bI i 0 ⟨[(0,.lst qj),(1,.v),(2,.v),(8,.v),(9,.v),(10,.v)],[],[]⟩ <| hE) (bH v 91 fun i => bI i 0 ⟨[(0,.lst .str),(1,.v),(7,.v),(8,.v)],[],[(3000064,[])]⟩ <| hE)))) (bN v 98 (bN v 92 (bH v 92 fun i => bI i 0 ⟨[(0,.lst .str),(1,.v),(7,.v),(8,.v)],[],[]⟩ <| hE) (bH v 98 fun i => bI i 1 ⟨[(1,.lst .str),(5,.v),(17,.lst .str),(18,.v),(19,.v)],[],[]⟩ <| hE)) (bN v 1001 (bH v 1001 fun i => bI i 0 ⟨[(0,.lst qj),(1,.v),(7,.v),(8,.v)],[],[(3000064,[])]⟩ <| hE) (bN v 1003 (bH v 1003 fun i => bI i 0 ⟨[(0,.lst qj),(1,.v),(7,.v),(8,.v)],[],[(3000064,[])]⟩ <| hE) (bH v 1012 fun i => bI i 0 ⟨[(0,.row (.pr .str (.pr I (.pr I (.pr .str (.ls .str)))))),(1,.v),(5,.v),(6,.v)],[],[(3000064,[])]⟩ <| hE)))))))
def q06 (x : BA × Unit) : Option (List BA × Unit) := bif x.1.data.toList.all (fun b => decide (b.toNat < 128)) && decide (x.1.size < 4294967281) then some ((Lib.fields x.1.data.toList).map (fun l => ⟨l.toArray⟩),()) else none
def jQ (x : BA × BA × Unit) : Option (Int × Unit) := some (Lib.compareBytes x.1.data.toList x.2.1.data.toList,())
def q00 (x : Int × Unit) : Option (BA × Unit) := bif decide (-9223372036854775808 <= x.1) && decide (x.1 <= 9223372036854775807) then some (⟨(Lib.itoa x.1).toArray⟩,()) else none
def jY (x : BA × Unit) : Option ((Int × Bool) × Unit) := bif decide (x.1.size <= 281474976710656) then (match Lib.atoiAll x.1.data.toList with | .ok v => some ((v,false),()) | .syntax => some ((0,true),()) | .range => some ((Lib.atoiSat x.1.data.toList,true),())) else none
def insF {α : Type} (k : Nat) (x : List α × Int × List α × Unit) : Option (List α × Unit) := bif decide (0 <= x.2.1) && decide (x.2.1 <= (x.1.length : Int)) && decide (0 < x.2.2.1.length) && lim (x.1.length + x.2.2.1.length) k then some (x.1.take x.2.1.toNat ++ x.2.2.1 ++ x.1.drop x.2.1.toNat,()) else none
def delF {α : Type} (k : Nat) (x : List α × Int × Int × Unit) : Option (List α × Unit) := bif decide (0 <= x.2.1) && decide (x.2.1 <= x.2.2.1) && decide (x.2.2.1 <= (x.1.length : Int)) && lim x.1.length k then some (x.1.take x.2.1.toNat ++ x.1.drop x.2.2.1.toNat,()) else none
def ext : (v : Nat) -> Option (yL (V v).pars -> Option (V v).RetD) | 79 => some (fun x => q06 x) | 85 => some (fun x => jQ x) | 95 => some (fun x => q00 x) | 108 => some (fun x => jY x) | 54 => some (fun x => insF 16 x) | 58 => some (fun x => delF 16 x) | 86 => some (fun x => insF 72 x) | _ => none
def X : Cx := { P := Tryd.prog,V := V,cands := (fun g => bif Nat.beq g 96 then [1001,1003] else bif Nat.beq g 105 then [1012] else [g]),hint := H,ext := ext }
def strings_Fields (a0 : BA) : Option ((List BA) × Unit) := DF X 79 ((a0,()) : (BA) × Unit)
theorem yN (a0 : BA) : strings_Fields a0 = q06 (a0,()) := q4h X rfl _
def strings_Compare (a0 : BA) (a1 : BA) : Option ((Int) × Unit) := DF X 85 ((a0,a1,()) : (BA) × (BA) × Unit)
theorem q4e (a0 : BA) (a1 : BA) : strings_Compare a0 a1 = jQ (a0,a1,()) := q4h X rfl _
def strconv_Itoa (a0 : Int) : Option ((BA) × Unit) := DF X 95 ((a0,()) : (Int) × Unit)
theorem q5w (a0 : Int) : strconv_Itoa a0 = q00 (a0,()) := q4h X rfl _
def strconv_Atoi (a0 : BA) : Option ((Int × Bool) × Unit) := DF X 108 ((a0,()) : (BA) × Unit)
theorem q5s (a0 : BA) : strconv_Atoi a0 = jY (a0,()) := q4h X rfl _
def qM (a0 : List (BA × Int × Int × BA × List BA)) (a1 : Int) (a2 : List (BA × Int × Int × BA × List BA)) : Option ((List (BA × Int × Int × BA × List BA)) × Unit) := DF X 86 ((a0,a1,a2,()) : (List (BA × Int × Int × BA × List BA)) × (Int) × (List (BA × Int × Int × BA × List BA)) × Unit)
theorem yH (a0 : List (BA × Int × Int × BA × List BA)) (a1 : Int) (a2 : List (BA × Int × Int × BA × List BA)) : qM a0 a1 a2 = insF 72 (a0,a1,a2,()) := q4h X rfl _
def q4d (a0 : (List Int)) : Option (Bool × Unit) := DF X 5 ((a0,()) : ((List Int)) × Unit)
def q09 (x3 : (List BA)) (x13 : (List qd)) (x14 : (List qd)) (x15 : (List qd)) (x16 : Int) : Option (Bool × Unit) := wm X 5 0 [] (mkSt 161 [(3,.sv (.own 1000003)),(13,.sv (.lst qj x13)),(14,.sv (.lst qj x14)),(15,.sv (.lst qj x15)),(16,.sv (.int .i64 x16))] [(1000003,.live (.row .str x3 0)),(1000013,.gone),(1000014,.gone),(1000015,.gone)])
def q3N (a0 : (List Int)) : Option (Bool × Unit) := DF X 6 ((a0,()) : ((List Int)) × Unit)
def wZ (x3 : (List BA)) (x7 : Int) (x8 : Int) (x11 : (List qd)) (x13 : BA) (x14 : Bool) (x16 : BA) (x18 : (List BA)) (x19 : (List BA)) (x20 : Int) : Option (Bool × Unit) := wm X 6 0 [] (mkSt 189 [(3,.sv (.own 1000003)),(7,.sv (.int .i64 x7)),(8,.sv (.int .i64 x8)),(11,.sv (.lst qj x11)),(13,.sv (.str x13)),(14,.sv (.bool x14)),(16,.sv (.str x16)),(18,.sv (.own 1000018)),(19,.sv (.own 1000019)),(20,.sv (.int .i64 x20))] [(1000003,.live (.row .str x3 0)),(1000011,.gone),(1000018,.live (.row .str x18 0)),(1000019,.live (.row .str x19 0))])
def q5e (a0 : (List Int)) : Option (Bool × Unit) := DF X 8 ((a0,()) : ((List Int)) × Unit)
def q0J (a0 : (List Int)) : Option ((List BA) × Unit) := DF X 9 ((a0,()) : ((List Int)) × Unit)
def jP (x4 : (List BA)) (x5 : Int) (b_a_0 : (List Int)) (b_a_1 : Int) (b_a_2 : Int) : Option ((List BA) × Unit) := wm X 9 0 [] (mkSt 23 [(3,.sv (.ptr 1040 0)),(4,.sv (.own 1000004)),(5,.sv (.int .i64 x5))] [(1000004,.live (.row .str x4 0)),(2066560,.gone),(1040,.live (.box [(.lst (.int .u8) b_a_0),(.int .i64 b_a_1),(.int .i64 b_a_2)]))])
def wF (a0 : Int) : Option (BA × Unit) := DF X 10 ((a0,()) : (Int) × Unit)
def yO (x0 : Int) (x3 : Bool) (x4 : BA) : Option (BA × Unit) := wm X 10 0 [] (mkSt 30 [(0,.sv (.int .i64 x0)),(3,.sv (.bool x3)),(4,.sv (.str x4))] [])
def zX (a0 : BA) : Option (BA × Unit) := DF X 12 ((a0,()) : (BA) × Unit)
def q30 (a0 : Int) : Option (BA × Unit) := DF X 13 ((a0,()) : (Int) × Unit)
def q1n (a0 : (List BA)) : Option (BA × Unit) := DF X 14 ((a0,()) : ((List BA)) × Unit)
def jX (x0 : (List BA)) (x3 : (List Int)) (x4 : Int) : Option (BA × Unit) := wm X 14 0 [] (mkSt 26 [(0,.sv (.lst .str x0)),(3,.sv (.own 1000003)),(4,.sv (.int .i64 x4))] [(1000000,.gone),(1000003,.live (.row (.int .u8) x3 0))])
def q3J (a0 : (List BA)) : Option ((List qd) × Unit) := DF X 17 ((a0,()) : ((List BA)) × Unit)
def qI (a0 : (List qd)) (a1 : (List BA)) : Option (((List qd) × BA × Bool) × Unit) := DF X 19 ((a0,a1,()) : ((List qd)) × ((List BA)) × Unit)
def q1e (a0 : (List Int)) : Option ((List Int) × Unit) := DF X 20 ((a0,()) : ((List Int)) × Unit)
def zV (x4 : (List Int)) (x5 : Int) (b_a_0 : (List Int)) (b_a_1 : Int) (b_a_2 : Int) : Option ((List Int) × Unit) := wm X 20 0 [] (mkSt 21 [(3,.sv (.ptr 1040 0)),(4,.sv (.own 1000004)),(5,.sv (.int .i64 x5))] [(1000004,.live (.row I x4 0)),(2066560,.gone),(1040,.live (.box [(.lst (.int .u8) b_a_0),(.int .i64 b_a_1),(.int .i64 b_a_2)]))])
def q0D (a0 : Int) (a1 : Int) (a2 : Int) : Option ((Int × Int) × Unit) := DF X 21 ((a0,a1,a2,()) : (Int) × (Int) × (Int) × Unit)
def q2W (a0 : Int) (a1 : Int) (a2 : Int) : Option ((Int × Int) × Unit) := DF X 22 ((a0,a1,a2,()) : (Int) × (Int) × (Int) × Unit)
def q1E (a0 : (List Int)) : Option (yJ × Unit) := DF X 25 ((a0,()) : ((List Int)) × Unit)
def q0p (x0 : (List Int)) (x3 : Int) (x4 : Int) : Option (yJ × Unit) := wm X 25 0 [] (mkSt 32 [(0,.sv (.lst (.int .u8) x0)),(3,.sv (.int .i64 x3)),(4,.sv (.int .i64 x4))] [(1000000,.gone)])
def zx (a0 : yJ) (a1 : Int) : Option (Int × (yJ × Unit)) := DF X 26 ((a0,a1,()) : (yJ) × (Int) × Unit)
def q2p (a0 : yJ) (a1 : (List BA)) : Option (BA × (yJ × Unit)) := DF X 27 ((a0,a1,()) : (yJ) × ((List BA)) × Unit)
def q0A (a0 : Int) : Option (Int × Unit) := DF X 28 ((a0,()) : (Int) × Unit)
def q3I (a0 : (List qd)) (a1 : (List BA)) (a2 : BA) : Option (((Option qB) × Bool) × Unit) := DF X 29 ((a0,a1,a2,()) : ((List qd)) × ((List BA)) × (BA) × Unit)
def q0q (a0 : BA) : Option (BA × Unit) := DF X 31 ((a0,()) : (BA) × Unit)
def wI (x9 : Int) (x10 : Int) (r_b : (List Int)) : Option (BA × Unit) := wm X 31 0 [] (mkSt 29 [(3,.sv (.own 1040)),(8,.sv (.own 1040)),(9,.sv (.int .i64 x9)),(10,.sv (.int .i64 x10))] [(1040,.live (.row (.int .u8) r_b 0))])
def yU (a0 : qB) (a1 : (List qd)) : Option (((List qd) × BA × Bool) × (qB × Unit)) := DF X 32 ((a0,a1,()) : (qB) × ((List qd)) × Unit)
def q3C (a0 : Int) (a1 : Int) (a2 : Int) : Option (Bool × Unit) := DF X 33 ((a0,a1,a2,()) : (Int) × (Int) × (Int) × Unit)
def yV (a0 : qB) (a1 : BA) (a2 : BA) (a3 : (List BA)) : Option (Unit × (qB × Unit)) := DF X 37 ((a0,a1,a2,a3,()) : (qB) × (BA) × (BA) × ((List BA)) × Unit)
def qD (x2 : BA) (x51 : (List BA)) (x52 : Int) (x53 : Int) (b_c_0 : (List qd)) (b_c_1 : BA) (b_c_2 : Bool) (b96_0 : Int) (b96_1 : Int) (b96_2 : BA) (b96_3 : (List BA)) : Option (Unit × (qB × Unit)) := wm X 37 1 [] (mkSt 142 [(0,.sv (.ptr 3000000 0)),(2,.sv (.str x2)),(8,.sv (.ptr 96 0)),(51,.sv (.lst .str x51)),(52,.sv (.int .i64 x52)),(53,.sv (.int .i64 x53))] [(1000051,.gone),(194000000,.live (.row (.pr .str (.pr I (.pr I (.pr .str (.ls .str))))) b_c_0 0)),(3000000,.live (.box [(.own 194000000),(.str b_c_1),(.bool b_c_2)])),(2006147,.live (.row .str b96_3 0)),(96,.live (.box [(.int .i64 b96_0),(.int .i64 b96_1),(.str b96_2),(.own 2006147)]))])
def zl (a0 : yJ) : Option (Int × (yJ × Unit)) := DF X 38 ((a0,()) : (yJ) × Unit)
def zH (a0 : Int) (a1 : Int) (a2 : Int) : Option (Bool × Unit) := DF X 39 ((a0,a1,a2,()) : (Int) × (Int) × (Int) × Unit)
def zO (a0 : Int) (a1 : Int) : Option (Int × Unit) := DF X 40 ((a0,a1,()) : (Int) × (Int) × Unit)
def qg (a0 : qB) (a1 : BA) : Option (Unit × (qB × Unit)) := DF X 42 ((a0,a1,()) : (qB) × (BA) × Unit)
def q28 (a0 : (List BA)) : Option (BA × Unit) := DF X 44 ((a0,()) : ((List BA)) × Unit)
def jW (x3 : (List Int)) (x12 : (List BA)) (x13 : Int) (x14 : Int) : Option (BA × Unit) := wm X 44 0 [] (mkSt 24 [(3,.sv (.own 1000003)),(12,.sv (.lst .str x12)),(13,.sv (.int .i64 x13)),(14,.sv (.int .i64 x14))] [(1000003,.live (.row (.int .u8) x3 0)),(1000012,.gone)])
def q3G (a0 : (List BA)) : Option ((List BA) × Unit) := DF X 45 ((a0,()) : ((List BA)) × Unit)
def q04 (x3 : (List BA)) (x6 : (List BA)) (x7 : Int) (x8 : Int) : Option ((List BA) × Unit) := wm X 45 0 [] (mkSt 19 [(3,.sv (.own 1000003)),(6,.sv (.lst .str x6)),(7,.sv (.int .i64 x7)),(8,.sv (.int .i64 x8))] [(1000003,.live (.row .str x3 0)),(1000006,.gone)])
def ji (a0 : Int) : Option (BA × Unit) := DF X 46 ((a0,()) : (Int) × Unit)
def q1g (a0 : (List qd)) : Option (Bool × Unit) := DF X 48 ((a0,()) : ((List qd)) × Unit)
def wS (x0 : (List qd)) (x5 : (List qd)) (x6 : Int) (x7 : Int) : Option (Bool × Unit) := wm X 48 0 [] (mkSt 41 [(0,.sv (.lst qj x0)),(5,.sv (.lst qj x5)),(6,.sv (.int .i64 x6)),(7,.sv (.int .i64 x7))] [(1000000,.gone),(1000005,.gone)])
def wN (a0 : (List BA)) (a1 : BA) : Option (Bool × Unit) := DF X 49 ((a0,a1,()) : ((List BA)) × (BA) × Unit)
def q2C (a0 : (List BA)) : Option (Bool × Unit) := DF X 50 ((a0,()) : ((List BA)) × Unit)
def w9 (a0 : (List qd)) : Option ((List qd) × Unit) := DF X 51 ((a0,()) : ((List qd)) × Unit)
def zB (x3 : (List qd)) (x6 : (List qd)) (x7 : Int) (x8 : Int) : Option ((List qd) × Unit) := wm X 51 0 [] (mkSt 23 [(3,.sv (.own 1000003)),(6,.sv (.lst qj x6)),(7,.sv (.int .i64 x7)),(8,.sv (.int .i64 x8))] [(1000003,.live (.row qj x3 0)),(1000006,.gone)])
def yg (a0 : qB) (a1 : BA) (a2 : Int) : Option ((wY × Bool) × (qB × Unit)) := DF X 52 ((a0,a1,a2,()) : (qB) × (BA) × (Int) × Unit)
def qH (a0 : qB) (a1 : BA) (a2 : wY) : Option (Unit × (qB × Unit)) := DF X 55 ((a0,a1,a2,()) : (qB) × (BA) × (wY) × Unit)
def q3y : Option (BA × Unit) := DF X 56 (() : Unit)
def q0X (a0 : BA) : Option (BA × Unit) := DF X 57 ((a0,()) : (BA) × Unit)
def y9 (a0 : qB) (a1 : BA) (a2 : wY) : Option (Unit × (qB × Unit)) := DF X 59 ((a0,a1,a2,()) : (qB) × (BA) × (wY) × Unit)
def qN (a0 : qB) (a1 : BA) : Option (Unit × (qB × Unit)) := DF X 61 ((a0,a1,()) : (qB) × (BA) × Unit)
def wK (a0 : (List BA)) (a1 : BA) : Option (Bool × Unit) := DF X 65 ((a0,a1,()) : ((List BA)) × (BA) × Unit)
def qP (a0 : qB) (a1 : BA) (a2 : wY) (a3 : Bool) (a4 : Bool) : Option (Unit × (qB × Unit)) := DF X 67 ((a0,a1,a2,a3,a4,()) : (qB) × (BA) × (wY) × (Bool) × (Bool) × Unit)
def qy (a0 : qB) (a1 : BA) : Option (Int × (qB × Unit)) := DF X 68 ((a0,a1,()) : (qB) × (BA) × Unit)
def jm (a0 : Int) : Option (BA × Unit) := DF X 71 ((a0,()) : (Int) × Unit)
def q4g (a0 : (List qd)) (a1 : BA) : Option ((wY × Bool) × Unit) := DF X 72 ((a0,a1,()) : ((List qd)) × (BA) × Unit)
def q3g (a0 : BA) : Option (Bool × Unit) := DF X 77 ((a0,()) : (BA) × Unit)
def q3p (a0 : wY) : Option (Bool × Unit) := DF X 78 ((a0,()) : (wY) × Unit)
def q1j (a0 : wY) : Option (wY × Unit) := DF X 80 ((a0,()) : (wY) × Unit)
def qp (a0 : (List qd)) (a1 : BA) (a2 : Unit) : Option ((Int × Bool) × ((Unit) × Unit)) := DF X 83 ((a0,a1,a2,()) : ((List qd)) × (BA) × (Unit) × Unit)
def qb (x0 : (List qd)) (x1 : BA) (x8 : Int) (x9 : Int) (x10 : Int) : Option ((Int × Bool) × ((Unit) × Unit)) := wm X 83 0 [] (mkSt 49 [(0,.sv (.lst qj x0)),(1,.sv (.str x1)),(2,.sv (.clo 84 [])),(8,.sv (.int .i64 x8)),(9,.sv (.int .i64 x9)),(10,.sv (.int .i64 x10))] [(1000000,.gone)])
def y5 (a0 : qd) (a1 : BA) : Option (Int × Unit) := DF X 84 ((a0,a1,()) : (qd) × (BA) × Unit)
def yT (a0 : qB) (a1 : BA) : Option (Bool × (qB × Unit)) := DF X 87 ((a0,a1,()) : (qB) × (BA) × Unit)
def q3j (a0 : BA) : Option (BA × Unit) := DF X 88 ((a0,()) : (BA) × Unit)
def wX (a0 : (List BA)) (a1 : BA) : Option (Int × Unit) := DF X 92 ((a0,a1,()) : ((List BA)) × (BA) × Unit)
def yK (x0 : (List BA)) (x1 : BA) (x7 : Int) (x8 : Int) : Option (Int × Unit) := wm X 92 0 [] (mkSt 19 [(0,.sv (.lst .str x0)),(1,.sv (.str x1)),(7,.sv (.int .i64 x7)),(8,.sv (.int .i64 x8))] [(1000000,.gone)])
def q2n (a0 : BA) : Option ((Int × Bool) × Unit) := DF X 93 ((a0,()) : (BA) × Unit)
def q50 (a0 : qd) (a1 : BA) : Option (Bool × Unit) := DF X 97 ((a0,a1,()) : (qd) × (BA) × Unit)
def q17 (a0 : Int) (a1 : (List BA)) : Option (Bool × Unit) := DF X 98 ((a0,a1,()) : (Int) × ((List BA)) × Unit)
def yA (x1 : (List BA)) (x5 : Int) (x17 : (List BA)) (x18 : Int) (x19 : Int) : Option (Bool × Unit) := wm X 98 1 [] (mkSt 56 [(1,.sv (.lst .str x1)),(5,.sv (.int .i64 x5)),(17,.sv (.lst .str x17)),(18,.sv (.int .i64 x18)),(19,.sv (.int .i64 x19))] [(1000001,.gone),(1000017,.gone)])
def yM (a0 : qd) (a1 : BA) : Option (Bool × Unit) := DF X 106 ((a0,a1,()) : (qd) × (BA) × Unit)
def jD (a0 : (List qd)) (a1 : BA × Unit) : Option (Int × ((Unit) × Unit)) := DF X 1001 ((a0,a1,()) : ((List qd)) × (BA × Unit) × Unit)
def yD (x0 : (List qd)) (x7 : Int) (x8 : Int) (b_d_0 : BA) : Option (Int × ((Unit) × Unit)) := wm X 1001 0 [] (mkSt 19 [(0,.sv (.lst qj x0)),(1,.sv (.clo 97 [3000064])),(7,.sv (.int .i64 x7)),(8,.sv (.int .i64 x8))] [(1000000,.gone),(3000064,.live (.cbox [(.str b_d_0)]))])
def jE (a0 : (List qd)) (a1 : BA × Unit) : Option (Int × ((Unit) × Unit)) := DF X 1003 ((a0,a1,()) : ((List qd)) × (BA × Unit) × Unit)
def yE (x0 : (List qd)) (x7 : Int) (x8 : Int) (b_d_0 : BA) : Option (Int × ((Unit) × Unit)) := wm X 1003 0 [] (mkSt 19 [(0,.sv (.lst qj x0)),(1,.sv (.clo 106 [3000064])),(7,.sv (.int .i64 x7)),(8,.sv (.int .i64 x8))] [(1000000,.gone),(3000064,.live (.cbox [(.str b_d_0)]))])
def jr (a0 : (List qd)) (a1 : BA × Unit) : Option ((List qd) × ((Unit) × Unit)) := DF X 1012 ((a0,a1,()) : ((List qd)) × (BA × Unit) × Unit)
def qK (x0 : (List qd)) (x5 : Int) (x6 : Int) (b_d_0 : BA) : Option ((List qd) × ((Unit) × Unit)) := wm X 1012 0 [] (mkSt 42 [(0,.sv (.own 1000000)),(1,.sv (.clo 106 [3000064])),(5,.sv (.int .i64 x5)),(6,.sv (.int .i64 x6))] [(1000000,.live (.row (.pr .str (.pr I (.pr I (.pr .str (.ls .str))))) x0 0)),(3000064,.live (.cbox [(.str b_d_0)]))])
end
end Go.Den.S
