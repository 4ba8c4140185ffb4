/- EqA: equations of the functions of this seat as the executor tells them, or plain facts about them. Conditions: none here. -/
import Derived.Test.YtbgaejnkjmjkhaaDoorTabD
import Derived.KernelRfl
import Derived.Lib.FieldsLaws
import Derived.Lib.Bytealg
import Derived.Lib.AtoiAll
import Derived.Lib.ItoaNum
set_option linter.all false
namespace Go.Den.S
open Go Go.Den Go.Proofs
def hE : Hint := ⟨[],[],[]⟩
def bH (v k : Nat) (a : Nat -> Hint) : Nat -> Hint := bif Nat.beq v k then a else fun _ => hE
def bI (v k : Nat) (a b : Hint) : Hint := bif Nat.beq v k then a else b
noncomputable section
def H (v : Nat) : Nat -> Hint := (bN v 37 (bN v 15 (bN v 6 (bN v 4 (bN v 3 (bH v 3 fun i => bI i 0 ⟨[(3,.row .str),(4,.lst ql),(6,.v)],[],[]⟩ <| bI i 2 ⟨[(4,.lst ql),(17,.v),(20,.v),(23,.v),(25,.row .str),(26,.row .str),(27,.lst .str),(28,.v)],[],[]⟩ <| hE) (bH v 4 fun i => bI i 0 ⟨[(3,.row .str),(4,.row ql),(5,.v),(14,.v),(16,.row .str),(17,.v)],[],[]⟩ <| bI i 2 ⟨[(3,.row .str),(4,.row ql),(5,.v),(14,.v),(16,.row .str),(18,.v)],[],[]⟩ <| hE)) (bN v 5 (bH v 5 fun i => bI i 0 ⟨[(3,.row .str),(13,.lst ql),(14,.lst ql),(15,.lst ql),(16,.v)],[],[]⟩ <| hE) (bH v 6 fun i => bI i 0 ⟨[(3,.row .str),(7,.v),(8,.v),(11,.lst ql),(13,.v),(14,.v),(16,.v),(18,.row .str),(19,.row .str),(20,.v)],[],[]⟩ <| hE))) (bN v 9 (bN v 7 (bH v 7 fun i => bI i 0 ⟨[(3,.row ql),(5,.row .str),(6,.v)],[],[]⟩ <| bI i 2 ⟨[(3,.row ql),(19,.v)],[],[]⟩ <| hE) (bH v 9 fun i => bI i 0 ⟨[(3,.v),(4,.row .str),(5,.v)],[],[(1040,[(0,.lst (.int .u8)),(1,.v),(2,.v)])]⟩ <| hE)) (bN v 10 (bH v 10 fun i => bI i 0 ⟨[(0,.v),(3,.v),(4,.v)],[],[]⟩ <| hE) (bN v 14 (bH v 14 fun i => bI i 0 ⟨[(0,.lst .str),(3,.row (.int .u8)),(4,.v)],[],[]⟩ <| hE) (bH v 15 fun i => bI i 0 ⟨[(0,.lst ql),(3,.v)],[],[]⟩ <| hE))))) (bN v 25 (bN v 20 (bN v 18 (bH v 18 fun i => bI i 0 ⟨[(0,.lst ql),(1,.lst ql),(5,.v)],[],[]⟩ <| hE) (bH v 20 fun i => bI i 0 ⟨[(3,.v),(4,.row I),(5,.v)],[],[(1040,[(0,.lst (.int .u8)),(1,.v),(2,.v)])]⟩ <| hE)) (bN v 24 (bH v 24 fun i => bI i 1 ⟨[(0,.lst ql),(9,.v),(12,.row .str),(46,.lst ql),(47,.v),(48,.v)],[],[(1056,[(0,.row (.pr .str (.pr I (.pr I (.pr .str (.ls .str)))))),(1,.v),(2,.v)])]⟩ <| hE) (bH v 25 fun i => bI i 0 ⟨[(0,.lst (.int .u8)),(3,.v),(4,.v)],[],[]⟩ <| hE))) (bN v 31 (bN v 30 (bH v 30 fun i => bI i 1 ⟨[(0,.v),(2,.v),(8,.v),(14,.v),(106,.lst .str),(107,.v),(108,.v)],[],[(3000000,[(0,.row (.pr .str (.pr I (.pr I (.pr .str (.ls .str)))))),(1,.v),(2,.v)]),(96,[(0,.v),(1,.v),(2,.v),(3,.row .str)])]⟩ <| hE) (bH v 31 fun i => bI i 0 ⟨[(3,.v),(8,.v),(9,.v),(10,.v)],[],[(1040,[])]⟩ <| hE)) (bN v 34 (bH v 34 fun i => bI i 0 ⟨[(1,.v),(3,.v)],[],[(0,[(0,.v),(1,.v),(2,.v),(3,.lst .str)])]⟩ <| bI i 1700000 ⟨[(1,.v)],[],[(0,[(0,.v),(1,.v),(2,.v),(3,.lst .str)])]⟩ <| bI i 1700001 ⟨[(1,.v),(13,.v)],[],[(0,[(0,.v),(1,.v),(2,.v),(3,.lst .str)])]⟩ <| bI i 1700002 ⟨[(2,.v)],[],[]⟩ <| bI i 1700003 ⟨[(1,.v),(16,.v)],[],[(0,[(0,.v),(1,.v),(2,.v),(3,.lst .str)])]⟩ <| bI i 1700004 ⟨[(2,.v)],[],[]⟩ <| bI i 1700005 ⟨[(1,.v),(48,.v)],[],[(0,[(0,.v),(1,.v),(2,.v),(3,.lst .str)])]⟩ <| bI i 1700006 ⟨[(2,.v)],[],[]⟩ <| bI i 1700007 ⟨[(1,.v),(3,.v)],[],[(0,[(0,.v),(1,.v),(2,.v),(3,.lst .str)])]⟩ <| bI i 1700008 ⟨[(1,.v),(3,.v),(53,.v)],[],[(0,[(0,.v),(1,.v),(2,.v),(3,.lst .str)])]⟩ <| bI i 1700010 ⟨[(1,.v),(3,.v),(62,.v)],[],[(0,[(0,.v),(1,.v),(2,.v),(3,.lst .str)])]⟩ <| bI i 1700011 ⟨[(2,.v)],[],[]⟩ <| bI i 1700012 ⟨[(1,.v),(3,.v),(111,.v)],[],[(0,[(0,.v),(1,.v),(2,.v),(3,.lst .str)])]⟩ <| bI i 1700013 ⟨[(2,.v)],[],[]⟩ <| bI i 1700014 ⟨[(2,.v)],[],[]⟩ <| bI i 2700000 ⟨[(0,.v)],[],[]⟩ <| bI i 2700001 ⟨[(0,.v)],[],[]⟩ <| bI i 2700002 ⟨[(0,.v)],[],[]⟩ <| bI i 2700003 ⟨[(0,.v)],[],[]⟩ <| bI i 2700004 ⟨[(0,.v)],[],[]⟩ <| bI i 2700005 ⟨[(0,.v)],[],[]⟩ <| bI i 2700006 ⟨[(0,.v)],[],[]⟩ <| bI i 2700007 ⟨[(0,.v)],[],[]⟩ <| bI i 2700008 ⟨[(0,.v)],[],[]⟩ <| bI i 2700010 ⟨[(0,.v)],[],[]⟩ <| bI i 2700011 ⟨[(0,.v)],[],[]⟩ <| bI i 2700012 ⟨[(0,.v)],[],[]⟩ <| bI i 2700013 ⟨[(0,.v)],[],[]⟩ <| bI i 2700014 ⟨[(0,.v)],[],[]⟩ <| hE) (bN v 35 (bH v 35 fun i => bI i 1 ⟨[(0,.v),(2,.v),(8,.v),(10,.v),(39,.lst .str),(40,.v),(41,.v)],[],[(3000000,[(0,.row (.pr .str (.pr I (.pr I (.pr .str (.ls .str)))))),(1,.v),(2,.v)]),(1120,[(0,.v),(1,.v),(2,.v),(3,.row .str)])]⟩ <| hE) (bH v 37 fun i => bI i 1 ⟨[(0,.v),(2,.v),(8,.v),(51,.lst .str),(52,.v),(53,.v)],[],[(3000000,[(0,.row (.pr .str (.pr I (.pr I (.pr .str (.ls .str)))))),(1,.v),(2,.v)]),(96,[(0,.v),(1,.v),(2,.v),(3,.row .str)])]⟩ <| hE)))))) (bN v 63 (bN v 48 (bN v 44 (bN v 41 (bH v 41 fun i => bI i 0 ⟨[(0,.v),(3,.row ql),(4,.row .str),(5,.v)],[],[(3000000,[(0,.lst (.int .u8)),(1,.v),(2,.v)])]⟩ <| bI i 2 ⟨[(0,.v),(3,.row ql),(6,.v)],[],[(3000000,[(0,.lst (.int .u8)),(1,.v),(2,.v)])]⟩ <| hE) (bH v 44 fun i => bI i 0 ⟨[(3,.row (.int .u8)),(12,.lst .str),(13,.v),(14,.v)],[],[]⟩ <| hE)) (bN v 45 (bH v 45 fun i => bI i 0 ⟨[(3,.row .str),(6,.lst .str),(7,.v),(8,.v)],[],[]⟩ <| hE) (bH v 48 fun i => bI i 0 ⟨[(0,.lst ql),(5,.lst ql),(6,.v),(7,.v)],[],[]⟩ <| hE))) (bN v 53 (bN v 51 (bH v 51 fun i => bI i 0 ⟨[(3,.row ql),(6,.lst ql),(7,.v),(8,.v)],[],[]⟩ <| hE) (bH v 53 fun i => bI i 0 ⟨[(0,.lst .str),(1,.v),(6,.v)],[],[]⟩ <| hE)) (bN v 60 (bH v 60 fun i => bI i 0 ⟨[(0,.lst .str),(3,.row .str),(4,.v)],[],[]⟩ <| hE) (bN v 62 (bH v 62 fun i => bI i 0 ⟨[(0,.lst .str),(1,.v),(6,.v),(7,.v),(8,.v)],[],[]⟩ <| hE) (bH v 63 fun i => bI i 0 ⟨[(0,.row .str),(1,.v),(5,.v),(6,.v)],[],[(3000064,[])]⟩ <| hE))))) (bN v 91 (bN v 70 (bN v 66 (bH v 66 fun i => bI i 0 ⟨[(0,.lst .str),(1,.lst .str),(5,.v)],[],[]⟩ <| hE) (bH v 70 fun i => bI i 1 ⟨[(0,.v),(2,.v),(3,.v),(4,.row .str),(6,.v)],[],[(3000000,[(0,.lst (.int .u8)),(1,.v),(2,.v)]),(0,[(0,.v),(1,.v),(2,.v),(3,.row .str)]),(1088,[(0,.v),(1,.v),(2,.v),(3,.row .str)])]⟩ <| bI i 3 ⟨[(0,.v),(2,.v),(3,.v),(5,.v)],[],[(3000000,[(0,.lst (.int .u8)),(1,.v),(2,.v)]),(0,[(0,.v),(1,.v),(2,.v),(3,.row .str)]),(1088,[(0,.v),(1,.v),(2,.v),(3,.row .str)])]⟩ <| hE)) (bN v 73 (bH v 73 fun i => bI i 0 ⟨[(0,.v),(2,.v),(7,.v),(12,.lst .str),(13,.v),(14,.v)],[],[(3000000,[(0,.row (.pr .str (.pr I (.pr I (.pr .str (.ls .str)))))),(1,.v),(2,.v)])]⟩ <| hE) (bN v 83 (bH v 83 fun i => bI i 0 ⟨[(0,.lst ql),(1,.v),(2,.v),(8,.v),(9,.v),(10,.v)],[],[]⟩ <| hE) (bH v 91 fun i => bI i 0 ⟨[(0,.lst .str),(1,.v),(7,.v),(8,.v)],[],[(3000064,[])]⟩ <| hE)))) (bN v 98 (bN v 92 (bH v 92 fun i => bI i 0 ⟨[(0,.lst .str),(1,.v),(7,.v),(8,.v)],[],[]⟩ <| hE) (bH v 98 fun i => bI i 1 ⟨[(1,.lst .str),(5,.v),(17,.lst .str),(18,.v),(19,.v)],[],[]⟩ <| hE)) (bN v 1001 (bH v 1001 fun i => bI i 0 ⟨[(0,.lst ql),(1,.v),(7,.v),(8,.v)],[],[(3000064,[])]⟩ <| hE) (bN v 1003 (bH v 1003 fun i => bI i 0 ⟨[(0,.lst ql),(1,.v),(7,.v),(8,.v)],[],[(3000064,[])]⟩ <| hE) (bH v 1012 fun i => bI i 0 ⟨[(0,.row (.pr .str (.pr I (.pr I (.pr .str (.ls .str)))))),(1,.v),(5,.v),(6,.v)],[],[(3000064,[])]⟩ <| hE)))))))
def q0f (x : BA × Unit) : Option (List BA × Unit) := bif x.1.data.toList.all (fun b => decide (b.toNat < 128)) && decide (x.1.size < 4294967281) then some ((Lib.fields x.1.data.toList).map (fun l => ⟨l.toArray⟩),()) else none
def jN (x : BA × BA × Unit) : Option (Int × Unit) := some (Lib.compareBytes x.1.data.toList x.2.1.data.toList,())
def q00 (x : Int × Unit) : Option (BA × Unit) := bif decide (-9223372036854775808 <= x.1) && decide (x.1 <= 9223372036854775807) then some (⟨(Lib.itoa x.1).toArray⟩,()) else none
def q04 (x : BA × Unit) : Option ((Int × Bool) × Unit) := bif decide (x.1.size <= 281474976710656) then (match Lib.atoiAll x.1.data.toList with | .ok v => some ((v,false),()) | .syntax => some ((0,true),()) | .range => some ((Lib.atoiSat x.1.data.toList,true),())) else none
def insF {α : Type} (k : Nat) (x : List α × Int × List α × Unit) : Option (List α × Unit) := bif decide (0 <= x.2.1) && decide (x.2.1 <= (x.1.length : Int)) && decide (0 < x.2.2.1.length) && lim (x.1.length + x.2.2.1.length) k then some (x.1.take x.2.1.toNat ++ x.2.2.1 ++ x.1.drop x.2.1.toNat,()) else none
def delF {α : Type} (k : Nat) (x : List α × Int × Int × Unit) : Option (List α × Unit) := bif decide (0 <= x.2.1) && decide (x.2.1 <= x.2.2.1) && decide (x.2.2.1 <= (x.1.length : Int)) && lim x.1.length k then some (x.1.take x.2.1.toNat ++ x.1.drop x.2.2.1.toNat,()) else none
def ext : (v : Nat) -> Option (yF (V v).pars -> Option (V v).RetD) | 79 => some (fun x => q0f x) | 85 => some (fun x => jN x) | 95 => some (fun x => q00 x) | 108 => some (fun x => q04 x) | 54 => some (fun x => insF 16 x) | 58 => some (fun x => delF 16 x) | 86 => some (fun x => insF 72 x) | _ => none
def X : Cx := { P := Tryd.prog,V := V,cands := (fun g => bif Nat.beq g 96 then [1001,1003] else bif Nat.beq g 105 then [1012] else [g]),hint := H,ext := ext }
def strings_Fields (a0 : BA) : Option ((List BA) × Unit) := DF X 79 ((a0,()) : (BA) × Unit)
theorem yL (a0 : BA) : strings_Fields a0 = q0f (a0,()) := q4q X rfl _
def strings_Compare (a0 : BA) (a1 : BA) : Option ((Int) × Unit) := DF X 85 ((a0,a1,()) : (BA) × (BA) × Unit)
theorem q4j (a0 : BA) (a1 : BA) : strings_Compare a0 a1 = jN (a0,a1,()) := q4q X rfl _
def strconv_Itoa (a0 : Int) : Option ((BA) × Unit) := DF X 95 ((a0,()) : (Int) × Unit)
theorem q5T (a0 : Int) : strconv_Itoa a0 = q00 (a0,()) := q4q X rfl _
def strconv_Atoi (a0 : BA) : Option ((Int × Bool) × Unit) := DF X 108 ((a0,()) : (BA) × Unit)
theorem q5G (a0 : BA) : strconv_Atoi a0 = q04 (a0,()) := q4q X rfl _
def qM (a0 : List (BA × Int × Int × BA × List BA)) (a1 : Int) (a2 : List (BA × Int × Int × BA × List BA)) : Option ((List (BA × Int × Int × BA × List BA)) × Unit) := DF X 86 ((a0,a1,a2,()) : (List (BA × Int × Int × BA × List BA)) × (Int) × (List (BA × Int × Int × BA × List BA)) × Unit)
theorem yC (a0 : List (BA × Int × Int × BA × List BA)) (a1 : Int) (a2 : List (BA × Int × Int × BA × List BA)) : qM a0 a1 a2 = insF 72 (a0,a1,a2,()) := q4q X rfl _
def q5g (a0 : (List Int)) : Option (Bool × Unit) := DF X 7 ((a0,()) : ((List Int)) × Unit)
def z8 (x3 : (List qc)) (x5 : (List BA)) (x6 : Int) : Option (Bool × Unit) := yB X 7 0 [] (mkSt 177 [(3,.sv (.own 1000003)),(5,.sv (.own 1000005)),(6,.sv (.int .i64 x6))] [(1000003,.live (.row ql x3 0)),(1000005,.live (.row .str x5 0))])
def q0A (x3 : (List qc)) (x19 : Int) : Option (Bool × Unit) := yB X 7 2 [] (mkSt 177 [(3,.sv (.own 1000003)),(19,.sv (.int .i64 x19))] [(1000003,.live (.row ql x3 0))])
def q8r (a0 : (List Int)) : Option (Bool × Unit) := DF X 8 ((a0,()) : ((List Int)) × Unit)
def jv (a0 : Int) : Option (BA × Unit) := DF X 10 ((a0,()) : (Int) × Unit)
def yP (x0 : Int) (x3 : Bool) (x4 : BA) : Option (BA × Unit) := yB X 10 0 [] (mkSt 30 [(0,.sv (.int .i64 x0)),(3,.sv (.bool x3)),(4,.sv (.str x4))] [])
def q2T (a0 : BA) : Option (BA × Unit) := DF X 12 ((a0,()) : (BA) × Unit)
def q3a (a0 : Int) : Option (BA × Unit) := DF X 13 ((a0,()) : (Int) × Unit)
def q1l (a0 : (List BA)) : Option (BA × Unit) := DF X 14 ((a0,()) : ((List BA)) × Unit)
def jZ (x0 : (List BA)) (x3 : (List Int)) (x4 : Int) : Option (BA × Unit) := yB X 14 0 [] (mkSt 26 [(0,.sv (.lst .str x0)),(3,.sv (.own 1000003)),(4,.sv (.int .i64 x4))] [(1000000,.gone),(1000003,.live (.row (.int .u8) x3 0))])
def q1k (a0 : (List Int)) : Option (((List qc) × (List qc)) × Unit) := DF X 23 ((a0,()) : ((List Int)) × Unit)
def yh (a0 : (List qc)) (a1 : Int) (a2 : (List BA)) : Option (((List qc) × BA × Bool) × Unit) := DF X 24 ((a0,a1,a2,()) : ((List qc)) × (Int) × ((List BA)) × Unit)
def zK (x0 : (List qc)) (x12 : (List BA)) (x46 : (List qc)) (x47 : Int) (x48 : Int) (b_a_0 : (List qc)) (b_a_1 : BA) (b_a_2 : Bool) : Option (((List qc) × BA × Bool) × Unit) := yB X 24 1 [] (mkSt 84 [(0,.sv (.lst ql x0)),(9,.sv (.ptr 1056 0)),(12,.sv (.own 1000012)),(46,.sv (.lst ql x46)),(47,.sv (.int .i64 x47)),(48,.sv (.int .i64 x48))] [(1000000,.gone),(1000012,.live (.row .str x12 0)),(1000046,.gone),(2067584,.live (.row (.pr .str (.pr I (.pr I (.pr .str (.ls .str))))) b_a_0 0)),(1056,.live (.box [(.own 2067584),(.str b_a_1),(.bool b_a_2)]))])
def q36 (a0 : (List Int)) : Option (qw × Unit) := DF X 25 ((a0,()) : ((List Int)) × Unit)
def q0y (x0 : (List Int)) (x3 : Int) (x4 : Int) : Option (qw × Unit) := yB X 25 0 [] (mkSt 32 [(0,.sv (.lst (.int .u8) x0)),(3,.sv (.int .i64 x3)),(4,.sv (.int .i64 x4))] [(1000000,.gone)])
def yV (a0 : qw) (a1 : Int) : Option (Int × (qw × Unit)) := DF X 26 ((a0,a1,()) : (qw) × (Int) × Unit)
def q1e (a0 : qw) (a1 : (List BA)) : Option (BA × (qw × Unit)) := DF X 27 ((a0,a1,()) : (qw) × ((List BA)) × Unit)
def q0D (a0 : Int) : Option (Int × Unit) := DF X 28 ((a0,()) : (Int) × Unit)
def q3F (a0 : (List qc)) (a1 : (List BA)) (a2 : BA) : Option (((Option qE) × Bool) × Unit) := DF X 29 ((a0,a1,a2,()) : ((List qc)) × ((List BA)) × (BA) × Unit)
def q0C (a0 : BA) : Option (BA × Unit) := DF X 31 ((a0,()) : (BA) × Unit)
def wG (x9 : Int) (x10 : Int) (r_b : (List Int)) : Option (BA × Unit) := yB X 31 0 [] (mkSt 29 [(3,.sv (.own 1040)),(8,.sv (.own 1040)),(9,.sv (.int .i64 x9)),(10,.sv (.int .i64 x10))] [(1040,.live (.row (.int .u8) r_b 0))])
def qm (a0 : qE) (a1 : (List qc)) : Option (((List qc) × BA × Bool) × (qE × Unit)) := DF X 32 ((a0,a1,()) : (qE) × ((List qc)) × Unit)
def zS (a0 : qw) : Option (Int × (qw × Unit)) := DF X 38 ((a0,()) : (qw) × Unit)
def zD (a0 : Int) (a1 : Int) (a2 : Int) : Option (Bool × Unit) := DF X 39 ((a0,a1,a2,()) : (Int) × (Int) × (Int) × Unit)
def q0R (a0 : qw) : Option ((List qc) × (qw × Unit)) := DF X 41 ((a0,()) : (qw) × Unit)
def zO (x3 : (List qc)) (x4 : (List BA)) (x5 : Int) (b_c_0 : (List Int)) (b_c_1 : Int) (b_c_2 : Int) : Option ((List qc) × (qw × Unit)) := yB X 41 0 [] (mkSt 49 [(0,.sv (.ptr 3000000 0)),(3,.sv (.own 1000003)),(4,.sv (.own 1000004)),(5,.sv (.int .i64 x5))] [(1000003,.live (.row ql x3 0)),(1000004,.live (.row .str x4 0)),(194000000,.gone),(3000000,.live (.box [(.lst (.int .u8) b_c_0),(.int .i64 b_c_1),(.int .i64 b_c_2)]))])
def jW (x3 : (List qc)) (x6 : Int) (b_c_0 : (List Int)) (b_c_1 : Int) (b_c_2 : Int) : Option ((List qc) × (qw × Unit)) := yB X 41 2 [] (mkSt 49 [(0,.sv (.ptr 3000000 0)),(3,.sv (.own 1000003)),(6,.sv (.int .i64 x6))] [(1000003,.live (.row ql x3 0)),(194000000,.gone),(3000000,.live (.box [(.lst (.int .u8) b_c_0),(.int .i64 b_c_1),(.int .i64 b_c_2)]))])
def qb (a0 : qE) (a1 : BA) : Option (Unit × (qE × Unit)) := DF X 42 ((a0,a1,()) : (qE) × (BA) × Unit)
def q09 (a0 : BA) : Option (BA × Unit) := DF X 43 ((a0,()) : (BA) × Unit)
def q1m (a0 : (List BA)) : Option (BA × Unit) := DF X 44 ((a0,()) : ((List BA)) × Unit)
def q05 (x3 : (List Int)) (x12 : (List BA)) (x13 : Int) (x14 : Int) : Option (BA × Unit) := yB X 44 0 [] (mkSt 24 [(3,.sv (.own 1000003)),(12,.sv (.lst .str x12)),(13,.sv (.int .i64 x13)),(14,.sv (.int .i64 x14))] [(1000003,.live (.row (.int .u8) x3 0)),(1000012,.gone)])
def q1a (a0 : (List BA)) : Option ((List BA) × Unit) := DF X 45 ((a0,()) : ((List BA)) × Unit)
def q07 (x3 : (List BA)) (x6 : (List BA)) (x7 : Int) (x8 : Int) : Option ((List BA) × Unit) := yB X 45 0 [] (mkSt 19 [(3,.sv (.own 1000003)),(6,.sv (.lst .str x6)),(7,.sv (.int .i64 x7)),(8,.sv (.int .i64 x8))] [(1000003,.live (.row .str x3 0)),(1000006,.gone)])
def yK (a0 : Int) : Option (BA × Unit) := DF X 46 ((a0,()) : (Int) × Unit)
def yU (a0 : qE) (a1 : Int) (a2 : BA) (a3 : (List BA)) : Option (Unit × (qE × Unit)) := DF X 47 ((a0,a1,a2,a3,()) : (qE) × (Int) × (BA) × ((List BA)) × Unit)
def q1b (a0 : (List qc)) : Option (Bool × Unit) := DF X 48 ((a0,()) : ((List qc)) × Unit)
def wM (x0 : (List qc)) (x5 : (List qc)) (x6 : Int) (x7 : Int) : Option (Bool × Unit) := yB X 48 0 [] (mkSt 41 [(0,.sv (.lst ql x0)),(5,.sv (.lst ql x5)),(6,.sv (.int .i64 x6)),(7,.sv (.int .i64 x7))] [(1000000,.gone),(1000005,.gone)])
def wO (a0 : (List BA)) (a1 : BA) : Option (Bool × Unit) := DF X 49 ((a0,a1,()) : ((List BA)) × (BA) × Unit)
def q2C (a0 : (List BA)) : Option (Bool × Unit) := DF X 50 ((a0,()) : ((List BA)) × Unit)
def yY (a0 : (List qc)) : Option ((List qc) × Unit) := DF X 51 ((a0,()) : ((List qc)) × Unit)
def zy (x3 : (List qc)) (x6 : (List qc)) (x7 : Int) (x8 : Int) : Option ((List qc) × Unit) := yB X 51 0 [] (mkSt 23 [(3,.sv (.own 1000003)),(6,.sv (.lst ql x6)),(7,.sv (.int .i64 x7)),(8,.sv (.int .i64 x8))] [(1000003,.live (.row ql x3 0)),(1000006,.gone)])
def yu (a0 : qE) (a1 : BA) (a2 : wu) : Option (Unit × (qE × Unit)) := DF X 55 ((a0,a1,a2,()) : (qE) × (BA) × (wu) × Unit)
def q33 (a0 : BA) : Option (BA × Unit) := DF X 57 ((a0,()) : (BA) × Unit)
def qO (a0 : qE) (a1 : BA) : Option (Unit × (qE × Unit)) := DF X 61 ((a0,a1,()) : (qE) × (BA) × Unit)
def wH (a0 : (List BA)) (a1 : BA) : Option (Bool × Unit) := DF X 65 ((a0,a1,()) : ((List BA)) × (BA) × Unit)
def yI (a0 : qE) (a1 : BA) : Option (Int × (qE × Unit)) := DF X 68 ((a0,a1,()) : (qE) × (BA) × Unit)
def wF (a0 : qw) (a1 : Int) : Option (Bool × (qw × Unit)) := DF X 69 ((a0,a1,()) : (qw) × (Int) × Unit)
def q1L (a0 : qw) : Option (wu × (qw × Unit)) := DF X 70 ((a0,()) : (qw) × Unit)
def qY (x4 : (List BA)) (x6 : Int) (b_c_0 : (List Int)) (b_c_1 : Int) (b_c_2 : Int) (b0_0 : Int) (b0_1 : Int) (b0_2 : BA) (b0_3 : (List BA)) (b_d_0 : Int) (b_d_1 : Int) (b_d_2 : BA) (b_d_3 : (List BA)) : Option (wu × (qw × Unit)) := yB X 70 1 [] (mkSt 73 [(0,.sv (.ptr 3000000 0)),(2,.sv (.ptr 0 0)),(3,.sv (.ptr 1088 0)),(4,.sv (.own 1000004)),(6,.sv (.int .i64 x6))] [(1000004,.live (.row .str x4 0)),(194000000,.gone),(3000000,.live (.box [(.lst (.int .u8) b_c_0),(.int .i64 b_c_1),(.int .i64 b_c_2)])),(2000003,.live (.row .str b0_3 0)),(0,.live (.box [(.int .i64 b0_0),(.int .i64 b0_1),(.str b0_2),(.own 2000003)])),(2069635,.live (.row .str b_d_3 0)),(1088,.live (.box [(.int .i64 b_d_0),(.int .i64 b_d_1),(.str b_d_2),(.own 2069635)]))])
def zJ (x5 : Int) (b_c_0 : (List Int)) (b_c_1 : Int) (b_c_2 : Int) (b0_0 : Int) (b0_1 : Int) (b0_2 : BA) (b0_3 : (List BA)) (b_d_0 : Int) (b_d_1 : Int) (b_d_2 : BA) (b_d_3 : (List BA)) : Option (wu × (qw × Unit)) := yB X 70 3 [] (mkSt 73 [(0,.sv (.ptr 3000000 0)),(2,.sv (.ptr 0 0)),(3,.sv (.ptr 1088 0)),(5,.sv (.int .i64 x5))] [(194000000,.gone),(3000000,.live (.box [(.lst (.int .u8) b_c_0),(.int .i64 b_c_1),(.int .i64 b_c_2)])),(2000003,.live (.row .str b0_3 0)),(0,.live (.box [(.int .i64 b0_0),(.int .i64 b0_1),(.str b0_2),(.own 2000003)])),(2069635,.live (.row .str b_d_3 0)),(1088,.live (.box [(.int .i64 b_d_0),(.int .i64 b_d_1),(.str b_d_2),(.own 2069635)]))])
def jC (a0 : Int) : Option (BA × Unit) := DF X 71 ((a0,()) : (Int) × Unit)
def q10 (a0 : (List qc)) (a1 : BA) : Option ((wu × Bool) × Unit) := DF X 72 ((a0,a1,()) : ((List qc)) × (BA) × Unit)
def qL (a0 : qE) (a1 : (List BA)) (a2 : Bool) : Option (Int × (qE × Unit)) := DF X 73 ((a0,a1,a2,()) : (qE) × ((List BA)) × (Bool) × Unit)
def qp (x2 : Bool) (x7 : Int) (x12 : (List BA)) (x13 : Int) (x14 : Int) (b_c_0 : (List qc)) (b_c_1 : BA) (b_c_2 : Bool) : Option (Int × (qE × Unit)) := yB X 73 0 [] (mkSt 36 [(0,.sv (.ptr 3000000 0)),(2,.sv (.bool x2)),(7,.sv (.int .i64 x7)),(12,.sv (.lst .str x12)),(13,.sv (.int .i64 x13)),(14,.sv (.int .i64 x14))] [(1000012,.gone),(194000000,.live (.row (.pr .str (.pr I (.pr I (.pr .str (.ls .str))))) b_c_0 0)),(3000000,.live (.box [(.own 194000000),(.str b_c_1),(.bool b_c_2)]))])
def q29 (a0 : wu) (a1 : Bool) : Option (BA × Unit) := DF X 74 ((a0,a1,()) : (wu) × (Bool) × Unit)
def wV (a0 : qE) (a1 : Int) (a2 : BA) (a3 : BA) : Option (Unit × (qE × Unit)) := DF X 75 ((a0,a1,a2,a3,()) : (qE) × (Int) × (BA) × (BA) × Unit)
def q4g (a0 : wu) (a1 : Bool) (a2 : Int) : Option (Int × Unit) := DF X 76 ((a0,a1,a2,()) : (wu) × (Bool) × (Int) × Unit)
def q3Q (a0 : BA) : Option (Bool × Unit) := DF X 77 ((a0,()) : (BA) × Unit)
def q3u (a0 : wu) : Option (Bool × Unit) := DF X 78 ((a0,()) : (wu) × Unit)
def q1i (a0 : wu) : Option (wu × Unit) := DF X 80 ((a0,()) : (wu) × Unit)
def qy (a0 : (List qc)) (a1 : BA) (a2 : Unit) : Option ((Int × Bool) × ((Unit) × Unit)) := DF X 83 ((a0,a1,a2,()) : ((List qc)) × (BA) × (Unit) × Unit)
def qd (x0 : (List qc)) (x1 : BA) (x8 : Int) (x9 : Int) (x10 : Int) : Option ((Int × Bool) × ((Unit) × Unit)) := yB X 83 0 [] (mkSt 49 [(0,.sv (.lst ql x0)),(1,.sv (.str x1)),(2,.sv (.clo 84 [])),(8,.sv (.int .i64 x8)),(9,.sv (.int .i64 x9)),(10,.sv (.int .i64 x10))] [(1000000,.gone)])
def y7 (a0 : qc) (a1 : BA) : Option (Int × Unit) := DF X 84 ((a0,a1,()) : (qc) × (BA) × Unit)
def qP (a0 : qE) (a1 : BA) : Option (Bool × (qE × Unit)) := DF X 87 ((a0,a1,()) : (qE) × (BA) × Unit)
def q3G (a0 : BA) : Option (BA × Unit) := DF X 88 ((a0,()) : (BA) × Unit)
def wW (a0 : (List BA)) (a1 : BA) : Option (Int × Unit) := DF X 92 ((a0,a1,()) : ((List BA)) × (BA) × Unit)
def yE (x0 : (List BA)) (x1 : BA) (x7 : Int) (x8 : Int) : Option (Int × Unit) := yB X 92 0 [] (mkSt 19 [(0,.sv (.lst .str x0)),(1,.sv (.str x1)),(7,.sv (.int .i64 x7)),(8,.sv (.int .i64 x8))] [(1000000,.gone)])
def q2I (a0 : BA) : Option ((Int × Bool) × Unit) := DF X 93 ((a0,()) : (BA) × Unit)
def wQ (a0 : qw) : Option (BA × (qw × Unit)) := DF X 94 ((a0,()) : (qw) × Unit)
def q5j (a0 : qc) (a1 : BA) : Option (Bool × Unit) := DF X 97 ((a0,a1,()) : (qc) × (BA) × Unit)
def q1s (a0 : Int) (a1 : (List BA)) : Option (Bool × Unit) := DF X 98 ((a0,a1,()) : (Int) × ((List BA)) × Unit)
def yA (x1 : (List BA)) (x5 : Int) (x17 : (List BA)) (x18 : Int) (x19 : Int) : Option (Bool × Unit) := yB X 98 1 [] (mkSt 56 [(1,.sv (.lst .str x1)),(5,.sv (.int .i64 x5)),(17,.sv (.lst .str x17)),(18,.sv (.int .i64 x18)),(19,.sv (.int .i64 x19))] [(1000001,.gone),(1000017,.gone)])
def yH (a0 : qc) (a1 : BA) : Option (Bool × Unit) := DF X 106 ((a0,a1,()) : (qc) × (BA) × Unit)
def jH (a0 : (List qc)) (a1 : BA × Unit) : Option (Int × ((Unit) × Unit)) := DF X 1001 ((a0,a1,()) : ((List qc)) × (BA × Unit) × Unit)
def yj (x0 : (List qc)) (x7 : Int) (x8 : Int) (b_e_0 : BA) : Option (Int × ((Unit) × Unit)) := yB X 1001 0 [] (mkSt 19 [(0,.sv (.lst ql x0)),(1,.sv (.clo 97 [3000064])),(7,.sv (.int .i64 x7)),(8,.sv (.int .i64 x8))] [(1000000,.gone),(3000064,.live (.cbox [(.str b_e_0)]))])
def jK (a0 : (List qc)) (a1 : BA × Unit) : Option (Int × ((Unit) × Unit)) := DF X 1003 ((a0,a1,()) : ((List qc)) × (BA × Unit) × Unit)
def yw (x0 : (List qc)) (x7 : Int) (x8 : Int) (b_e_0 : BA) : Option (Int × ((Unit) × Unit)) := yB X 1003 0 [] (mkSt 19 [(0,.sv (.lst ql x0)),(1,.sv (.clo 106 [3000064])),(7,.sv (.int .i64 x7)),(8,.sv (.int .i64 x8))] [(1000000,.gone),(3000064,.live (.cbox [(.str b_e_0)]))])
def jB (a0 : (List qc)) (a1 : BA × Unit) : Option ((List qc) × ((Unit) × Unit)) := DF X 1012 ((a0,a1,()) : ((List qc)) × (BA × Unit) × Unit)
def qJ (x0 : (List qc)) (x5 : Int) (x6 : Int) (b_e_0 : BA) : Option ((List qc) × ((Unit) × Unit)) := yB X 1012 0 [] (mkSt 42 [(0,.sv (.own 1000000)),(1,.sv (.clo 106 [3000064])),(5,.sv (.int .i64 x5)),(6,.sv (.int .i64 x6))] [(1000000,.live (.row (.pr .str (.pr I (.pr I (.pr .str (.ls .str))))) x0 0)),(3000064,.live (.cbox [(.str b_e_0)]))])
end
end Go.Den.S
