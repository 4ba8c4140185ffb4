/- EqA: equations of the functions of this seat as the executor tells them, or plain facts about them. Conditions: none here. -/
import Derived.Test.YtbgaejnkjmjkhaaDoorTabD
import Derived.KernelRfl
import Derived.Lib.FieldsLaws
import Derived.Lib.Bytealg
import Derived.Lib.AtoiAll
import Derived.Lib.ItoaNum
set_option linter.all false
namespace Go.Den.S
open Go Go.Den Go.Proofs
def hE : Hint := ⟨[],[],[]⟩
def bH (v k : Nat) (a : Nat -> Hint) : Nat -> Hint := bif Nat.beq v k then a else fun _ => hE
def bI (v k : Nat) (a b : Hint) : Hint := bif Nat.beq v k then a else b
noncomputable section
def H (v : Nat) : Nat -> Hint := (bN v 37 (bN v 15 (bN v 6 (bN v 4 (bN v 3 (bH v 3 fun i => bI i 0 ⟨[(3,.row .str),(4,.lst ql),(6,.v)],[],[]⟩ <| bI i 2 ⟨[(4,.lst ql),(17,.v),(20,.v),(23,.v),(25,.row .str),(26,.row .str),(27,.lst .str),(28,.v)],[],[]⟩ <| hE) (bH v 4 fun i => bI i 0 ⟨[(3,.row .str),(4,.row ql),(5,.v),(14,.v),(16,.row .str),(17,.v)],[],[]⟩ <| bI i 2 ⟨[(3,.row .str),(4,.row ql),(5,.v),(14,.v),(16,.row .str),(18,.v)],[],[]⟩ <| hE)) (bN v 5 (bH v 5 fun i => bI i 0 ⟨[(3,.row .str),(13,.lst ql),(14,.lst ql),(15,.lst ql),(16,.v)],[],[]⟩ <| hE) (bH v 6 fun i => bI i 0 ⟨[(3,.row .str),(7,.v),(8,.v),(11,.lst ql),(13,.v),(14,.v),(16,.v),(18,.row .str),(19,.row .str),(20,.v)],[],[]⟩ <| hE))) (bN v 9 (bN v 7 (bH v 7 fun i => bI i 0 ⟨[(3,.row ql),(5,.row .str),(6,.v)],[],[]⟩ <| bI i 2 ⟨[(3,.row ql),(19,.v)],[],[]⟩ <| hE) (bH v 9 fun i => bI i 0 ⟨[(3,.v),(4,.row .str),(5,.v)],[],[(1040,[(0,.lst (.int .u8)),(1,.v),(2,.v)])]⟩ <| hE)) (bN v 10 (bH v 10 fun i => bI i 0 ⟨[(0,.v),(3,.v),(4,.v)],[],[]⟩ <| hE) (bN v 14 (bH v 14 fun i => bI i 0 ⟨[(0,.lst .str),(3,.row (.int .u8)),(4,.v)],[],[]⟩ <| hE) (bH v 15 fun i => bI i 0 ⟨[(0,.lst ql),(3,.v)],[],[]⟩ <| hE))))) (bN v 25 (bN v 20 (bN v 18 (bH v 18 fun i => bI i 0 ⟨[(0,.lst ql),(1,.lst ql),(5,.v)],[],[]⟩ <| hE) (bH v 20 fun i => bI i 0 ⟨[(3,.v),(4,.row I),(5,.v)],[],[(1040,[(0,.lst (.int .u8)),(1,.v),(2,.v)])]⟩ <| hE)) (bN v 24 (bH v 24 fun i => bI i 1 ⟨[(0,.lst ql),(9,.v),(12,.row .str),(46,.lst ql),(47,.v),(48,.v)],[],[(1056,[(0,.row (.pr .str (.pr I (.pr I (.pr .str (.ls .str)))))),(1,.v),(2,.v)])]⟩ <| hE) (bH v 25 fun i => bI i 0 ⟨[(0,.lst (.int .u8)),(3,.v),(4,.v)],[],[]⟩ <| hE))) (bN v 31 (bN v 30 (bH v 30 fun i => bI i 1 ⟨[(0,.v),(2,.v),(8,.v),(14,.v),(106,.lst .str),(107,.v),(108,.v)],[],[(3000000,[(0,.row (.pr .str (.pr I (.pr I (.pr .str (.ls .str)))))),(1,.v),(2,.v)]),(96,[(0,.v),(1,.v),(2,.v),(3,.row .str)])]⟩ <| hE) (bH v 31 fun i => bI i 0 ⟨[(3,.v),(8,.v),(9,.v),(10,.v)],[],[(1040,[])]⟩ <| hE)) (bN v 34 (bH v 34 fun i => bI i 0 ⟨[(1,.v),(3,.v)],[],[(0,[(0,.v),(1,.v),(2,.v),(3,.lst .str)])]⟩ <| bI i 1700000 ⟨[(1,.v)],[],[(0,[(0,.v),(1,.v),(2,.v),(3,.lst .str)])]⟩ <| bI i 1700001 ⟨[(1,.v),(13,.v)],[],[(0,[(0,.v),(1,.v),(2,.v),(3,.lst .str)])]⟩ <| bI i 1700002 ⟨[(2,.v)],[],[]⟩ <| bI i 1700003 ⟨[(1,.v),(16,.v)],[],[(0,[(0,.v),(1,.v),(2,.v),(3,.lst .str)])]⟩ <| bI i 1700004 ⟨[(2,.v)],[],[]⟩ <| bI i 1700005 ⟨[(1,.v),(48,.v)],[],[(0,[(0,.v),(1,.v),(2,.v),(3,.lst .str)])]⟩ <| bI i 1700006 ⟨[(2,.v)],[],[]⟩ <| bI i 1700007 ⟨[(1,.v),(3,.v)],[],[(0,[(0,.v),(1,.v),(2,.v),(3,.lst .str)])]⟩ <| bI i 1700008 ⟨[(1,.v),(3,.v),(53,.v)],[],[(0,[(0,.v),(1,.v),(2,.v),(3,.lst .str)])]⟩ <| bI i 1700010 ⟨[(1,.v),(3,.v),(62,.v)],[],[(0,[(0,.v),(1,.v),(2,.v),(3,.lst .str)])]⟩ <| bI i 1700011 ⟨[(2,.v)],[],[]⟩ <| bI i 1700012 ⟨[(1,.v),(3,.v),(111,.v)],[],[(0,[(0,.v),(1,.v),(2,.v),(3,.lst .str)])]⟩ <| bI i 1700013 ⟨[(2,.v)],[],[]⟩ <| bI i 1700014 ⟨[(2,.v)],[],[]⟩ <| bI i 2700000 ⟨[(0,.v)],[],[]⟩ <| bI i 2700001 ⟨[(0,.v)],[],[]⟩ <| bI i 2700002 ⟨[(0,.v)],[],[]⟩ <| bI i 2700003 ⟨[(0,.v)],[],[]⟩ <| bI i 2700004 ⟨[(0,.v)],[],[]⟩ <| bI i 2700005 ⟨[(0,.v)],[],[]⟩ <| bI i 2700006 ⟨[(0,.v)],[],[]⟩ <| bI i 2700007 ⟨[(0,.v)],[],[]⟩ <| bI i 2700008 ⟨[(0,.v)],[],[]⟩ <| bI i 2700010 ⟨[(0,.v)],[],[]⟩ <| bI i 2700011 ⟨[(0,.v)],[],[]⟩ <| bI i 2700012 ⟨[(0,.v)],[],[]⟩ <| bI i 2700013 ⟨[(0,.v)],[],[]⟩ <| bI i 2700014 ⟨[(0,.v)],[],[]⟩ <| hE) (bN v 35 (bH v 35 fun i => bI i 1 ⟨[(0,.v),(2,.v),(8,.v),(10,.v),(39,.lst .str),(40,.v),(41,.v)],[],[(3000000,[(0,.row (.pr .str (.pr I (.pr I (.pr .str (.ls .str)))))),(1,.v),(2,.v)]),(1120,[(0,.v),(1,.v),(2,.v),(3,.row .str)])]⟩ <| hE) (bH v 37 fun i => bI i 1 ⟨[(0,.v),(2,.v),(8,.v),(51,.lst .str),(52,.v),(53,.v)],[],[(3000000,[(0,.row (.pr .str (.pr I (.pr I (.pr .str (.ls .str)))))),(1,.v),(2,.v)]),(96,[(0,.v),(1,.v),(2,.v),(3,.row .str)])]⟩ <| hE)))))) (bN v 63 (bN v 48 (bN v 44 (bN v 41 (bH v 41 fun i => bI i 0 ⟨[(0,.v),(3,.row ql),(4,.row .str),(5,.v)],[],[(3000000,[(0,.lst (.int .u8)),(1,.v),(2,.v)])]⟩ <| bI i 2 ⟨[(0,.v),(3,.row ql),(6,.v)],[],[(3000000,[(0,.lst (.int .u8)),(1,.v),(2,.v)])]⟩ <| hE) (bH v 44 fun i => bI i 0 ⟨[(3,.row (.int .u8)),(12,.lst .str),(13,.v),(14,.v)],[],[]⟩ <| hE)) (bN v 45 (bH v 45 fun i => bI i 0 ⟨[(3,.row .str),(6,.lst .str),(7,.v),(8,.v)],[],[]⟩ <| hE) (bH v 48 fun i => bI i 0 ⟨[(0,.lst ql),(5,.lst ql),(6,.v),(7,.v)],[],[]⟩ <| hE))) (bN v 53 (bN v 51 (bH v 51 fun i => bI i 0 ⟨[(3,.row ql),(6,.lst ql),(7,.v),(8,.v)],[],[]⟩ <| hE) (bH v 53 fun i => bI i 0 ⟨[(0,.lst .str),(1,.v),(6,.v)],[],[]⟩ <| hE)) (bN v 60 (bH v 60 fun i => bI i 0 ⟨[(0,.lst .str),(3,.row .str),(4,.v)],[],[]⟩ <| hE) (bN v 62 (bH v 62 fun i => bI i 0 ⟨[(0,.lst .str),(1,.v),(6,.v),(7,.v),(8,.v)],[],[]⟩ <| hE) (bH v 63 fun i => bI i 0 ⟨[(0,.row .str),(1,.v),(5,.v),(6,.v)],[],[(3000064,[])]⟩ <| hE))))) (bN v 91 (bN v 70 (bN v 66 (bH v 66 fun i => bI i 0 ⟨[(0,.lst .str),(1,.lst .str),(5,.v)],[],[]⟩ <| hE) (bH v 70 fun i => bI i 1 ⟨[(0,.v),(2,.v),(3,.v),(4,.row .str),(6,.v)],[],[(3000000,[(0,.lst (.int .u8)),(1,.v),(2,.v)]),(0,[(0,.v),(1,.v),(2,.v),(3,.row .str)]),(1088,[(0,.v),(1,.v),(2,.v),(3,.row .str)])]⟩ <| bI i 3 ⟨[(0,.v),(2,.v),(3,.v),(5,.v)],[],[(3000000,[(0,.lst (.int .u8)),(1,.v),(2,.v)]),(0,[(0,.v),(1,.v),(2,.v),(3,.row .str)]),(1088,[(0,.v),(1,.v),(2,.v),(3,.row .str)])]⟩ <| hE)) (bN v 73 (bH v 73 fun i => bI i 0 ⟨[(0,.v),(2,.v),(7,.v),(12,.lst .str),(13,.v),(14,.v)],[],[(3000000,[(0,.row (.pr .str (.pr I (.pr I (.pr .str (.ls .str)))))),(1,.v),(2,.v)])]⟩ <| hE) (bN v 83 (bH v 83 fun i => bI i 0 ⟨[(0,.lst ql),(1,.v),(2,.v),(8,.v),(9,.v),(10,.v)],[],[]⟩ <| hE) (bH v 91 fun i => bI i 0 ⟨[(0,.lst .str),(1,.v),(7,.v),(8,.v)],[],[(3000064,[])]⟩ <| hE)))) (bN v 98 (bN v 92 (bH v 92 fun i => bI i 0 ⟨[(0,.lst .str),(1,.v),(7,.v),(8,.v)],[],[]⟩ <| hE) (bH v 98 fun i => bI i 1 ⟨[(1,.lst .str),(5,.v),(17,.lst .str),(18,.v),(19,.v)],[],[]⟩ <| hE)) (bN v 1001 (bH v 1001 fun i => bI i 0 ⟨[(0,.lst ql),(1,.v),(7,.v),(8,.v)],[],[(3000064,[])]⟩ <| hE) (bN v 1003 (bH v 1003 fun i => bI i 0 ⟨[(0,.lst ql),(1,.v),(7,.v),(8,.v)],[],[(3000064,[])]⟩ <| hE) (bH v 1012 fun i => bI i 0 ⟨[(0,.row (.pr .str (.pr I (.pr I (.pr .str (.ls .str)))))),(1,.v),(5,.v),(6,.v)],[],[(3000064,[])]⟩ <| hE)))))))
def q10 (x : BA × Unit) : Option (List BA × Unit) := bif x.1.data.toList.all (fun b => decide (b.toNat < 128)) && decide (x.1.size < 4294967281) then some ((Lib.fields x.1.data.toList).map (fun l => ⟨l.toArray⟩),()) else none
def q0F (x : BA × BA × Unit) : Option (Int × Unit) := some (Lib.compareBytes x.1.data.toList x.2.1.data.toList,())
def q0L (x : Int × Unit) : Option (BA × Unit) := bif decide (-9223372036854775808 <= x.1) && decide (x.1 <= 9223372036854775807) then some (⟨(Lib.itoa x.1).toArray⟩,()) else none
def q5v (x : BA × Unit) : Option ((Int × Bool) × Unit) := none
def insF {α : Type} (k : Nat) (x : List α × Int × List α × Unit) : Option (List α × Unit) := bif decide (0 <= x.2.1) && decide (x.2.1 <= (x.1.length : Int)) && decide (0 < x.2.2.1.length) && lim (x.1.length + x.2.2.1.length) k then some (x.1.take x.2.1.toNat ++ x.2.2.1 ++ x.1.drop x.2.1.toNat,()) else none
def delF {α : Type} (k : Nat) (x : List α × Int × Int × Unit) : Option (List α × Unit) := bif decide (0 <= x.2.1) && decide (x.2.1 <= x.2.2.1) && decide (x.2.2.1 <= (x.1.length : Int)) && lim x.1.length k then some (x.1.take x.2.1.toNat ++ x.1.drop x.2.2.1.toNat,()) else none
def ext : (v : Nat) -> Option (yY (V v).pars -> Option (V v).RetD) | 79 => some (fun x => q10 x) | 85 => some (fun x => q0F x) | 95 => some (fun x => q0L x) | 108 => some (fun x => q5v x) | 54 => some (fun x => insF 16 x) | 58 => some (fun x => delF 16 x) | 86 => some (fun x => insF 72 x) | _ => none
def X : Cx := { P := Tryd.prog,V := V,cands := (fun g => bif Nat.beq g 96 then [1001,1003] else bif Nat.beq g 105 then [1012] else [g]),hint := H,ext := ext }
def strings_Fields (a0 : BA) : Option ((List BA) × Unit) := DF X 79 ((a0,()) : (BA) × Unit)
theorem yR (a0 : BA) : strings_Fields a0 = q10 (a0,()) := q4U X rfl _
def strings_Compare (a0 : BA) (a1 : BA) : Option ((Int) × Unit) := DF X 85 ((a0,a1,()) : (BA) × (BA) × Unit)
theorem q5K (a0 : BA) (a1 : BA) : strings_Compare a0 a1 = q0F (a0,a1,()) := q4U X rfl _
def strconv_Itoa (a0 : Int) : Option ((BA) × Unit) := DF X 95 ((a0,()) : (Int) × Unit)
theorem q7M (a0 : Int) : strconv_Itoa a0 = q0L (a0,()) := q4U X rfl _
def qW (a0 : List BA) (a1 : Int) (a2 : List BA) : Option ((List BA) × Unit) := DF X 54 ((a0,a1,a2,()) : (List BA) × (Int) × (List BA) × Unit)
theorem q1C (a0 : List BA) (a1 : Int) (a2 : List BA) : qW a0 a1 a2 = insF 16 (a0,a1,a2,()) := q4U X rfl _
def wE (a0 : List BA) (a1 : Int) (a2 : Int) : Option ((List BA) × Unit) := DF X 58 ((a0,a1,a2,()) : (List BA) × (Int) × (Int) × Unit)
theorem q1G (a0 : List BA) (a1 : Int) (a2 : Int) : wE a0 a1 a2 = delF 16 (a0,a1,a2,()) := q4U X rfl _
def qY (a0 : List (BA × Int × Int × BA × List BA)) (a1 : Int) (a2 : List (BA × Int × Int × BA × List BA)) : Option ((List (BA × Int × Int × BA × List BA)) × Unit) := DF X 86 ((a0,a1,a2,()) : (List (BA × Int × Int × BA × List BA)) × (Int) × (List (BA × Int × Int × BA × List BA)) × Unit)
theorem yV (a0 : List (BA × Int × Int × BA × List BA)) (a1 : Int) (a2 : List (BA × Int × Int × BA × List BA)) : qY a0 a1 a2 = insF 72 (a0,a1,a2,()) := q4U X rfl _
def q5s (a0 : (List Int)) : Option (Bool × Unit) := DF X 3 ((a0,()) : ((List Int)) × Unit)
def q0y (x3 : (List BA)) (x4 : (List qd)) (x6 : Int) : Option (Bool × Unit) := qK X 3 0 [] (mkSt 190 [(3,.sv (.own 1000003)),(4,.sv (.lst ql x4)),(6,.sv (.int .i64 x6))] [(1000003,.live (.row .str x3 0)),(1000004,.gone)])
def jC (x4 : (List qd)) (x17 : BA) (x20 : BA) (x23 : BA) (x25 : (List BA)) (x26 : (List BA)) (x27 : (List BA)) (x28 : Int) : Option (Bool × Unit) := qK X 3 2 [] (mkSt 190 [(4,.sv (.lst ql x4)),(17,.sv (.str x17)),(20,.sv (.str x20)),(23,.sv (.str x23)),(25,.sv (.own 1000025)),(26,.sv (.own 1000026)),(27,.sv (.lst .str x27)),(28,.sv (.int .i64 x28))] [(1000004,.gone),(1000025,.live (.row .str x25 0)),(1000026,.live (.row .str x26 0)),(1000027,.gone)])
def q6Q (a0 : (List Int)) : Option (Bool × Unit) := DF X 4 ((a0,()) : ((List Int)) × Unit)
def jr (x3 : (List BA)) (x4 : (List qd)) (x5 : BA) (x14 : BA) (x16 : (List BA)) (x17 : Int) : Option (Bool × Unit) := qK X 4 0 [] (mkSt 189 [(3,.sv (.own 1000003)),(4,.sv (.own 1000004)),(5,.sv (.str x5)),(14,.sv (.str x14)),(16,.sv (.own 1000016)),(17,.sv (.int .i64 x17))] [(1000003,.live (.row .str x3 0)),(1000004,.live (.row ql x4 0)),(1000016,.live (.row .str x16 0))])
def jv (x3 : (List BA)) (x4 : (List qd)) (x5 : BA) (x14 : BA) (x16 : (List BA)) (x18 : Int) : Option (Bool × Unit) := qK X 4 2 [] (mkSt 189 [(3,.sv (.own 1000003)),(4,.sv (.own 1000004)),(5,.sv (.str x5)),(14,.sv (.str x14)),(16,.sv (.own 1000016)),(18,.sv (.int .i64 x18))] [(1000003,.live (.row .str x3 0)),(1000004,.live (.row ql x4 0)),(1000016,.live (.row .str x16 0))])
def q7f (a0 : (List Int)) : Option (Bool × Unit) := DF X 8 ((a0,()) : ((List Int)) × Unit)
def q1H (a0 : (List Int)) : Option ((List BA) × Unit) := DF X 9 ((a0,()) : ((List Int)) × Unit)
def q0s (x4 : (List BA)) (x5 : Int) (b_a_0 : (List Int)) (b_a_1 : Int) (b_a_2 : Int) : Option ((List BA) × Unit) := qK X 9 0 [] (mkSt 23 [(3,.sv (.ptr 1040 0)),(4,.sv (.own 1000004)),(5,.sv (.int .i64 x5))] [(1000004,.live (.row .str x4 0)),(2066560,.gone),(1040,.live (.box [(.lst (.int .u8) b_a_0),(.int .i64 b_a_1),(.int .i64 b_a_2)]))])
def q09 (a0 : Int) : Option (BA × Unit) := DF X 10 ((a0,()) : (Int) × Unit)
def wF (x0 : Int) (x3 : Bool) (x4 : BA) : Option (BA × Unit) := qK X 10 0 [] (mkSt 30 [(0,.sv (.int .i64 x0)),(3,.sv (.bool x3)),(4,.sv (.str x4))] [])
def yT (a0 : (List qd)) (a1 : (List BA)) : Option (((List qd) × BA × Bool) × Unit) := DF X 11 ((a0,a1,()) : ((List qd)) × ((List BA)) × Unit)
def q1f (a0 : BA) : Option (BA × Unit) := DF X 12 ((a0,()) : (BA) × Unit)
def q2T (a0 : Int) : Option (BA × Unit) := DF X 13 ((a0,()) : (Int) × Unit)
def q1s (a0 : (List BA)) : Option (BA × Unit) := DF X 14 ((a0,()) : ((List BA)) × Unit)
def q0J (x0 : (List BA)) (x3 : (List Int)) (x4 : Int) : Option (BA × Unit) := qK X 14 0 [] (mkSt 26 [(0,.sv (.lst .str x0)),(3,.sv (.own 1000003)),(4,.sv (.int .i64 x4))] [(1000000,.gone),(1000003,.live (.row (.int .u8) x3 0))])
def q2l (a0 : (List qd)) : Option (Bool × Unit) := DF X 15 ((a0,()) : ((List qd)) × Unit)
def zu (x0 : (List qd)) (x3 : Int) : Option (Bool × Unit) := qK X 15 0 [] (mkSt 48 [(0,.sv (.lst ql x0)),(3,.sv (.int .i64 x3))] [(1000000,.gone)])
def yw (a0 : (List qd)) (a1 : (List BA)) : Option (((List qd) × BA × Bool) × Unit) := DF X 16 ((a0,a1,()) : ((List qd)) × ((List BA)) × Unit)
def q5m (a0 : (List BA)) : Option ((List qd) × Unit) := DF X 17 ((a0,()) : ((List BA)) × Unit)
def q2Q (a0 : (List qd)) (a1 : (List qd)) : Option (Bool × Unit) := DF X 18 ((a0,a1,()) : ((List qd)) × ((List qd)) × Unit)
def q05 (x0 : (List qd)) (x1 : (List qd)) (x5 : Int) : Option (Bool × Unit) := qK X 18 0 [] (mkSt 42 [(0,.sv (.lst ql x0)),(1,.sv (.lst ql x1)),(5,.sv (.int .i64 x5))] [(1000000,.gone),(1000001,.gone)])
def q4F (a0 : (List Int)) : Option (wh × Unit) := DF X 25 ((a0,()) : ((List Int)) × Unit)
def q1k (x0 : (List Int)) (x3 : Int) (x4 : Int) : Option (wh × Unit) := qK X 25 0 [] (mkSt 32 [(0,.sv (.lst (.int .u8) x0)),(3,.sv (.int .i64 x3)),(4,.sv (.int .i64 x4))] [(1000000,.gone)])
def q0P (a0 : wh) (a1 : Int) : Option (Int × (wh × Unit)) := DF X 26 ((a0,a1,()) : (wh) × (Int) × Unit)
def q3T (a0 : wh) (a1 : (List BA)) : Option (BA × (wh × Unit)) := DF X 27 ((a0,a1,()) : (wh) × ((List BA)) × Unit)
def q1n (a0 : Int) : Option (Int × Unit) := DF X 28 ((a0,()) : (Int) × Unit)
def q3F (a0 : (List qd)) (a1 : (List BA)) (a2 : BA) : Option (((Option qH) × Bool) × Unit) := DF X 29 ((a0,a1,a2,()) : ((List qd)) × ((List BA)) × (BA) × Unit)
def wu (a0 : qH) (a1 : BA) (a2 : BA) (a3 : (List BA)) : Option (Unit × (qH × Unit)) := DF X 30 ((a0,a1,a2,a3,()) : (qH) × (BA) × (BA) × ((List BA)) × Unit)
def qy (x2 : BA) (x14 : Int) (x106 : (List BA)) (x107 : Int) (x108 : Int) (b_b_0 : (List qd)) (b_b_1 : BA) (b_b_2 : Bool) (b96_0 : Int) (b96_1 : Int) (b96_2 : BA) (b96_3 : (List BA)) : Option (Unit × (qH × Unit)) := qK X 30 1 [] (mkSt 155 [(0,.sv (.ptr 3000000 0)),(2,.sv (.str x2)),(8,.sv (.ptr 96 0)),(14,.sv (.int .i64 x14)),(106,.sv (.lst .str x106)),(107,.sv (.int .i64 x107)),(108,.sv (.int .i64 x108))] [(1000106,.gone),(194000000,.live (.row (.pr .str (.pr I (.pr I (.pr .str (.ls .str))))) b_b_0 0)),(3000000,.live (.box [(.own 194000000),(.str b_b_1),(.bool b_b_2)])),(2006147,.live (.row .str b96_3 0)),(96,.live (.box [(.int .i64 b96_0),(.int .i64 b96_1),(.str b96_2),(.own 2006147)]))])
def ji (a0 : BA) : Option (BA × Unit) := DF X 31 ((a0,()) : (BA) × Unit)
def zf (x9 : Int) (x10 : Int) (r_c : (List Int)) : Option (BA × Unit) := qK X 31 0 [] (mkSt 29 [(3,.sv (.own 1040)),(8,.sv (.own 1040)),(9,.sv (.int .i64 x9)),(10,.sv (.int .i64 x10))] [(1040,.live (.row (.int .u8) r_c 0))])
def yJ (a0 : qH) (a1 : (List qd)) : Option (((List qd) × BA × Bool) × (qH × Unit)) := DF X 32 ((a0,a1,()) : (qH) × ((List qd)) × Unit)
def q1q (a0 : Int) (a1 : Int) (a2 : Int) : Option (Bool × Unit) := DF X 33 ((a0,a1,a2,()) : (Int) × (Int) × (Int) × Unit)
def q3q (a0 : wK) : Option (Bool × Unit) := DF X 34 ((a0,()) : (wK) × Unit)
def j5 (x3 : Int) (b0_0 : Int) (b0_1 : Int) (b0_2 : BA) (b0_3 : (List BA)) : Option (Bool × Unit) := qK X 34 0 [] (mkSt 112 [(1,.sv (.ptr 0 0)),(3,.sv (.int .i64 x3))] [(2000003,.gone),(0,.live (.box [(.int .i64 b0_0),(.int .i64 b0_1),(.str b0_2),(.lst .str b0_3)]))])
def q2C (b0_0 : Int) (b0_1 : Int) (b0_2 : BA) (b0_3 : (List BA)) : Option (Bool × Unit) := qK X 34 1700000 [] (mkSt 112 [(1,.sv (.ptr 0 0))] [(2000003,.gone),(0,.live (.box [(.int .i64 b0_0),(.int .i64 b0_1),(.str b0_2),(.lst .str b0_3)]))])
def q0U (x13 : Bool) (b0_0 : Int) (b0_1 : Int) (b0_2 : BA) (b0_3 : (List BA)) : Option (Bool × Unit) := qK X 34 1700001 [] (mkSt 112 [(1,.sv (.ptr 0 0)),(13,.sv (.bool x13))] [(2000003,.gone),(0,.live (.box [(.int .i64 b0_0),(.int .i64 b0_1),(.str b0_2),(.lst .str b0_3)]))])
def q2s (x2 : Bool) : Option (Bool × Unit) := qK X 34 1700002 [] (mkSt 112 [(2,.sv (.bool x2))] [])
def q2r (x16 : Bool) (b0_0 : Int) (b0_1 : Int) (b0_2 : BA) (b0_3 : (List BA)) : Option (Bool × Unit) := qK X 34 1700003 [] (mkSt 112 [(1,.sv (.ptr 0 0)),(16,.sv (.bool x16))] [(2000003,.gone),(0,.live (.box [(.int .i64 b0_0),(.int .i64 b0_1),(.str b0_2),(.lst .str b0_3)]))])
def q0V (x2 : Bool) : Option (Bool × Unit) := qK X 34 1700004 [] (mkSt 112 [(2,.sv (.bool x2))] [])
def zJ (x48 : Bool) (b0_0 : Int) (b0_1 : Int) (b0_2 : BA) (b0_3 : (List BA)) : Option (Bool × Unit) := qK X 34 1700005 [] (mkSt 112 [(1,.sv (.ptr 0 0)),(48,.sv (.bool x48))] [(2000003,.gone),(0,.live (.box [(.int .i64 b0_0),(.int .i64 b0_1),(.str b0_2),(.lst .str b0_3)]))])
def q2y (x2 : Bool) : Option (Bool × Unit) := qK X 34 1700006 [] (mkSt 112 [(2,.sv (.bool x2))] [])
def q2B (x3 : Int) (b0_0 : Int) (b0_1 : Int) (b0_2 : BA) (b0_3 : (List BA)) : Option (Bool × Unit) := qK X 34 1700007 [] (mkSt 112 [(1,.sv (.ptr 0 0)),(3,.sv (.int .i64 x3))] [(2000003,.gone),(0,.live (.box [(.int .i64 b0_0),(.int .i64 b0_1),(.str b0_2),(.lst .str b0_3)]))])
def q2t (x3 : Int) (x53 : Bool) (b0_0 : Int) (b0_1 : Int) (b0_2 : BA) (b0_3 : (List BA)) : Option (Bool × Unit) := qK X 34 1700008 [0] (mkSt 112 [(1,.sv (.ptr 0 0)),(3,.sv (.int .i64 x3)),(53,.sv (.bool x53))] [(2000003,.gone),(0,.live (.box [(.int .i64 b0_0),(.int .i64 b0_1),(.str b0_2),(.lst .str b0_3)]))])
def q2x (x3 : Int) (x62 : Bool) (b0_0 : Int) (b0_1 : Int) (b0_2 : BA) (b0_3 : (List BA)) : Option (Bool × Unit) := qK X 34 1700010 [0] (mkSt 112 [(1,.sv (.ptr 0 0)),(3,.sv (.int .i64 x3)),(62,.sv (.bool x62))] [(2000003,.gone),(0,.live (.box [(.int .i64 b0_0),(.int .i64 b0_1),(.str b0_2),(.lst .str b0_3)]))])
def q2E (x2 : Bool) : Option (Bool × Unit) := qK X 34 1700011 [0] (mkSt 112 [(2,.sv (.bool x2))] [])
def qL (x3 : Int) (x111 : Bool) (b0_0 : Int) (b0_1 : Int) (b0_2 : BA) (b0_3 : (List BA)) : Option (Bool × Unit) := qK X 34 1700012 [0] (mkSt 112 [(1,.sv (.ptr 0 0)),(3,.sv (.int .i64 x3)),(111,.sv (.bool x111))] [(2000003,.gone),(0,.live (.box [(.int .i64 b0_0),(.int .i64 b0_1),(.str b0_2),(.lst .str b0_3)]))])
def q2A (x2 : Bool) : Option (Bool × Unit) := qK X 34 1700013 [0] (mkSt 112 [(2,.sv (.bool x2))] [])
def q2u (x2 : Bool) : Option (Bool × Unit) := qK X 34 1700014 [] (mkSt 112 [(2,.sv (.bool x2))] [])
def wQ (a0 : qH) (a1 : BA) (a2 : BA) (a3 : (List BA)) : Option (Unit × (qH × Unit)) := DF X 35 ((a0,a1,a2,a3,()) : (qH) × (BA) × (BA) × ((List BA)) × Unit)
def qB (x2 : BA) (x10 : Int) (x39 : (List BA)) (x40 : Int) (x41 : Int) (b_b_0 : (List qd)) (b_b_1 : BA) (b_b_2 : Bool) (b_d_0 : Int) (b_d_1 : Int) (b_d_2 : BA) (b_d_3 : (List BA)) : Option (Unit × (qH × Unit)) := qK X 35 1 [] (mkSt 111 [(0,.sv (.ptr 3000000 0)),(2,.sv (.str x2)),(8,.sv (.ptr 1120 0)),(10,.sv (.int .i64 x10)),(39,.sv (.lst .str x39)),(40,.sv (.int .i64 x40)),(41,.sv (.int .i64 x41))] [(1000039,.gone),(194000000,.live (.row (.pr .str (.pr I (.pr I (.pr .str (.ls .str))))) b_b_0 0)),(3000000,.live (.box [(.own 194000000),(.str b_b_1),(.bool b_b_2)])),(2071683,.live (.row .str b_d_3 0)),(1120,.live (.box [(.int .i64 b_d_0),(.int .i64 b_d_1),(.str b_d_2),(.own 2071683)]))])
def q3P (a0 : wK) (a1 : wK) : Option (Bool × Unit) := DF X 36 ((a0,a1,()) : (wK) × (wK) × Unit)
def jI (a0 : wh) : Option (Int × (wh × Unit)) := DF X 38 ((a0,()) : (wh) × Unit)
def q1B (a0 : Int) (a1 : Int) (a2 : Int) : Option (Bool × Unit) := DF X 39 ((a0,a1,a2,()) : (Int) × (Int) × (Int) × Unit)
def qc (a0 : qH) (a1 : BA) : Option (Unit × (qH × Unit)) := DF X 42 ((a0,a1,()) : (qH) × (BA) × Unit)
def q1m (a0 : (List BA)) : Option (BA × Unit) := DF X 44 ((a0,()) : ((List BA)) × Unit)
def q0I (x3 : (List Int)) (x12 : (List BA)) (x13 : Int) (x14 : Int) : Option (BA × Unit) := qK X 44 0 [] (mkSt 24 [(3,.sv (.own 1000003)),(12,.sv (.lst .str x12)),(13,.sv (.int .i64 x13)),(14,.sv (.int .i64 x14))] [(1000003,.live (.row (.int .u8) x3 0)),(1000012,.gone)])
def q0r (a0 : (List BA)) : Option ((List BA) × Unit) := DF X 45 ((a0,()) : ((List BA)) × Unit)
def q0S (x3 : (List BA)) (x6 : (List BA)) (x7 : Int) (x8 : Int) : Option ((List BA) × Unit) := qK X 45 0 [] (mkSt 19 [(3,.sv (.own 1000003)),(6,.sv (.lst .str x6)),(7,.sv (.int .i64 x7)),(8,.sv (.int .i64 x8))] [(1000003,.live (.row .str x3 0)),(1000006,.gone)])
def y7 (a0 : Int) : Option (BA × Unit) := DF X 46 ((a0,()) : (Int) × Unit)
def q1Z (a0 : (List qd)) : Option (Bool × Unit) := DF X 48 ((a0,()) : ((List qd)) × Unit)
def zx (x0 : (List qd)) (x5 : (List qd)) (x6 : Int) (x7 : Int) : Option (Bool × Unit) := qK X 48 0 [] (mkSt 41 [(0,.sv (.lst ql x0)),(5,.sv (.lst ql x5)),(6,.sv (.int .i64 x6)),(7,.sv (.int .i64 x7))] [(1000000,.gone),(1000005,.gone)])
def zB (a0 : (List BA)) (a1 : BA) : Option (Bool × Unit) := DF X 49 ((a0,a1,()) : ((List BA)) × (BA) × Unit)
def q3S (a0 : (List BA)) : Option (Bool × Unit) := DF X 50 ((a0,()) : ((List BA)) × Unit)
def wR (a0 : (List qd)) : Option ((List qd) × Unit) := DF X 51 ((a0,()) : ((List qd)) × Unit)
def je (x3 : (List qd)) (x6 : (List qd)) (x7 : Int) (x8 : Int) : Option ((List qd) × Unit) := qK X 51 0 [] (mkSt 23 [(3,.sv (.own 1000003)),(6,.sv (.lst ql x6)),(7,.sv (.int .i64 x7)),(8,.sv (.int .i64 x8))] [(1000003,.live (.row ql x3 0)),(1000006,.gone)])
def y5 (a0 : qH) (a1 : BA) (a2 : Int) : Option ((wK × Bool) × (qH × Unit)) := DF X 52 ((a0,a1,a2,()) : (qH) × (BA) × (Int) × Unit)
def zC (a0 : (List BA)) (a1 : BA) : Option ((Int × Bool) × Unit) := DF X 53 ((a0,a1,()) : ((List BA)) × (BA) × Unit)
def jM (x0 : (List BA)) (x1 : BA) (x6 : Int) : Option ((Int × Bool) × Unit) := qK X 53 0 [] (mkSt 34 [(0,.sv (.lst .str x0)),(1,.sv (.str x1)),(6,.sv (.int .i64 x6))] [(1000000,.gone)])
def qA (a0 : qH) (a1 : BA) (a2 : wK) : Option (Unit × (qH × Unit)) := DF X 55 ((a0,a1,a2,()) : (qH) × (BA) × (wK) × Unit)
def q9C : Option (BA × Unit) := DF X 56 (() : Unit)
def q4g (a0 : BA) : Option (BA × Unit) := DF X 57 ((a0,()) : (BA) × Unit)
def qN (a0 : qH) (a1 : BA) (a2 : wK) : Option (Unit × (qH × Unit)) := DF X 59 ((a0,a1,a2,()) : (qH) × (BA) × (wK) × Unit)
def q1M (a0 : (List BA)) : Option ((List BA) × Unit) := DF X 60 ((a0,()) : ((List BA)) × Unit)
def q0C (x0 : (List BA)) (x3 : (List BA)) (x4 : Int) : Option ((List BA) × Unit) := qK X 60 0 [] (mkSt 19 [(0,.sv (.lst .str x0)),(3,.sv (.own 1000003)),(4,.sv (.int .i64 x4))] [(1000000,.gone),(1000003,.live (.row .str x3 0))])
def yD (a0 : qH) (a1 : BA) : Option (Unit × (qH × Unit)) := DF X 61 ((a0,a1,()) : (qH) × (BA) × Unit)
def qQ (a0 : (List BA)) (a1 : BA) : Option ((Int × Bool) × Unit) := DF X 62 ((a0,a1,()) : ((List BA)) × (BA) × Unit)
def qX (x0 : (List BA)) (x1 : BA) (x6 : Int) (x7 : Int) (x8 : Int) : Option ((Int × Bool) × Unit) := qK X 62 0 [] (mkSt 54 [(0,.sv (.lst .str x0)),(1,.sv (.str x1)),(6,.sv (.int .i64 x6)),(7,.sv (.int .i64 x7)),(8,.sv (.int .i64 x8))] [(1000000,.gone)])
def yS (a0 : (List BA)) (a1 : (List BA) × Unit) : Option ((List BA) × ((Unit) × Unit)) := DF X 63 ((a0,a1,()) : ((List BA)) × ((List BA) × Unit) × Unit)
def qO (x0 : (List BA)) (x5 : Int) (x6 : Int) (b_e_0 : (List BA)) : Option ((List BA) × ((Unit) × Unit)) := qK X 63 0 [] (mkSt 42 [(0,.sv (.own 1000000)),(1,.sv (.clo 64 [3000064])),(5,.sv (.int .i64 x5)),(6,.sv (.int .i64 x6))] [(1000000,.live (.row .str x0 0)),(3000064,.live (.cbox [(.lst .str b_e_0)]))])
def yF (a0 : BA) (a1 : (List BA)) : Option (Bool × Unit) := DF X 64 ((a0,a1,()) : (BA) × ((List BA)) × Unit)
def qZ (a0 : (List BA)) (a1 : BA) : Option (Bool × Unit) := DF X 65 ((a0,a1,()) : ((List BA)) × (BA) × Unit)
def q2F (a0 : (List BA)) (a1 : (List BA)) : Option (Bool × Unit) := DF X 66 ((a0,a1,()) : ((List BA)) × ((List BA)) × Unit)
def q04 (x0 : (List BA)) (x1 : (List BA)) (x5 : Int) : Option (Bool × Unit) := qK X 66 0 [] (mkSt 26 [(0,.sv (.lst .str x0)),(1,.sv (.lst .str x1)),(5,.sv (.int .i64 x5))] [(1000000,.gone),(1000001,.gone)])
def q19 (a0 : Int) : Option (BA × Unit) := DF X 71 ((a0,()) : (Int) × Unit)
def q5P (a0 : (List qd)) (a1 : BA) : Option ((wK × Bool) × Unit) := DF X 72 ((a0,a1,()) : ((List qd)) × (BA) × Unit)
def q4Y (a0 : BA) : Option (Bool × Unit) := DF X 77 ((a0,()) : (BA) × Unit)
def q4X (a0 : wK) : Option (Bool × Unit) := DF X 78 ((a0,()) : (wK) × Unit)
def q2i (a0 : wK) : Option (wK × Unit) := DF X 80 ((a0,()) : (wK) × Unit)
def qx (a0 : (List qd)) (a1 : BA) (a2 : Unit) : Option ((Int × Bool) × ((Unit) × Unit)) := DF X 83 ((a0,a1,a2,()) : ((List qd)) × (BA) × (Unit) × Unit)
def qg (x0 : (List qd)) (x1 : BA) (x8 : Int) (x9 : Int) (x10 : Int) : Option ((Int × Bool) × ((Unit) × Unit)) := qK X 83 0 [] (mkSt 49 [(0,.sv (.lst ql x0)),(1,.sv (.str x1)),(2,.sv (.clo 84 [])),(8,.sv (.int .i64 x8)),(9,.sv (.int .i64 x9)),(10,.sv (.int .i64 x10))] [(1000000,.gone)])
def yG (a0 : qd) (a1 : BA) : Option (Int × Unit) := DF X 84 ((a0,a1,()) : (qd) × (BA) × Unit)
def wI (a0 : qH) (a1 : BA) : Option (Bool × (qH × Unit)) := DF X 87 ((a0,a1,()) : (qH) × (BA) × Unit)
def q52 (a0 : BA) : Option (BA × Unit) := DF X 88 ((a0,()) : (BA) × Unit)
def q3O (a0 : BA) (a1 : BA) : Option (Bool × Unit) := DF X 89 ((a0,a1,()) : (BA) × (BA) × Unit)
def q0q (a0 : BA) : Option (Bool × Unit) := DF X 90 ((a0,()) : (BA) × Unit)
def jm (a0 : (List BA)) (a1 : (List BA) × Unit) : Option (Int × ((Unit) × Unit)) := DF X 91 ((a0,a1,()) : ((List BA)) × ((List BA) × Unit) × Unit)
def y9 (x0 : (List BA)) (x7 : Int) (x8 : Int) (b_e_0 : (List BA)) : Option (Int × ((Unit) × Unit)) := qK X 91 0 [] (mkSt 19 [(0,.sv (.lst .str x0)),(1,.sv (.clo 64 [3000064])),(7,.sv (.int .i64 x7)),(8,.sv (.int .i64 x8))] [(1000000,.gone),(3000064,.live (.cbox [(.lst .str b_e_0)]))])
def zH (a0 : (List BA)) (a1 : BA) : Option (Int × Unit) := DF X 92 ((a0,a1,()) : ((List BA)) × (BA) × Unit)
def yZ (x0 : (List BA)) (x1 : BA) (x7 : Int) (x8 : Int) : Option (Int × Unit) := qK X 92 0 [] (mkSt 19 [(0,.sv (.lst .str x0)),(1,.sv (.str x1)),(7,.sv (.int .i64 x7)),(8,.sv (.int .i64 x8))] [(1000000,.gone)])
def q6W (a0 : qd) (a1 : BA) : Option (Bool × Unit) := DF X 97 ((a0,a1,()) : (qd) × (BA) × Unit)
def q2h (a0 : Int) (a1 : (List BA)) : Option (Bool × Unit) := DF X 98 ((a0,a1,()) : (Int) × ((List BA)) × Unit)
def yM (x1 : (List BA)) (x5 : Int) (x17 : (List BA)) (x18 : Int) (x19 : Int) : Option (Bool × Unit) := qK X 98 1 [] (mkSt 56 [(1,.sv (.lst .str x1)),(5,.sv (.int .i64 x5)),(17,.sv (.lst .str x17)),(18,.sv (.int .i64 x18)),(19,.sv (.int .i64 x19))] [(1000001,.gone),(1000017,.gone)])
def wm (a0 : qd) (a1 : BA) : Option (Bool × Unit) := DF X 106 ((a0,a1,()) : (qd) × (BA) × Unit)
def q1y (a0 : BA) : Option (Bool × Unit) := DF X 107 ((a0,()) : (BA) × Unit)
def q0g (a0 : (List qd)) (a1 : BA × Unit) : Option (Int × ((Unit) × Unit)) := DF X 1001 ((a0,a1,()) : ((List qd)) × (BA × Unit) × Unit)
def yK (x0 : (List qd)) (x7 : Int) (x8 : Int) (b_e_0 : BA) : Option (Int × ((Unit) × Unit)) := qK X 1001 0 [] (mkSt 19 [(0,.sv (.lst ql x0)),(1,.sv (.clo 97 [3000064])),(7,.sv (.int .i64 x7)),(8,.sv (.int .i64 x8))] [(1000000,.gone),(3000064,.live (.cbox [(.str b_e_0)]))])
def q0h (a0 : (List qd)) (a1 : BA × Unit) : Option (Int × ((Unit) × Unit)) := DF X 1003 ((a0,a1,()) : ((List qd)) × (BA × Unit) × Unit)
def yL (x0 : (List qd)) (x7 : Int) (x8 : Int) (b_e_0 : BA) : Option (Int × ((Unit) × Unit)) := qK X 1003 0 [] (mkSt 19 [(0,.sv (.lst ql x0)),(1,.sv (.clo 106 [3000064])),(7,.sv (.int .i64 x7)),(8,.sv (.int .i64 x8))] [(1000000,.gone),(3000064,.live (.cbox [(.str b_e_0)]))])
def q0a (a0 : (List qd)) (a1 : BA × Unit) : Option ((List qd) × ((Unit) × Unit)) := DF X 1012 ((a0,a1,()) : ((List qd)) × (BA × Unit) × Unit)
def qR (x0 : (List qd)) (x5 : Int) (x6 : Int) (b_e_0 : BA) : Option ((List qd) × ((Unit) × Unit)) := qK X 1012 0 [] (mkSt 42 [(0,.sv (.own 1000000)),(1,.sv (.clo 106 [3000064])),(5,.sv (.int .i64 x5)),(6,.sv (.int .i64 x6))] [(1000000,.live (.row (.pr .str (.pr I (.pr I (.pr .str (.ls .str))))) x0 0)),(3000064,.live (.cbox [(.str b_e_0)]))])
end
end Go.Den.S
