/- PxR: equations of the functions of this seat as the executor tells them, or plain facts about them. Conditions: none here. -/
import Derived.Test.YtbgaejnkjmjkhaaGreatDoorPxQ
set_option linter.all false
namespace Go.Den.S
open Go Go.Den
def txtN:List BA:=[jk,q0s,zV,zl,zi,yP,j6,jh,q0y,zT,wV,yX]
theorem qnp:strings_Fields q2y=some (txtN,()):=(wH _).trans (by kernel_rfl)
def jV (s:BA):BA:=(q0h++s)++qA
theorem q3l (s:BA) (h:s.size<=2097152):q1Y s=some (jV s,()):=by
 rw [qfp]
 have e1:(q0h:BA).size=1:=rfl
 have e2:(qA:BA).size=2:=rfl
 have k1:limS (ByteArray.size q0h+ByteArray.size s)=true:=yF (by omega)
 have k2:limS (ByteArray.size (q0h++s)+ByteArray.size qA)=true:=yF (by rw [ByteArray.size_append]; omega)
 simp only [k1,k2,cT]
 rfl
theorem q1j (s:BA) (h:s.size<=2097152):q3b s=some (jV s,()):=by
 rw [qfs]
 have e1:(q0h:BA).size=1:=rfl
 have e2:(qA:BA).size=2:=rfl
 have k1:limS (ByteArray.size q0h+ByteArray.size s)=true:=yF (by omega)
 have k2:limS (ByteArray.size (q0h++s)+ByteArray.size qA)=true:=yF (by rw [ByteArray.size_append]; omega)
 simp only [k1,k2,cT]
 rfl
theorem bneI (a b:Int):(a != b)=!decide (a=b):=by
 by_cases e:a=b
 ·simp [e]
 ·simp [e]
def txtR (v:DV) (found:Bool):BA:=bif !found then nilR else bif !(decide (v.1=1)) then nilR else zI v.2.2.1
theorem qaV (v:DV) (found:Bool) (h:v.2.2.1.size<=1000000000):q2a v found=some (txtR v found,()):=by
 rw [qbY,q78,q2t _ h]
 unfold txtR
 simp only [bneI,oB]
 cases found<;>cases decide (v.1=1)<;>rfl
theorem qcv {t:List DE} (k:BA) (h:Bd t):(fndB t k).1.2.2.1.size<=4194304:=by
 unfold fndB
 cases hx:t.find? fun e=>decide (e.1=k) with
 | none=>decide
 | some e=>exact (h.szs e (List.mem_of_find?_eq_some hx)).2.1
theorem qem (t:List DE) (k:BA) (h:Bd t):q2g t k=some (txtR (fndB t k).1 (fndB t k).2,()):=by
 have hz:=qcv k h
 rw [qdO,q2e t k h]
 unfold txtR
 simp only [bneI,oB,q75,q2j _ (show (fndB t k).1.2.2.1.size<=1000000000 by omega)]
 cases (fndB t k).2<;>cases decide ((fndB t k).1.1=1)<;>rfl
theorem qfv (t:List DE) (k x:BA) (h:Bd t):q38 t k x=some (putB t k (1,(0,(x,[]))),()):=by
 rw [qfm,q0Q t k _ h]; rfl
def cntD (t:List DE) (k:BA) (by_:Int):DD:=
 let v:=undB t k
 let r:=bif (fndB t k).2 then rdI v.2.1 else (0,true)
 bif !r.2 then (t,(y5 qO,true))
 else bif !(decide (-1000000000<=r.1+by_)&&decide (r.1+by_<=1000000000)) then (t,(y5 yG,true))
 else (putB t k (1,(v.1,(decB (r.1+by_),v.2.2))),(numB (r.1+by_),false))
theorem qmi:rdI c_0=(0,true):=by
 have h:=qiw 0 (by decide) (by decide)
 have e:decB 0=c_0:=by
  unfold decB Lib.itoa
  rw [if_neg (by omega),show Int.toNat 0=0 from rfl,Lib.decDigits,dif_pos (by omega)]; rfl
 rw [e] at h
 exact h
theorem qd7 (t:List DE) (ht:tabB t=true) (k:BA) (by_:Int) (h1:-1000000000<=by_/\by_<=1000000000) (hw:qK t k 1=false):qM (t,(eB,false)) k by_=some ((),(cntD t k by_,())):=by
 have hb:=z8 ht
 have has:=q1x ht
 obtain ⟨n1,n2,n3⟩:=jX (k:=k) ht
 rw [q0O,q57 t k 1 hb]
 simp only [oB,hw,cF]
 unfold cntD
 cases hf:(fndB t k).2 with
 | false=>
  have hu:undB t k=(0,(eB,[])):=by
   unfold undB
   unfold fndB at hf ⊢
   cases hx:t.find? fun e=>decide (e.1=k) with
   | none=>rfl
   | some e=>rw [hx] at hf; cases hf
  have w1:w64 ((0:Int)+by_)=0+by_:=ql (by omega) (by omega)
  simp only [Bool.not_false,cT,q3C _ c_0 (by decide),qmi,Bool.not_true,cF,oB,w1,q0D,q0d (0+by_) (by omega) (by omega),qP (0+by_) (by omega) (by omega),q2x _ yG (by decide),wz]
  cases hr:(decide (-1000000000<=0+by_)&&decide (0+by_<=1000000000)) with
  | false=>
   simp only [Bool.not_false,cT]
   rw [yZ _ k _ hb has]
   rfl
  | true=>
   simp only [Bool.not_true,cF]
   rw [yZ _ k _ hb has,hu]
   rfl
 | true=>
  have i0:=q1H (undB t k).2.1
  have w1:w64 ((rdI (undB t k).2.1).1+by_)=(rdI (undB t k).2.1).1+by_:=ql (by omega) (by omega)
  have hk:(fndB t k).1.1=1:=by
   unfold qK at hw
   rw [hf] at hw
   simpa using hw
  simp only [Bool.not_true,cF,cT,hk]
  rw [q3C _ _ (by omega)]
  simp only [oB,w1,q0D,q0d ((rdI (undB t k).2.1).1+by_) (by omega) (by omega),qP ((rdI (undB t k).2.1).1+by_) (by omega) (by omega),q2x _ yG (by decide),wz]
  cases hr:(rdI (undB t k).2.1).2 with
  | false=>
   simp only [Bool.not_false,cT]
   cases hq:(decide (-1000000000<=(rdI (undB t k).2.1).1+by_)&&decide ((rdI (undB t k).2.1).1+by_<=1000000000)) with
   | false=>
    simp only [Bool.not_false,cT]
    rw [yZ _ k _ hb has]
    rfl
   | true=>
    simp only [Bool.not_true,cF]
    rw [yZ _ k _ hb has]
    rfl
  | true=>
   simp only [Bool.not_true,cF]
   cases hq:(decide (-1000000000<=(rdI (undB t k).2.1).1+by_)&&decide ((rdI (undB t k).2.1).1+by_<=1000000000)) with
   | false=>
    simp only [Bool.not_false,cT]
    rw [yZ _ k _ hb has]
    rfl
   | true=>
    simp only [Bool.not_true,cF]
    rw [yZ _ k _ hb has]
    rfl
end Go.Den.S
