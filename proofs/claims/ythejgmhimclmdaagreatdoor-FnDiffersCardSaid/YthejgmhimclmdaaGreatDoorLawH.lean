/- LawH: equations of the functions of this seat as the executor tells them, or plain facts about them. Conditions: none here. -/
import Derived.Test.YthejgmhimclmdaaGreatDoorLawG
set_option linter.all false
namespace Go.Proofs.YthejgmhimclmdaaGreatDoor
open Go Go.Den Go.Den.S
set_option maxRecDepth 100000
theorem qsq:laidOutB Tryz.prog=true:=by kernel_rfl
theorem qss:mapsRowed Tryz.prog=true:=by kernel_rfl
theorem qs9:Tryz.prog.plainKeys=true:=by kernel_rfl
theorem qs7:Tryz.prog.stopsHeard=true:=by kernel_rfl
theorem qs6:Tryz.prog.mayEnter=true:=by kernel_rfl
theorem qsr:Tryz.prog.liftsFinal=false:=by kernel_rfl
theorem qs8:Tryz.prog.looks []=true:=by kernel_rfl
theorem qqC:Tryz.prog.funcs.any Func.goes=false:=by kernel_rfl
theorem qrb (f:FuncId):Tryz.prog.goes f=false:=by
 unfold Program.goes;rw [qqC,Bool.and_false,Bool.or_false,List.any_eq_false];intro g _;cases h:Tryz.prog.funcs[g]? with
 | none=>simp
 | some fn=>
  have hm:=Array.any_eq_false'.1 qqC fn (Array.mem_of_getElem? h);simpa using hm
theorem qoE {c:OpenClaim} (hs:c.start=.entering):false=c.goesBy Tryz.prog:=by
 unfold OpenClaim.goesBy Program.goesAt Program.goesFrom;rw [hs];cases Tryz.prog.funcNamed c.func with
 | none=>rfl
 | some f=>simp [qrb]
end Go.Proofs.YthejgmhimclmdaaGreatDoor
