/- LawH: equations of the functions of this seat as the executor tells them, or plain facts about them. Conditions: none here. -/
import Derived.Test.YthejgmhimclmdaaGreatDoorLawG
set_option linter.all false
namespace Go.Proofs.YthejgmhimclmdaaGreatDoor
open Go Go.Den Go.Den.S
set_option maxRecDepth 100000
theorem qqo:laidOutB Tryz.prog=true:=by kernel_rfl
theorem qqq:mapsRowed Tryz.prog=true:=by kernel_rfl
theorem qqb:Tryz.prog.plainKeys=true:=by kernel_rfl
theorem qq9:Tryz.prog.stopsHeard=true:=by kernel_rfl
theorem qq8:Tryz.prog.mayEnter=true:=by kernel_rfl
theorem qqp:Tryz.prog.liftsFinal=false:=by kernel_rfl
theorem qqa:Tryz.prog.looks []=true:=by kernel_rfl
theorem qp1:Tryz.prog.funcs.any Func.goes=false:=by kernel_rfl
theorem qpt (f:FuncId):Tryz.prog.goes f=false:=by
 unfold Program.goes;rw [qp1,Bool.and_false,Bool.or_false,List.any_eq_false];intro g _;cases h:Tryz.prog.funcs[g]? with
 | none=>simp
 | some fn=>
  have hm:=Array.any_eq_false'.1 qp1 fn (Array.mem_of_getElem? h);simpa using hm
theorem qnk {c:OpenClaim} (hs:c.start=.entering):false=c.goesBy Tryz.prog:=by
 unfold OpenClaim.goesBy Program.goesAt Program.goesFrom;rw [hs];cases Tryz.prog.funcNamed c.func with
 | none=>rfl
 | some f=>simp [qpt]
end Go.Proofs.YthejgmhimclmdaaGreatDoor
