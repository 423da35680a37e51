/- Closed facts of the whole program, each by one scan. -/
import Derived.Test.YtkoipiolcnielaaGreatDoorProg
import Derived.Test.YtkoipiolcnielaaGreatDoorShTab
namespace Go.Proofs.Fb
open Go Go.Proofs.Tab
set_option maxRecDepth 100000
theorem named3 : Tryz.prog.funcNamed "strongroom/strongroomlaw32.ShellFull" = some 3 := funcNamed_of (by kernel_rfl)
theorem named4 : Tryz.prog.funcNamed "strongroom/strongroomlaw32.ShellNone" = some 4 := funcNamed_of (by kernel_rfl)
theorem named5 : Tryz.prog.funcNamed "strongroom/strongroomlaw32.ShellNames" = some 5 := funcNamed_of (by kernel_rfl)
theorem namedVars : Tryz.prog.funcNamed "gosem.cut.vars" = some 869 := funcNamed_of (by kernel_rfl)
theorem stopsNone : Tryz.prog.stops = [] := by kernel_rfl
theorem knobsNone : Tryz.prog.stopKnobs = [] := by kernel_rfl
theorem heard : Tryz.prog.stopsHeard = true := by unfold Program.stopsHeard; rw [← Array.all_toList]; kernel_rfl
theorem laysNot : Tryz.prog.laysLater = false := by unfold Program.laysLater; rw [← Array.any_toList]; kernel_rfl
theorem enters : Tryz.prog.mayEnter = true := by unfold Program.mayEnter; rw [laysNot]; kernel_rfl
theorem liftsNot : Tryz.prog.liftsFinal = false := by kernel_rfl
theorem makeIs : Tryz.prog.make = some .cut := by kernel_rfl
theorem liftsNone : Tryz.prog.headLifts = [] := by kernel_rfl
theorem funcsAre : Tryz.prog.funcs.size = 870 := by kernel_rfl
theorem looksTrue : Tryz.prog.looks [] = true := by
  unfold Program.looks
  rw [List.any_eq_true]
  refine ⟨33, List.mem_range.2 (by rw [funcsAre]; decide), ?_⟩
  rw [arr_at]
  kernel_rfl
theorem typesAre : Tryz.prog.types.size = 1065 := by kernel_rfl
end Go.Proofs.Fb
