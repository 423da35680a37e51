/- The program's tie: what start-up lays in the listed variables, each closed fact by itself. -/
import Derived.Test.YtkoipiolcnielaaGreatDoorShFb
import Derived.Test.YtkoipiolcnielaaGreatDoorShFa
import Derived.Test.YtkoipiolcnielaaGreatDoorRows
namespace Go.Proofs.Fd
open Go Go.Proofs.Tab Go.Proofs.Fb Go.Proofs.Fa
set_option maxRecDepth 100000
/-- The listed variables that are not pinned by name. -/
def laid7 : List (String × DataW Unit) := [("unicode/utf8.acceptRanges", YtkoipiolcnielaaGreatDoor.Rows.laid_unicode_utf8_acceptRanges), ("internal/strconv.uint64pow10", YtkoipiolcnielaaGreatDoor.Rows.laid_internal_strconv_uint64pow10), ("math/bits.deBruijn32tab", YtkoipiolcnielaaGreatDoor.Rows.laid_math_bits_deBruijn32tab), ("math/bits.deBruijn64tab", YtkoipiolcnielaaGreatDoor.Rows.laid_math_bits_deBruijn64tab), ("strconv.ErrSyntax", YtkoipiolcnielaaGreatDoor.Rows.laid_strconv_ErrSyntax), ("strconv.ErrRange", YtkoipiolcnielaaGreatDoor.Rows.laid_strconv_ErrRange), ("errors.errorType", YtkoipiolcnielaaGreatDoor.Rows.laid_errors_errorType)]
def kinds7 : List LaidKind := [.data, .data, .data, .data, .sentinel, .sentinel, .handle]
theorem varsIs : varsId Tryz.prog = 869 := by
  unfold varsId
  rw [namedVars]
  rfl
theorem namedElem : Tryz.prog.funcNamed "(internal/reflectlite.rtype).Elem" = some 808 := funcNamed_of (by kernel_rfl)
theorem hw : Tryz.prog.worded (varsWordLater true) = true := by rw [worded_list]; kernel_rfl
theorem hw' : Tryz.prog.worded (varsWordLater !true) = false := by rw [worded_list]; kernel_rfl
theorem hroot : Tryz.prog.worded rootWordLater = true := by rw [worded_list]; kernel_rfl
theorem hk : laid7.map (fun x => Tryz.prog.kindOfLater x.1) = kinds7.map some := by kernel_rfl
noncomputable def code : Code := (Tryz.f869.body).getD .skip
theorem hb : (Tryz.prog.funcs[869]?).bind (·.body) = some code := by rw [Tryz.func869]; kernel_rfl
def stored : List Nat := [7, 8, 6, 3, 0, 5, 4]
theorem hs : code.laysInOrder [] = some stored := by kernel_rfl
theorem followed : code.unfollowedBeside Tryz.prog = false := by kernel_rfl
theorem apart : (code.tempsApart 0).isSome = true := by kernel_rfl
theorem regions : code.regionsFit Tryz.prog [] = true := by kernel_rfl
theorem handles : ((code.storedByHandle Tryz.prog).all fun v => Tryz.prog.globalNamed "errors.errorType" == some v) = true := by kernel_rfl
theorem alone : Tryz.prog.callsLaidAlone 869 code = true := by
  unfold Program.callsLaidAlone
  rw [followed, apart, regions, namedElem, handles]
  simp only [Option.any_some, arr_at]
  kernel_rfl
theorem hn : varsNamedLaterB Tryz.prog (varsId Tryz.prog) laid7 = true := by
  rw [varsIs]
  unfold varsNamedLaterB
  rw [hb]
  dsimp only
  rw [hs]
  dsimp only
  rw [alone]
  kernel_rfl
theorem hd (os : Os) (tape : Tape) : varsDone Tryz.prog 400 869 os tape = true := by kernel_rfl
theorem h1 (os : Os) (tape : Tape) : (DataW.laidRun Tryz.prog (varsWorld Tryz.prog 400 869 os tape).memory 8 ((laid7.filter fun x => x.2.handleName?.isNone).map (·.1))).map (·.1) = some (laid7.filter fun x => x.2.handleName?.isNone) := by kernel_rfl
theorem h2 (os : Os) (tape : Tape) : (DataW.laidRun Tryz.prog (varsWorld Tryz.prog 400 869 os tape).memory 8 ((laid7.filter fun x => x.2.handleName?.isNone).map (·.1))).map (fun x => decide x.2.Nodup && laidRowsB Tryz.prog (varsWorld Tryz.prog 400 869 os tape).memory x.2) = some true := by kernel_rfl
theorem h3 (os : Os) (tape : Tape) : ((laid7.filter fun x => x.2.handleName?.isSome).all (handleAtB Tryz.prog (varsWorld Tryz.prog 400 869 os tape).memory)) = true := by kernel_rfl
theorem tie : Tryz.prog.laidByTextLater laid7 kinds7 true :=
  Program.laidByTextLater_by_run_h 400 8 hw hw' hroot hk (by rw [namedVars]; rfl) hn
    (fun os tape => by rw [varsIs]; exact hd os tape) (fun os tape => by rw [varsIs]; exact h1 os tape)
    (fun os tape => by rw [varsIs]; exact h2 os tape) (fun os tape => by rw [varsIs]; exact h3 os tape)
#print axioms tie
end Go.Proofs.Fd
