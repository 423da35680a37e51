/- A world in which the listed variables hold what start-up lays, and what the condition on the variable errors.errorType says of its cell. No condition. -/
import Derived.Test.YtkoipiolcnielaaGreatDoorRows
import Derived.Test.YtkoipiolcnielaaGreatDoorShLn
import Derived.Test.YtkoipiolcnielaaGreatDoorShLd
import Derived.Test.YtkoipiolcnielaaGreatDoorShTab
import Derived.ChangeSame
import Derived.ChangeVars
import Derived.JoinedOf
import Derived.RowKit
import Derived.RowKitTokens
import Derived.LaidLaws
import Derived.LaidHandle
import Derived.Stop.Joined
import Derived.ChangeMaps5
namespace Go.Proofs.YtkoipiolcnielaaGreatDoor
open Go.ChangeShapes Go.WideShapes Go.ChangeMaps Go.RowKit Go.Proofs.Tab

theorem own : ownKnob Tryz.prog.godebug = none := by kernel_rfl
theorem et : Tryz.prog.globalNamed "errors.errorType" = some 0 := by kernel_rfl
theorem rt : (Tryz.prog.cutTypes.find? (·.1 == "internal/reflectlite.rtype")).map (·.2) = some 102 := by kernel_rfl

def laid : List (String × DataW Unit) := [("unicode/utf8.first", Rows.laid_unicode_utf8_first), ("unicode/utf8.acceptRanges", Rows.laid_unicode_utf8_acceptRanges), ("internal/strconv.uint64pow10", Rows.laid_internal_strconv_uint64pow10), ("math/bits.deBruijn32tab", Rows.laid_math_bits_deBruijn32tab), ("math/bits.deBruijn64tab", Rows.laid_math_bits_deBruijn64tab), ("strconv.ErrSyntax", Rows.laid_strconv_ErrSyntax), ("strconv.ErrRange", Rows.laid_strconv_ErrRange), ("errors.errorType", Rows.laid_errors_errorType)]

theorem handle_of {P : Program} {l : List (String × DataW Unit)} {w : World} {x : String × DataW Unit} (h : laidMetH P l w) (hx : x ∈ l) (hs : x.2.handleName?.isSome = true) : handlesMet P [x] w := by
  unfold laidMetH at h
  have hm : x ∈ l.filter fun x => x.2.handleName?.isSome := List.mem_filter.2 ⟨hx, hs⟩
  cases hf : l.filter fun x => x.2.handleName?.isSome with
  | nil => rw [hf] at hm; cases hm
  | cons a r =>
    simp only [hf] at h hm
    intro y hy
    obtain rfl := List.mem_singleton.1 hy
    exact h.2 y hm

theorem handle_of_laid {W : World} (h : laidMetH Tryz.prog laid W) : Sh.ErrType W := by
  have h' := handle_of h (x := ("errors.errorType", Rows.laid_errors_errorType)) (.tail _ (.tail _ (.tail _ (.tail _ (.tail _ (.tail _ (.tail _ (.head _)))))))) (by kernel_rfl)
  obtain ⟨name, u, ty, e1, e2, e3, e4, e5⟩ := h' _ (List.mem_singleton.2 rfl)
  have en : name = [101, 114, 114, 111, 114] := (Option.some.inj e1).symm
  subst en
  obtain rfl := Option.some.inj (rt.symm.trans e2)
  obtain rfl := Sh.one_error e4
  have hh : typeHandle Tryz.prog 45 = .pointer (some ⟨9, 45, none⟩) := by kernel_rfl
  rw [hh] at e5
  unfold Sh.ErrType
  simpa using World.var?_cell et e5 0

/-- The cells of plain data. -/
def litCell : Lit → Value
  | .int k n => .int k n
  | _ => .int .u8 0
def flat : DataW Unit → List Value
  | .lit l => [litCell l]
  | .agg ps => ps.flatMap fun d => match d with
    | .lit l => [litCell l]
    | .agg qs => qs.map fun e => match e with | .lit l => litCell l | _ => .int .u8 0
    | _ => []
  | _ => []
def lay (cs : Array Value) : Obj → Obj
  | .cells _ t frozen => .cells cs t frozen
  | o => o
/-- A world in which the listed variables hold what start-up lays. -/
noncomputable def laidWorld (os : Os) : World :=
  let w0 := World.holding Tryz.prog os ⟨#[.cells #[.string ⟨#[118, 97, 108, 117, 101, 32, 111, 117, 116, 32, 111, 102, 32, 114, 97, 110, 103, 101]⟩] 888, .cells #[.string ⟨#[105, 110, 118, 97, 108, 105, 100, 32, 115, 121, 110, 116, 97, 120]⟩] 888], #[], []⟩
  { w0 with heap := (((((((w0.heap.modify 0 (lay #[.iface 102 (.agg #[.pointer (some ⟨9, 45, none⟩)])])).modify 2 (lay (flat Rows.laid_unicode_utf8_first).toArray)).modify 3 (lay (flat Rows.laid_unicode_utf8_acceptRanges).toArray)).modify 4 (lay #[.iface 886 (.pointer (some ⟨15, 0, none⟩))])).modify 5 (lay #[.iface 886 (.pointer (some ⟨14, 0, none⟩))])).modify 6 (lay (flat Rows.laid_internal_strconv_uint64pow10).toArray)).modify 7 (lay (flat Rows.laid_math_bits_deBruijn32tab).toArray)).modify 8 (lay (flat Rows.laid_math_bits_deBruijn64tab).toArray) }

theorem met_of_bits {P : Program} {w : World} {l : List (String × DataW Unit)} (fuel M : Nat)
    (h : ((DataW.laidRun P w fuel (l.map (·.1))).bind fun x => if nodupBits M x.2 0 && laidRowsB P w x.2 then some x.1 else none) = some l) : laidMet P l w := by
  rw [Option.bind_eq_some_iff] at h
  obtain ⟨⟨l', ps⟩, hx, h⟩ := h
  split at h
  · rename_i hb
    rw [Bool.and_eq_true] at hb
    obtain rfl := Option.some.inj h
    exact laidMet_of_run fuel hx (decide_eq_true (nodupBits_sound hb.1).1) hb.2
  · cases h

set_option maxRecDepth 100000 in
theorem world_data (os : Os) (args : Array Value) : ((DataW.laidRun Tryz.prog ((laidWorld os).forCall (fun _ _ => 0) ⟨#[], args, []⟩).memory 8 ((laid.filter fun x => x.2.handleName?.isNone).map (·.1))).bind fun x =>
    if nodupBits 300 x.2 0 && laidRowsB Tryz.prog ((laidWorld os).forCall (fun _ _ => 0) ⟨#[], args, []⟩).memory x.2 then some x.1 else none) = some (laid.filter fun x => x.2.handleName?.isNone) := by kernel_rfl
theorem laidWorld_met (os : Os) (args : Array Value) : laidMetH Tryz.prog laid ((laidWorld os).forCall (fun _ _ => 0) ⟨#[], args, []⟩).memory :=
  laidMetH_of_parts (met_of_bits 8 300 (world_data os args)) (by kernel_rfl)

end Go.Proofs.YtkoipiolcnielaaGreatDoor
