/- Closed facts of the table of types, chunk by chunk. -/
import Derived.Test.YtkoipiolcnielaaGreatDoorShFb
namespace Go.Proofs.Ft
open Go Go.Proofs.Tab Go.Proofs.Fb
set_option maxRecDepth 100000
noncomputable def pRow : { p : Nat → Bool // mapsRowed Tryz.prog = (List.range Tryz.prog.types.size).all p } := ⟨_, rfl⟩
noncomputable def pKey : { p : Nat → Bool // Tryz.prog.plainKeys = (List.range Tryz.prog.types.size).all p } := ⟨_, rfl⟩
noncomputable def pAll (t : Nat) : Bool := rowFine Tryz.prog t && pRow.1 t
theorem c0 : (List.range' 0 100).all pAll = true := by kernel_rfl
theorem c1 : (List.range' 100 100).all pAll = true := by kernel_rfl
theorem c2 : (List.range' 200 100).all pAll = true := by kernel_rfl
theorem c3 : (List.range' 300 100).all pAll = true := by kernel_rfl
theorem c4 : (List.range' 400 100).all pAll = true := by kernel_rfl
theorem c5 : (List.range' 500 100).all pAll = true := by kernel_rfl
theorem c6 : (List.range' 600 100).all pAll = true := by kernel_rfl
theorem c7 : (List.range' 700 100).all pAll = true := by kernel_rfl
theorem c8 : (List.range' 800 100).all pAll = true := by kernel_rfl
theorem c9 : (List.range' 900 100).all pAll = true := by kernel_rfl
theorem c10 : (List.range' 1000 65).all pAll = true := by kernel_rfl
theorem both : (List.range Tryz.prog.types.size).all pAll = true := by
  rw [typesAre]
  refine all_chunks [List.range' 0 100, List.range' 100 100, List.range' 200 100, List.range' 300 100, List.range' 400 100, List.range' 500 100, List.range' 600 100, List.range' 700 100, List.range' 800 100, List.range' 900 100, List.range' 1000 65] (by kernel_rfl) ?_
  intro l hl
  simp only [List.mem_cons, List.not_mem_nil, or_false] at hl
  rcases hl with rfl | rfl | rfl | rfl | rfl | rfl | rfl | rfl | rfl | rfl | rfl
  · exact c0
  · exact c1
  · exact c2
  · exact c3
  · exact c4
  · exact c5
  · exact c6
  · exact c7
  · exact c8
  · exact c9
  · exact c10
theorem fine : (List.range Tryz.prog.types.size).all (rowFine Tryz.prog) = true := by
  have h := List.all_eq_true.1 both
  exact List.all_eq_true.2 fun t ht => ((Bool.and_eq_true _ _).mp (h t ht)).1
theorem rowed : mapsRowed Tryz.prog = true := by
  rw [pRow.2]
  have h := List.all_eq_true.1 both
  exact List.all_eq_true.2 fun t ht => ((Bool.and_eq_true _ _).mp (h t ht)).2
theorem laidOut : laidOutB Tryz.prog = true := by
  unfold laidOutB
  rw [fine, ← Array.all_toList, ← Array.all_toList]
  simp only [typesAre, Bool.true_and]
  kernel_rfl
theorem keysNot : Tryz.prog.plainKeys = false := by
  rw [pKey.2, List.all_eq_false]
  have h : pKey.1 353 = false := by kernel_rfl
  refine ⟨353, List.mem_range.2 (by rw [typesAre]; decide), ?_⟩
  rw [h]
  decide
end Go.Proofs.Ft
