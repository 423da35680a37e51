/- What the three rows say of the code: of the functions without a body, what is called otherwise than by name, the variables named, goroutines. -/
import Derived.Test.YtkoipiolcnielaaGreatDoorShFa
import Derived.Test.YtkoipiolcnielaaGreatDoorShFb
namespace Go.Proofs.Fc
open Go Go.Proofs.Tab Go.Proofs.Fa
set_option maxRecDepth 100000
def inPlaces : List String := ["internal/bytealg.IndexByteString", "internal/bytealg.IndexString", "internal/bytealg.CountString", "internal/bytealg.Compare", "(*sync.WaitGroup).Add", "internal/race.ReleaseMerge", "internal/race.Disable", "internal/race.Enable", "internal/synctest.IsInBubble", "internal/synctest.Associate[sync.WaitGroup]", "sync.fatal", "sync/atomic.OrUint64", "sync/atomic.AddUint64", "internal/race.Read", "sync/atomic.LoadUint64", "sync/atomic.StoreUint64", "internal/synctest.Disassociate[sync.WaitGroup]", "sync.runtime_Semrelease", "(*sync.WaitGroup).Done", "(*sync.WaitGroup).Wait", "internal/race.Acquire", "internal/synctest.IsAssociated[sync.WaitGroup]", "sync/atomic.CompareAndSwapUint64", "internal/race.Write", "sync.runtime_SemacquireWaitGroup", "internal/abi.NoEscape", "internal/bytealg.MakeNoZero", "internal/bytealg.IndexByte", "internal/reflectlite.ValueOf", "(internal/reflectlite.Value).Type", "(internal/reflectlite.Value).IsNil", "internal/reflectlite.TypeOf", "(internal/reflectlite.Value).Elem", "(internal/reflectlite.Value).Set"]
def variables : List String := ["internal/bytealg.MaxLen", "unicode/utf8.first", "unicode/utf8.acceptRanges", "internal/strconv.uint64pow10", "math/bits.deBruijn32tab", "math/bits.deBruijn64tab", "strconv.ErrSyntax", "strconv.ErrRange", "errors.errorType"]
theorem has {l : List Nat} {g : Nat} (h : (l.any fun x => Nat.beq x g) = true) : g ∈ l := by
  obtain ⟨x, hx, e⟩ := List.any_eq_true.1 h
  exact Nat.eq_of_beq_eq_true e ▸ hx
theorem unfollowed_of {f : Nat} {C : List Nat} (hc : Tryz.prog.closure f = C) (h : (C.any fun x => Nat.beq x 15) = true) : Tryz.prog.unfollowed f = true := by
  unfold Program.unfollowed
  rw [hc, List.any_eq_true]
  refine ⟨15, has h, ?_⟩
  rw [arr_at]
  kernel_rfl
theorem recurses_of {f : Nat} (h : Tryz.prog.unfollowed f = true) : Tryz.prog.recurses f = true := by
  unfold Program.recurses
  rw [h]
  rfl
theorem goes_of {f : Nat} {C : List Nat} (hc : Tryz.prog.closure f = C) (h : (C.any fun x => Nat.beq x 322) = true) : Tryz.prog.goes f = true := by
  unfold Program.goes
  have e : ((Tryz.prog.closure f).any fun g => (Tryz.prog.funcs[g]?).any Func.goes) = true := by
    rw [hc, List.any_eq_true]
    refine ⟨322, has h, ?_⟩
    rw [arr_at]
    kernel_rfl
  rw [e]
  rfl
theorem inPlace3 : Tryz.prog.inPlace 3 = inPlaces := by
  unfold Program.inPlace
  simp only [closure3, arr_at]
  kernel_rfl
theorem variables3 : Tryz.prog.varsNamed 3 = variables := by
  unfold Program.varsNamed
  simp only [closure3, arr_at]
  kernel_rfl
theorem unfollowed3 : Tryz.prog.unfollowed 3 = true := unfollowed_of closure3 (by kernel_rfl)
theorem recurses3 : Tryz.prog.recurses 3 = true := recurses_of unfollowed3
theorem goes3 : Tryz.prog.goes 3 = true := goes_of closure3 (by kernel_rfl)
theorem inPlace4 : Tryz.prog.inPlace 4 = inPlaces := by
  unfold Program.inPlace
  simp only [closure4, arr_at]
  kernel_rfl
theorem variables4 : Tryz.prog.varsNamed 4 = variables := by
  unfold Program.varsNamed
  simp only [closure4, arr_at]
  kernel_rfl
theorem unfollowed4 : Tryz.prog.unfollowed 4 = true := unfollowed_of closure4 (by kernel_rfl)
theorem recurses4 : Tryz.prog.recurses 4 = true := recurses_of unfollowed4
theorem goes4 : Tryz.prog.goes 4 = true := goes_of closure4 (by kernel_rfl)
theorem inPlace5 : Tryz.prog.inPlace 5 = inPlaces := by
  unfold Program.inPlace
  simp only [closure5, arr_at]
  kernel_rfl
theorem variables5 : Tryz.prog.varsNamed 5 = variables := by
  unfold Program.varsNamed
  simp only [closure5, arr_at]
  kernel_rfl
theorem unfollowed5 : Tryz.prog.unfollowed 5 = true := unfollowed_of closure5 (by kernel_rfl)
theorem recurses5 : Tryz.prog.recurses 5 = true := recurses_of unfollowed5
theorem goes5 : Tryz.prog.goes 5 = true := goes_of closure5 (by kernel_rfl)
end Go.Proofs.Fc
