/- The tied card of any row of this seat that lists the eight variables, out of the row's own statement. Its conditions stand in the theorems. -/
import Derived.Test.YtkoipiolcnielaaGreatDoorCards
import Derived.Test.YtkoipiolcnielaaGreatDoorShWorld
import Derived.Test.YtkoipiolcnielaaGreatDoorShFd
import Derived.SevenTiedAt
namespace Go.Proofs.YtkoipiolcnielaaGreatDoor
open Go Go.Proofs.Tab

theorem tied_goes (Lk : Looks) {p : Pinned} {s : OpenSpec} {c : OpenClaim} (kinds : List LaidKind) (tests : Bool) (har : Bool × String) (lk : Bool)
    (hc : c.holds p s) (hw : c.wfByText s = true) (htie : c.laidByTextAt Lk p kinds tests)
    (hst : c.start = .entering) (hnb : c.noBlocks = false ∧ c.again = false) (hm : p.checked.prog.mainIs = some (har.1, har.2.toList)) (hn : (!har.1 && har.2.isEmpty && !lk) = false)
    (hl : ∀ f fn, p.checked.prog.funcNamed c.func = some f → p.checked.prog.funcs[f]? = some fn → lk = p.checked.prog.looks [] ∧ ∀ (j : Nat) t, fn.params[j]? = some t → p.checked.prog.wantsStandIn t = false)
    (hg : true = c.goesBy p.checked.prog) :
    Claim7.holds p (.plain s) { stood := { row := c, standIns := [], harness := har, looks := lk }, kinds := [], alts := [], goes := true, laidByText := true, laidKinds := kinds, laidTests := tests, laidLooks := Lk } := by
  have h6 : Claim7.isSixth { stood := { row := c, standIns := [], harness := har, looks := lk }, kinds := [] } = false := by simpa [Claim7.isSixth] using hn
  exact ⟨Claim7.tied_new_at Lk kinds tests (Claim7.new_of_sixth hc har lk hst hnb hm h6 hl) hw, (fun D hD => nomatch hD), htie, (fun h => nomatch h), hg⟩

theorem goesBy_of {P : Program} {c : OpenClaim} {f : Nat} (hn : P.funcNamed c.func = some f) (hg : P.goes f = true) : true = c.goesBy P := by
  unfold OpenClaim.goesBy Program.goesAt Program.goesFrom
  rw [hn, Option.any_some, hg]
  rfl

set_option maxRecDepth 100000 in
theorem mainIs : Tryz.prog.mainIs = some (true, "a29c836b25a5be57718d333032336b9ed1b427d54b036514267cb8d65119ae69".toList) := by kernel_rfl
theorem headIs : Tryz.prog.headLifts.contains "ownunsafe" = false := by rw [Fb.liftsNone]; rfl
theorem fits : Tryz.prog.listedFits laid = true := by
  unfold Program.listedFits
  rw [headIs]
  kernel_rfl
theorem firstFits : Tryz.prog.pinnedFits "unicode/utf8.first" = true := by
  unfold Program.pinnedFits
  rw [Fb.namedVars]
  simp only [Option.bind_some, arr_at]
  kernel_rfl
theorem row_tie {p : Pinned} {c : OpenClaim} (hp : p.checked.prog = Tryz.prog) (hl : c.laid = laid) (hst : c.start = .entering) : c.laidByTextAt .later p [.pinned, .data, .data, .data, .data, .sentinel, .sentinel, .handle] true := by
  refine OpenClaim.laidByTextAt_pinned (k := Fd.kinds7) (l := Fd.laid7) (by rw [hl]; rfl) hst (by rw [hp]; exact Fd.tie) rfl (by rw [hl]; rfl) (by rw [hl]; rfl) rfl (fun y hy e => ?_) (by rw [hp, hl]; exact fits)
  rw [hl] at hy
  simp only [laid, List.zip_cons_cons, List.zip_nil_right, List.mem_cons, List.mem_nil_iff, or_false] at hy
  rcases hy with rfl | rfl | rfl | rfl | rfl | rfl | rfl | rfl
  · exact ⟨by rw [hp]; exact firstFits, rfl⟩
  · cases e
  · cases e
  · cases e
  · cases e
  · cases e
  · cases e
  · cases e

end Go.Proofs.YtkoipiolcnielaaGreatDoor
