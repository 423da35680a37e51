/- A contract without goroutines serves a row that lets others leave. Over the whole program of the cut; no condition beyond those that each theorem names. -/
import Derived.Handed
import Derived.Conc.Holds
namespace Go.Proofs.Sh
open Go

theorem onlyLeaving_of_quiet {P : Program} {m : Machine} (h : m.quiet) : m.OnlyLeaving P := by
  refine ⟨fun g hg => ⟨0, ?_⟩, h.2⟩
  have h1 := h.1
  unfold Machine.othersDone at h1
  show g.status = .finished
  have h2 := List.all_eq_true.1 h1 g hg
  cases hs : g.status <;> rw [hs] at h2 <;> first | rfl | cases h2

theorem leaving_of_handed {a : Assume} {C : Checked} {os : Os} {f : FuncId} {r : Reach} {Pre : World → Array Value → Prop} {Post : World → Array Value → Value → World → Prop}
    (h : ReturnsInHanded a C os f r Pre Post) : ReturnsInLeavingWide a C os f r Pre Post := fun enter => by
  obtain ⟨g0, g1, g2, g3, all⟩ := h enter
  refine ⟨g0, g1, g2, g3, fun w tape i hf => ?_⟩
  obtain ⟨n, v, w', hn, hc, hr, hp, ⟨j, last, hj, hs, hq, hh, he⟩, ha⟩ := all w tape i hf
  exact ⟨n, v, w', hn, hc, hr, hp, ⟨j, last, hj, hs, hh, onlyLeaving_of_quiet hq, he⟩, ha⟩
end Go.Proofs.Sh
