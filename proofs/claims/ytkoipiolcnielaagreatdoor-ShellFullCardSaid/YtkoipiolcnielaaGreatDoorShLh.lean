/- The map of names, owned: how it is walked. Over the whole program of the cut; no condition beyond those that each theorem names. -/
import Derived.Test.YtkoipiolcnielaaGreatDoorShLg
import Derived.Test.YtkoipiolcnielaaGreatDoorShIter
import Derived.CallsIn
namespace Go.Proofs.Sh
open Go.RowKit Go.Maps Go.Sort Go.Shelf Go.WideElems Go.MapKept

/-- How a thing is read here: not at all. -/
def RT : Value → Option (DataW Unit × List MemPlace) := fun _ => some (.lit (.bool true), [])

theorem nameAt_inj {i j : Nat} (hi : i < 70) (hj : j < 70) (h : nameAt i = nameAt j) : i = j := by
  have hc := List.all_eq_true.1 (List.all_eq_true.1 apartCheck_all i (List.mem_range.2 hi)) j (List.mem_range.2 hj)
  simp only [Bool.or_eq_true, decide_eq_true_eq, Bool.not_eq_true'] at hc
  rcases hc with hc | hc
  · exact hc
  · rw [h, beq_self_ba] at hc; cases hc

theorem trees_own {s m k : Nat} {w : World} (h : TreesAt s m k w) :
    ∃ D : DataW Unit, w.ownsMap Tryz.prog 9 RT m (min k 64) D ∧ Maps.size D = min k 64 ∧ ∀ x ∈ strKeys D, ∃ j, j < min k 64 ∧ x = (nameAt j).data.toList := by
  obtain ⟨es, ha, hv, hbn⟩ := h
  have hlen : es.length = min k 64 := by rw [ha.len]; simp
  have hkey : ∀ e ∈ es, ∃ j, j < min k 64 ∧ e.key = .string (nameAt j) := fun e he => by
    have h1 : e.key ∈ es.map (·.key) := List.mem_map.2 ⟨e, he, rfl⟩
    rw [ha.keys, List.map_map] at h1
    obtain ⟨j, hj, hj2⟩ := List.mem_map.1 h1
    exact ⟨j, List.mem_range.1 hj, hj2.symm⟩
  have hk9 : ∀ j, j < 64 → keyOf Tryz.prog 9 (.string (nameAt j)) = some (.string (nameAt j).data.toList) := fun j hj => by
    have hsz : (nameAt j).size ≤ maxLen := Nat.le_trans (nm_at j (by omega)).size (by decide)
    simp [keyOf, mapKey, Tryz.underlying9, hsz]
  have hfit : Fit Tryz.prog 9 RT es.toArray es.length := by
    refine ⟨by simp; exact Nat.le_trans (by omega) (show 64 ≤ maxLen by decide), ⟨?_, ?_, ?_⟩, ?_⟩
    · intro x hx
      have h1 : x.born ∈ es.map (·.born) := List.mem_map.2 ⟨x, by simpa using hx, rfl⟩
      rw [hbn] at h1
      exact List.mem_range.1 h1
    · rw [show es.toArray.toList.map (·.born) = List.range es.length from by simpa using hbn]; exact List.nodup_range
    · have hkk : es.map (·.key) = ((List.range (min k 64)).map nameAt).map Value.string := ha.keys
      show (es.toArray.toList.map (·.key)).Pairwise (· ≠ ·)
      rw [show es.toArray.toList.map (·.key) = ((List.range (min k 64)).map nameAt).map Value.string from hkk, List.map_map, List.pairwise_map]
      refine List.Pairwise.imp_of_mem ?_ (List.nodup_range (n := min k 64))
      intro i j hi hj hne he
      have hi' := List.mem_range.1 hi
      have hj' := List.mem_range.1 hj
      exact hne (nameAt_inj (by omega) (by omega) (by simpa using he))
    · intro x hx
      obtain ⟨j, hj, he⟩ := hkey x (by simpa using hx)
      exact ⟨_, by unfold WideElems.rd; rw [he, hk9 j (by omega)]; rfl⟩
  refine ⟨_, ⟨es.toArray, es.length, ha.map, hfit, by simp; omega, rfl⟩, ?_, ?_⟩
  · show List.length _ = _
    rw [length_sorted]; simp [hlen]
  · intro x hx
    simp only [strKeys, List.mem_map] at hx
    obtain ⟨p, hp, rfl⟩ := hx
    rw [mem_sorted] at hp
    obtain ⟨e, he, rfl⟩ := List.mem_map.1 hp
    obtain ⟨j, hj, hk⟩ := hkey e (by simpa using he)
    refine ⟨j, hj, ?_⟩
    unfold WideElems.rg WideElems.rd
    rw [hk, hk9 j (by omega)]
    rfl
end Go.Proofs.Sh
