/- The names in order, the walk. Over the whole program of the cut; no condition beyond those that each theorem names. -/
import Derived.Test.YtkoipiolcnielaaGreatDoorShLh
namespace Go.Proofs.Sh
open Go.RowKit Go.Maps Go.Sort Go.Shelf

theorem keys_func (m : Nat) (W : World) : Calls Tryz.prog 22 #[.map (some m)] W fun e w' => e = .returned (.func (.func 36) #[] #[.pointer (some ⟨W.heap.size, 0, none⟩)]) ∧ w' = W.alloc (.cells #[.map (some m)] 35) :=
  (callsIn_wide (n := 5)).1 (Tryz.maps_Keys_22 (some m) W)

def SortedRet (k : Nat) (w : World) (e : Ending) (w' : World) : Prop :=
  ∃ (v : Value) (names : List ByteArray), e = .returned v ∧ names.length = min k 64 ∧ (∀ x ∈ names, ∃ j, j < min k 64 ∧ x = nameAt j) ∧
    w'.ownsRow (w.heap.size + 1) 9 1 v (min k 64) (names.map Value.string) ∧ Below w.heap.size w w'

theorem sorted_names {s m k : Nat} {w : World} (h : TreesAt s m k w) :
    Calls Tryz.prog 21 #[.func (.func 36) #[] #[.pointer (some ⟨w.heap.size, 0, none⟩)]] (w.alloc (.cells #[.map (some m)] 35)) (SortedRet k w) := by
  obtain ⟨D, hown, hsz, hmem⟩ := trees_own h
  have hle : Maps.size D ≤ 64 := by omega
  refine ((callsIn_wide (n := 5)).1 (Tryz.slices_Sorted_keys_21_22 m _ D RT w hown (Nat.le_trans hle (by decide)) (by omega))).mono ?_
  rintro e w' ⟨v, ss, rfl, hp, hrow, _, hb⟩
  have hsl : ss.length = min k 64 := by
    rw [hp.length_eq, ← hsz]
    obtain ⟨es, rfl, _⟩ := hown.keysOf
    simp [strKeys, Maps.size]
  refine ⟨v, (ss.mergeSort (fun x y => decide (x ≤ y))).map fun l => ⟨l.toArray⟩, rfl, by simp [hsl], ?_, ?_, ((Below.refl _ _).alloc (Nat.le_refl _) _).trans (hb.mono (by simp))⟩
  · intro x hx
    obtain ⟨l, hl, rfl⟩ := List.mem_map.1 hx
    obtain ⟨j, hj, rfl⟩ := hmem l (hp.mem_iff.1 (List.mem_mergeSort.1 hl))
    exact ⟨j, hj, by cases hn : nameAt j; simp⟩
  · rw [hsl] at hrow
    rw [List.map_map]
    simp only [World.size_alloc] at hrow
    exact hrow
end Go.Proofs.Sh
