/- Lines for trees, the plain law. Over the whole program of the cut; no condition beyond those that each theorem names. -/
import Derived.Test.YtkoipiolcnielaaGreatDoorShLf
namespace Go.Proofs.Sh
open Go.RowKit

def tThing : Value := .iface 222 (.agg #[.slice none 0 0])
/-- So many trees are kept. -/
def TreesAt (s m k : Nat) (w : World) : Prop := ∃ es, At s m es ((List.range (min k 64)).map nameAt) w ∧ (∀ e ∈ es, e.val = tThing) ∧ es.map (·.born) = List.range es.length
theorem TreesAt.below {s m k : Nat} {w w' : World} (h : TreesAt s m k w) (hb : Below w.heap.size w w') : TreesAt s m k w' := by
  obtain ⟨es, ha, hv, hbn⟩ := h
  exact ⟨es, ha.below hb, hv, hbn⟩
theorem TreesAt.pos {s m k : Nat} {w : World} (h : TreesAt s m k w) : m < w.heap.size := by
  obtain ⟨es, ha, _, _⟩ := h
  exact (Array.getElem?_eq_some_iff.1 ha.map).1

theorem line_tree_ok (s m k : Nat) (w : World) (h : TreesAt s m k w) (hk : k < 64) :
    Calls Tryz.prog 9 #[.pointer (some ⟨s, 0, none⟩), .string (treeLine k)] w fun e w' => e = .returned (.tuple #[.slice none 0 0, .int .i64 0]) ∧ TreesAt s m (k + 1) w' ∧ Keep m w w' := by
  obtain ⟨es, ha, hv, hbn⟩ := h
  have hml : m < w.heap.size := (Array.getElem?_eq_some_iff.1 ha.map).1
  have hlen : es.length = k := by rw [ha.len]; simp; omega
  rw [show min k 64 = k by omega] at ha
  refine (line_ok s m es _ (treeLine k) _ 2 treeW (fun out w' => out = .slice none 0 0 ∧ TreesAt s m (k + 1) w') w ha (line_tree k (by omega)) (by decide) (by decide) ?_).mono ?_
  · intro W hbW hcW
    refine (does_tree s m es _ (nameAt k) w.heap.size 1 W (ha.below hbW) (names_miss k k (by omega) (Nat.le_refl _)) (by omega) (nm_at k (by omega)) (hcW 1 _ rfl)).mono ?_
    rintro e w' ⟨rfl, hat, hkk⟩
    refine ⟨_, rfl, ⟨rfl, es ++ [MapEntry.mk (.string (nameAt k)) tThing es.length], ?_, ?_, ?_⟩, hkk⟩
    · rw [show min (k + 1) 64 = k + 1 by omega, List.range_succ, List.map_append]
      exact hat
    · intro e he
      rcases List.mem_append.1 he with he | he
      · exact hv e he
      · simp only [List.mem_singleton] at he; subst he; rfl
    · rw [List.map_append, hbn, List.length_append, List.length_singleton, List.range_succ]; rfl
  · rintro e w' ⟨out, w1, rfl, ⟨rfl, ht⟩, hk1, hb⟩
    exact ⟨rfl, ht.below hb, hk1.trans (Keep.of_below hb)⟩

theorem line_tree_full (s m k : Nat) (w : World) (h : TreesAt s m k w) (hg : ErrType w) (hk : 64 ≤ k) (hk7 : k < 70) :
    Calls Tryz.prog 9 #[.pointer (some ⟨s, 0, none⟩), .string (treeLine k)] w fun e w' => e = .returned (.tuple #[.slice none 0 0, .int .i64 324]) ∧ TreesAt s m (k + 1) w' ∧ Keep m w w' := by
  obtain ⟨es, ha, hv, hbn⟩ := h
  have hml : m < w.heap.size := (Array.getElem?_eq_some_iff.1 ha.map).1
  have hlen : es.length = 64 := by rw [ha.len]; simp; omega
  rw [show min k 64 = 64 by omega] at ha
  refine (line_err s m es _ (treeLine k) _ 2 treeW (fun _ w' => TreesAt s m (k + 1) w') w ha hg 324 (line_tree k hk7) (by decide) (by decide) ?_).mono ?_
  · intro W hbW hcW
    refine (does_full s m es _ (nameAt k) w.heap.size 1 W (ha.below hbW) (names_miss k 64 hk7 hk) (by omega) (nm_at k hk7) (hcW 1 _ rfl)).mono ?_
    rintro e w' ⟨rfl, hb⟩
    refine ⟨_, rfl, ⟨es, ?_, hv, hbn⟩, Keep.of_below hb⟩
    rw [show min (k + 1) 64 = 64 by omega]
    exact ha.below (hbW.trans (hb.mono hbW.size))
  · rintro e w' ⟨out, w1, rfl, ht, hk1, hb⟩
    exact ⟨rfl, ht.below hb, hk1.trans (Keep.of_below hb)⟩
end Go.Proofs.Sh
