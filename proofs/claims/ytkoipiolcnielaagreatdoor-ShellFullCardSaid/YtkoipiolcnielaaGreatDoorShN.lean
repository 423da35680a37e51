/- The alphabet (function 262), its walk. Over the whole program of the cut; no condition beyond those that each theorem names. -/
import Derived.Test.YtkoipiolcnielaaGreatDoorShM
import Derived.Laws.CopyOwn
namespace Go.Proofs.Sh
open Go.RowKit

def alpha : Array Value := #[.int .u8 97, .int .u8 98, .int .u8 99, .int .u8 100, .int .u8 101, .int .u8 102, .int .u8 103, .int .u8 104, .int .u8 105, .int .u8 106, .int .u8 107, .int .u8 108, .int .u8 109, .int .u8 110, .int .u8 111, .int .u8 112, .int .u8 113, .int .u8 114, .int .u8 115, .int .u8 116, .int .u8 117, .int .u8 118, .int .u8 119, .int .u8 120, .int .u8 121, .int .u8 122, .int .u8 50, .int .u8 51, .int .u8 52, .int .u8 53, .int .u8 54, .int .u8 55]

def rowA (k : Nat) : Array Value := ((List.range 32).map fun (i : Nat) => if i < k then Value.int .u8 (97 + i) else Value.int .u8 0).toArray
def rowB (k : Nat) : Array Value := ((List.range 32).map fun (i : Nat) => if i < 26 then Value.int .u8 (97 + i) else if i < 26 + k then Value.int .u8 (50 + ((i - 26 : Nat) : Int)) else Value.int .u8 0).toArray
theorem rowA_get (k : Nat) (h : k < 26) : (rowA k)[k]? = some (.int .u8 0) := by simp [rowA, show k < 32 by omega]
theorem rowA_set (k : Nat) (h : k < 26) : (rowA k).setIfInBounds k (.int .u8 (97 + k)) = rowA (k + 1) := by
  apply Array.ext_getElem?
  intro i
  simp only [Array.getElem?_setIfInBounds, rowA, List.getElem?_toArray, List.getElem?_map, List.size_toArray, List.length_map, List.length_range]
  by_cases hi : i < 32
  · simp only [List.getElem?_range hi, Option.map_some]
    by_cases hk : k = i
    · subst hk; simp [show k < 32 by omega]
    · simp only [if_neg hk]; by_cases h1 : i < k
      · simp [h1, show i < k + 1 by omega]
      · simp [h1, show ¬ i < k + 1 by omega]
  · simp [List.getElem?_eq_none (show (List.range 32).length ≤ i by simp; omega), show ¬ k = i by omega]
theorem rowB_get (k : Nat) (h : k < 6) : (rowB k)[26 + k]? = some (.int .u8 0) := by simp [rowB, show 26 + k < 32 by omega]; omega
theorem rowB_set (k : Nat) (h : k < 6) : (rowB k).setIfInBounds (26 + k) (.int .u8 (50 + k)) = rowB (k + 1) := by
  apply Array.ext_getElem?
  intro i
  simp only [Array.getElem?_setIfInBounds, rowB, List.getElem?_toArray, List.getElem?_map, List.size_toArray, List.length_map, List.length_range]
  by_cases hi : i < 32
  · simp only [List.getElem?_range hi, Option.map_some]
    by_cases hk : 26 + k = i
    · subst hk; simp [show 26 + k < 32 by omega]; omega
    · simp only [if_neg hk]
      by_cases h0 : i < 26
      · simp [h0]
      · by_cases h1 : i < 26 + k
        · simp [h0, h1, show i < 26 + (k + 1) by omega]
        · simp [h0, h1, show ¬ i < 26 + (k + 1) by omega]
  · simp [List.getElem?_eq_none (show (List.range 32).length ≤ i by simp; omega), show ¬ 26 + k = i by omega]
theorem rowAB : rowA 26 = rowB 0 := by kernel_rfl
theorem rowB_all : rowB 6 = alpha := by kernel_rfl
theorem rowA_zero : rowA 0 = Array.replicate 32 (.int .u8 0) := by kernel_rfl
theorem rowB_size (k : Nat) : (rowB k).size = 32 := by simp [rowB]
theorem rowA_size (k : Nat) : (rowA k).size = 32 := by simp [rowA]

set_option maxRecDepth 100000 in
set_option maxHeartbeats 8000000 in
theorem alphabet_any (w : World) : Calls Tryz.prog 262 #[] w (fun e w' => e = .returned (.agg alpha) ∧ Below w.heap.size w w') := by
  go_enter Tryz.func262, Tryz.ntmps262
  go_wp2
  go_loopw [2, 4] (fun _ i wr => ∃ k : Nat, k ≤ 26 ∧ i = .int .i64 k ∧ wr = (w.alloc (.cells (rowA 0) 144)).alloc (.cells (rowA k) 144)) (fun _ i _ => 26 - (intOf i).toNat)
  case atStart => exact ⟨0, by omega, rfl, by rw [rowA_zero]; rfl⟩
  case round =>
    obtain ⟨k, hk, rfl, rfl⟩ := hrel
    by_cases hlt : k < 26
    · have hc := rowA_get k hlt
      have hs := rowA_size k
      go_wp2
      go_roundw
      case rel => exact ⟨k + 1, by omega, by go_num, by rw [rowA_set k hlt]⟩
      case measure => simp [intOf]; omega
    · obtain rfl : k = 26 := by omega
      go_wp2
      go_loopw [3, 13] (fun _ i wr => ∃ k : Nat, k ≤ 6 ∧ i = .int .i64 k ∧ wr = (w.alloc (.cells (rowA 0) 144)).alloc (.cells (rowB k) 144)) (fun _ i _ => 6 - (intOf i).toNat)
      case atStart => exact ⟨0, by omega, rfl, by rw [rowAB]⟩
      case round =>
        obtain ⟨k, hk, rfl, rfl⟩ := hrel
        by_cases hlt : k < 6
        · have hc := rowB_get k hlt
          have hs := rowB_size k
          go_wp2
          go_roundw
          case rel => exact ⟨k + 1, by omega, by go_num, by rw [← rowB_set k hlt]⟩
          case measure => simp [intOf]; omega
        · obtain rfl : k = 6 := by omega
          go_upto_region 12 with (fail)
          refine wp_region_lit ?_
          have h1 : ((w.alloc (.cells (rowA 0) 144)).alloc (.cells (rowB 6) 144)).heap[w.heap.size + 1]? = some (.cells (rowB 6) 144) := heap_alloc2_new _ _ _
          have h0 : ((w.alloc (.cells (rowA 0) 144)).alloc (.cells (rowB 6) 144)).heap[w.heap.size]? = some (.cells (rowA 0) 144) := heap_alloc2_old _ _ _
          have hb : Below w.heap.size w ((w.alloc (.cells (rowA 0) 144)).alloc (.cells (rowB 6) 144)) := ((Below.refl _ _).alloc (Nat.le_refl _) _).alloc (by simp) _
          generalize (w.alloc (.cells (rowA 0) 144)).alloc (.cells (rowB 6) 144) = W at *
          refine wpList_load_row rfl 144 _ rfl (w.heap.size + 1) rfl 144 (rowB 6) _ _ h1 Tryz.underlying144 rfl (by kernel_rfl) ?_
          refine wpList_store_row rfl 144 _ _ rfl w.heap.size (rowB 6) rfl rfl 144 (rowA 0) h0 (by kernel_rfl) rfl (by kernel_rfl) ?_
          have h2 := setRow_heap W w.heap.size (rowA 0) (rowB 6) 144 (0, 0) h0
          have hb2 : Below w.heap.size w (W.setRow w.heap.size (rowB 6)) := below_setRow hb (Nat.le_refl _) _
          generalize W.setRow w.heap.size (rowB 6) = W2 at *
          have HB2 := Lib.hid hb2
          clear h1 h0 hb hb2
          have H2 := Lib.hid h2
          clear h2
          refine wpList_nil ?_
          go_wp2
          exact bodyPost_ret (results_cell_row rfl _ _ w.heap.size 144 (rowB 6) _ _ rfl H2.out Tryz.underlying144 rfl (by kernel_rfl)) rfl ⟨by rw [rowB_all], HB2.out⟩
end Go.Proofs.Sh
