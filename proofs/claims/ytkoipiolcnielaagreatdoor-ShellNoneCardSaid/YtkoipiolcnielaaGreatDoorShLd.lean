/- The laws on names and on none, their walks. Over the whole program of the cut; no condition beyond those that each theorem names. -/
import Derived.Test.YtkoipiolcnielaaGreatDoorShLc
namespace Go.Proofs.Sh
open Go.RowKit

set_option maxRecDepth 100000 in
set_option maxHeartbeats 4000000 in
theorem shellNames_any (w : World) (hg : ErrType w) : Calls Tryz.prog 5 #[] w fun e w' => e = .returned (.bool true) ∧ Below w.heap.size w w' := by
  have hL := lives_any w hg
  go_enter Tryz.func5, Tryz.ntmps5
  go_wp2_with (go_at_call 6; refine hL.mono ?_; rintro e w' ⟨rfl, hb⟩)
  go_ret
  exact ⟨rfl, hb⟩

set_option maxRecDepth 100000 in
theorem line_nil (k : ByteArray) (w : World) : Calls Tryz.prog 9 #[.pointer none, .string k] w fun e w' => e = .returned (.tuple #[.slice none 0 0, .int .i64 1]) ∧ w = w' := by
  go_enter Tryz.func9, Tryz.ntmps9
  go_wp2_with (go_at_call 13; refine (made_nil _).mono ?_; rintro e w' ⟨rfl, rfl⟩)
  go_ret2
  exact ⟨rfl, rfl⟩
set_option maxRecDepth 100000 in
theorem line_zero (s : Nat) (k : ByteArray) (w : World) (hs : w.cell? ⟨s, 0, none⟩ = some (.map none)) : Calls Tryz.prog 9 #[.pointer (some ⟨s, 0, none⟩), .string k] w fun e w' => e = .returned (.tuple #[.slice none 0 0, .int .i64 1]) ∧ w = w' := by
  go_enter Tryz.func9, Tryz.ntmps9
  go_wp2_with (go_at_call 13; refine (made_zero s _ hs).mono ?_; rintro e w' ⟨rfl, rfl⟩)
  go_ret2
  exact ⟨rfl, rfl⟩
set_option maxRecDepth 100000 in
theorem things_nil (w : World) : Calls Tryz.prog 11 #[.pointer none] w fun e w' => e = .returned (.slice none 0 0) ∧ w = w' := by
  go_enter Tryz.func11, Tryz.ntmps11
  go_wp2_with (go_at_call 13; refine (made_nil _).mono ?_; rintro e w' ⟨rfl, rfl⟩)
  go_ret
  exact ⟨rfl, rfl⟩
set_option maxRecDepth 100000 in
theorem things_zero (s : Nat) (w : World) (hs : w.cell? ⟨s, 0, none⟩ = some (.map none)) : Calls Tryz.prog 11 #[.pointer (some ⟨s, 0, none⟩)] w fun e w' => e = .returned (.slice none 0 0) ∧ w = w' := by
  go_enter Tryz.func11, Tryz.ntmps11
  go_wp2_with (go_at_call 13; refine (made_zero s _ hs).mono ?_; rintro e w' ⟨rfl, rfl⟩)
  go_ret
  exact ⟨rfl, rfl⟩

set_option maxRecDepth 100000 in
theorem empty_nil (k : ByteArray) (w : World) : Calls Tryz.prog 12 #[.pointer none, .string k] w fun e w' => e = .returned (.bool true) ∧ w = w' := by
  go_enter Tryz.func12, Tryz.ntmps12
  go_wp2_with (first
    | (go_at_call 9; refine (line_nil k _).mono ?_; rintro e w' ⟨rfl, rfl⟩)
    | (go_at_call 11; refine (things_nil _).mono ?_; rintro e w' ⟨rfl, rfl⟩))
  go_ret
  exact ⟨rfl, rfl⟩
set_option maxRecDepth 100000 in
theorem empty_zero (s : Nat) (k : ByteArray) (w : World) (hs : w.cell? ⟨s, 0, none⟩ = some (.map none)) : Calls Tryz.prog 12 #[.pointer (some ⟨s, 0, none⟩), .string k] w fun e w' => e = .returned (.bool true) ∧ w = w' := by
  go_enter Tryz.func12, Tryz.ntmps12
  go_wp2_with (first
    | (go_at_call 9; refine (line_zero s k _ hs).mono ?_; rintro e w' ⟨rfl, rfl⟩)
    | (go_at_call 11; refine (things_zero s _ hs).mono ?_; rintro e w' ⟨rfl, rfl⟩))
  go_ret
  exact ⟨rfl, rfl⟩

set_option maxRecDepth 100000 in
set_option maxHeartbeats 4000000 in
theorem shellNone_any (k : ByteArray) (w : World) (hg : ErrType w) : Calls Tryz.prog 4 #[.string k] w fun e w' => e = .returned (.bool true) ∧ Below w.heap.size w w' := by
  have hL := lives_any w hg
  go_enter Tryz.func4, Tryz.ntmps4
  go_wp2_with fail
  refine hL.mono ?_
  rintro e w1 ⟨rfl, hb⟩
  go_wp2_with fail
  refine (empty_nil k _).mono ?_
  rintro e w' ⟨rfl, rfl⟩
  go_wp2_with fail
  refine (empty_zero _ k _ (by simp)).mono ?_
  rintro e w' ⟨rfl, rfl⟩
  go_wp2
  go_ret
  exact ⟨rfl, hb.alloc hb.size _⟩
end Go.Proofs.Sh
