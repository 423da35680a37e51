/- What the walks of slices.Index, slices.Delete and the makers of small values show. Over the whole program of the cut; no condition beyond those that each theorem names. -/
import Derived.Test.YtkoipiolcnielaaGreatDoorProg
import Derived.WalkKit
import Derived.WalkLawsBesides
import Derived.WalkSpells
import Derived.Lib.Hide
import Derived.Outline
namespace Go.Proofs.Sh
open Go.RowKit

theorem made_yes (s m : Nat) (w : World) (hs : w.cell? ⟨s, 0, none⟩ = some (.map (some m))) :
    Calls Tryz.prog 13 #[.pointer (some ⟨s, 0, none⟩)] w fun e w' => e = .returned (.bool true) ∧ w = w' := by
  have q : ∀ (w : World) (r : Option Nat), (binOp .neq 35 (.map r) (.map none)).run Tryz.prog w = .ok (.bool !r.isNone) w := fun w r => run_neq_map_nil w _ _ _ r Tryz.underlying35
  go_enter Tryz.func13, Tryz.ntmps13
  go_wp2
  go_ret
  exact ⟨rfl, rfl⟩

theorem made_nil (w : World) :
    Calls Tryz.prog 13 #[.pointer none] w fun e w' => e = .returned (.bool false) ∧ w = w' := by
  go_enter Tryz.func13, Tryz.ntmps13
  go_wp2
  go_ret
  exact ⟨rfl, rfl⟩

theorem made_zero (s : Nat) (w : World) (hs : w.cell? ⟨s, 0, none⟩ = some (.map none)) :
    Calls Tryz.prog 13 #[.pointer (some ⟨s, 0, none⟩)] w fun e w' => e = .returned (.bool false) ∧ w = w' := by
  have q : ∀ (w : World) (r : Option Nat), (binOp .neq 35 (.map r) (.map none)).run Tryz.prog w = .ok (.bool !r.isNone) w := fun w r => run_neq_map_nil w _ _ _ r Tryz.underlying35
  go_enter Tryz.func13, Tryz.ntmps13
  go_wp2
  go_ret
  exact ⟨rfl, rfl⟩

theorem blank_any (s : ByteArray) (b : Bool) (hb : s.toList.isEmpty = b) (w : World) :
    Calls Tryz.prog 17 #[.string s] w fun e w' => e = .returned (.bool b) ∧ w = w' := by
  go_enter Tryz.func17, Tryz.ntmps17
  go_wp2
  go_ret
  exact ⟨rfl, rfl⟩

theorem blank_no (s : ByteArray) (hb : s.toList.isEmpty = false) (w : World) :
    Calls Tryz.prog 17 #[.string s] w fun e w' => e = .returned (.bool false) ∧ w = w' := blank_any s false hb w

/-- slices.IndexFunc of words of which none is empty. -/
theorem index_none (ss : List ByteArray) (b cap : Nat) (w : World) (hm : ss.length ≤ maxLen)
    (hc : ∀ k, k < ss.length → w.cell? ⟨b, k, none⟩ = some (.string (ss.getD k ByteArray.empty)))
    (hne : ∀ k, k < ss.length → (ss.getD k ByteArray.empty).toList.isEmpty = false) :
    Calls Tryz.prog 24 #[.slice (some ⟨b, 0, none⟩) ss.length cap, .func (.func 17) #[] #[]] w fun e w' => e = .returned (.int .i64 (-1)) ∧ w = w' := by
  unfold maxLen at hm
  have HC := Lib.hid hc; clear hc
  have HN := Lib.hid hne; clear hne
  generalize hn : ss.length = n at *
  have HL := Lib.hid hn; clear hn
  go_enter Tryz.func24, Tryz.ntmps24
  go_wp2
  go_loop [5, 8] (fun _ i => ∃ k : Nat, k ≤ n ∧ i = .int .i64 k) (fun _ i => n - (intOf i).toNat)
  case atStart => exact ⟨0, Nat.zero_le _, rfl⟩
  case round =>
    obtain ⟨k, hk, rfl⟩ := hrel
    by_cases hlt : k < n
    · have c0 := HC.out k hlt
      have n0 := HN.out k hlt
      go_wp2_with (go_at_call 17; refine (blank_no _ n0 _).mono ?_; rintro e w' ⟨rfl, rfl⟩)
      go_round
      case rel => exact ⟨k + 1, by omega, by go_num⟩
      case measure => simp [intOf]; omega
    · go_wp2
      go_ret
      exact ⟨rfl, rfl⟩

/-- slices.DeleteFunc of words of which none is empty: the slice as it is. -/
theorem delete_none (ss : List ByteArray) (b cap : Nat) (w : World) (hm : ss.length ≤ maxLen)
    (hc : ∀ k, k < ss.length → w.cell? ⟨b, k, none⟩ = some (.string (ss.getD k ByteArray.empty)))
    (hne : ∀ k, k < ss.length → (ss.getD k ByteArray.empty).toList.isEmpty = false) :
    Calls Tryz.prog 15 #[.slice (some ⟨b, 0, none⟩) ss.length cap, .func (.func 17) #[] #[]] w fun e w' => e = .returned (.slice (some ⟨b, 0, none⟩) ss.length cap) ∧ w = w' := by
  have C := Lib.hid (index_none ss b cap w hm hc hne)
  clear hc hne hm
  go_enter Tryz.func15, Tryz.ntmps15
  go_wp2_with (go_at_call 24; refine C.out.mono ?_; rintro e w' ⟨rfl, rfl⟩)
  go_ret
  exact ⟨rfl, rfl⟩
end Go.Proofs.Sh
