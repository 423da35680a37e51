/- Function 138: what its walk shows. Over the whole program of the cut; no condition beyond those that each theorem names. -/
import Derived.Test.YtkoipiolcnielaaGreatDoorShE
namespace Go.Proofs.Sh
open Go.RowKit

def plainByte (c : UInt8) : Prop := (97 ≤ c.toNat ∧ c.toNat ≤ 122) ∨ (48 ≤ c.toNat ∧ c.toNat ≤ 57)

set_option maxHeartbeats 1000000 in
theorem named_plain (s : ByteArray) (hne : s.toList.isEmpty = false) (h2 : s.size ≤ 32) (hall : ∀ k (h : k < s.size), plainByte s[k]) (w : World) :
    Calls Tryz.prog 138 #[.string s] w fun e w' => e = .returned (.bool true) ∧ w = w' := by
  have HA := Lib.hid hall; clear hall
  go_enter Tryz.func138, Tryz.ntmps138
  go_wp2
  go_loop [3, 4, 5, 15] (fun _ _ _ i => ∃ k : Nat, k ≤ s.size ∧ i = .int .i64 k) (fun _ _ _ i => s.size - (intOf i).toNat)
  case atStart => exact ⟨0, Nat.zero_le _, rfl⟩
  case round =>
    obtain ⟨k, hk, rfl⟩ := hrel
    by_cases hlt : k < s.size
    · rcases HA.out k hlt with ⟨c1, c2⟩ | ⟨c1, c2⟩
      · go_wp2
        go_round
        case rel => exact ⟨k + 1, by omega, by go_num⟩
        case measure => simp [intOf]; omega
      · have n1 : ¬ 97 ≤ s[k].toNat := by omega
        have n2 : ¬ 65 ≤ s[k].toNat := by omega
        go_wp2
        go_round
        case rel => exact ⟨k + 1, by omega, by go_num⟩
        case measure => simp [intOf]; omega
    · go_wp2
      go_ret
      exact ⟨rfl, rfl⟩
end Go.Proofs.Sh
