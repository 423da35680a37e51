/- A number by its digits (function 20), the walk. Over the whole program of the cut; no condition beyond those that each theorem names. -/
import Derived.Test.YtkoipiolcnielaaGreatDoorShLd
namespace Go.Proofs.Sh
open Go.RowKit

def dig (i : Nat) : UInt8 := UInt8.ofNat (48 + i)
def digs (i : Nat) : ByteArray := if i < 10 then ⟨#[dig i]⟩ else ⟨#[dig (i / 10), dig (i % 10)]⟩
theorem dig_toNat (n : Nat) (h : n < 10) : (dig n).toNat = 48 + n := by simp [dig]; omega

theorem conv_dig (n : Nat) (h : n < 10) (W : World) : (convert 90 9 (.slice (some ⟨W.heap.size, 0, none⟩) 1 1)).run Tryz.prog (W.alloc (.cells #[.int .u8 (48 + n)] 5)) = .ok (.string ⟨#[dig n]⟩) (W.alloc (.cells #[.int .u8 (48 + n)] 5)) := by
  refine run_convert_bytes_back _ 90 9 5 ⟨W.heap.size, 0, none⟩ 1 [dig n] Tryz.underlying90 Tryz.underlying5 Tryz.underlying9 ?_
  intro j hj
  have : j = 0 := by simp at hj; omega
  subst this
  have e : (((dig n).toNat : Nat) : Int) = 48 + n := by rw [dig_toNat n h]; omega
  rw [Addr.add_lit]
  simp [e]

theorem cat_empty (a : ByteArray) (h : a.size < 100) (W : World) : (binOp .add 9 (.string a) (.string ⟨#[]⟩)).run Tryz.prog W = .ok (.string a) W := by
  have h2 : ¬ (a.size + (ByteArray.mk #[]).size > 9223372036854775807) := by
    have : (ByteArray.mk #[]).size = 0 := rfl
    omega
  rw [binOp_string_add, run_string_add_if, if_neg h2]
  congr 2
  cases a with | mk d => exact congrArg ByteArray.mk (by simp)
theorem cat_digs (a b : UInt8) (W : World) : (binOp .add 9 (.string ⟨#[a]⟩) (.string ⟨#[b]⟩)).run Tryz.prog W = .ok (.string ⟨#[a, b]⟩) W := by kernel_rfl

set_option maxRecDepth 100000 in
set_option maxHeartbeats 1000000 in
theorem refNumber_one (i : Nat) (hi : i < 10) (w : World) : Calls Tryz.prog 20 #[.int .i64 i] w fun e w' => e = .returned (.tuple #[.string ⟨#[dig i]⟩, .int .i64 0]) ∧ Below w.heap.size w w' := by
  have hcv := conv_dig i hi
  have hca := cat_empty ⟨#[dig i]⟩ (show (1 : Nat) < 100 by decide)
  go_enter Tryz.func20, Tryz.ntmps20
  go_wp2
  refine wp_loop_rounds 1 ?_
  rw [rounds_succ]
  go_wp2
  go_ret2
  exact ⟨rfl, (Below.refl _ _).alloc (Nat.le_refl _) _⟩

set_option maxRecDepth 100000 in
set_option maxHeartbeats 1000000 in
theorem refNumber_two (i a b : Nat) (ha : 1 ≤ a) (ha9 : a < 10) (hb : b < 10) (hi : i = 10 * a + b) (w : World) : Calls Tryz.prog 20 #[.int .i64 i] w fun e w' => e = .returned (.tuple #[.string ⟨#[dig a, dig b]⟩, .int .i64 0]) ∧ Below w.heap.size w w' := by
  have hcv := conv_dig b hb
  have hcv2 := conv_dig a ha9 (w.alloc (.cells #[.int .u8 (48 + b)] 5))
  simp only [World.size_alloc] at hcv2
  have hca := cat_empty ⟨#[dig b]⟩ (show (1 : Nat) < 100 by decide)
  have hcd := cat_digs (dig a) (dig b)
  have hq : (i : Int) / 10 = a := by omega
  have hr : (i : Int) % 10 = b := by omega
  have hi10 : 10 ≤ i := by omega
  have hi100 : i < 100 := by omega
  clear hi
  go_enter Tryz.func20, Tryz.ntmps20
  go_wp2
  refine wp_loop_rounds 2 ?_
  rw [rounds_succ]
  go_wp2
  rw [rounds_succ]
  go_wp2
  go_ret2
  exact ⟨rfl, ((Below.refl _ _).alloc (Nat.le_refl _) _).alloc (by simp) _⟩
end Go.Proofs.Sh
