/- The law on a full shell, its walk. Over the whole program of the cut; no condition beyond those that each theorem names. -/
import Derived.Test.YtkoipiolcnielaaGreatDoorShLj
namespace Go.Proofs.Sh
open Go.RowKit

theorem cat_tree (i : Nat) (W : World) (hi : i < 70) : (binOp .add 9 (.string ⟨#[116, 114, 101, 101, 32, 97]⟩) (.string (digs i))).run Tryz.prog W = .ok (.string (treeLine i)) W := by
  have h : (treeLine i).size < 1000 := (line_tree i hi).size
  have h2 : ¬ ((ByteArray.mk #[116, 114, 101, 101, 32, 97]).size + (digs i).size > 9223372036854775807) := by
    have : (treeLine i).size = (ByteArray.mk #[116, 114, 101, 101, 32, 97]).size + (digs i).size := by simp [treeLine, ByteArray.size_append]
    omega
  rw [binOp_string_add, run_string_add_if, if_neg h2]; rfl

def LineRet (s m k : Nat) (c : Int) (w : World) (e : Ending) (w' : World) : Prop := e = .returned (.tuple #[.slice none 0 0, .int .i64 c]) ∧ TreesAt s m (k + 1) w' ∧ Keep m w w'

theorem digs_size (i : Nat) : (digs i).size ≤ 2 := by
  unfold digs
  split
  · exact (show (1 : Nat) ≤ 2 by decide)
  · exact (show (2 : Nat) ≤ 2 by decide)

set_option maxRecDepth 100000 in
set_option maxHeartbeats 4000000 in
theorem shellFull_any (z : Int) (w : World) (hg : ErrType w) : Calls Tryz.prog 3 #[.int .i64 z] w fun e w' => e = .returned (.bool true) ∧ Below w.heap.size w w' := by
  have HG := Lib.hid hg; clear hg
  have hp := HG.out.pos
  go_enter Tryz.func3, Tryz.ntmps3
  go_wp2_with fail
  refine (lives_any w HG.out).mono ?_
  rintro e w1 ⟨rfl, hb1⟩
  have HB1 := Lib.hid hb1; clear hb1
  go_wp2_with fail
  refine (new_any w1).mono ?_
  rintro e w2 ⟨rfl, hc2, hf2, hm2, hb2⟩
  have hT : TreesAt (w1.heap.size + 1) w1.heap.size 0 w2 := ⟨[], ⟨hc2, hf2, hm2, rfl⟩, by simp, rfl⟩
  have HT := Lib.hid hT
  have hs1 := HB1.out.size
  have HB2 := Lib.hid (HB1.out.trans (hb2.mono hs1))
  have hs2 := hb2.size
  clear hT hc2 hf2 hm2 hb2
  go_wp2_with fail
  refine (pick_70 z _).mono ?_
  rintro e w' ⟨r, hr, rfl, hw⟩
  subst hw
  go_wp2
  go_loopw [5] (fun i wr => ∃ k : Nat, k ≤ r ∧ i = .int .i64 k ∧ TreesAt (w1.heap.size + 1) w1.heap.size k wr ∧ Keep w1.heap.size w2 wr) (fun i _ => r - (intOf i).toNat)
  case atStart => exact ⟨0, Nat.zero_le _, rfl, HT.out, Keep.refl _ _⟩
  case round =>
    obtain ⟨k, hk, rfl, ht, hkp⟩ := hrel
    have HTk := Lib.hid ht; have HKk := Lib.hid hkp
    have hszr := hkp.size
    clear ht hkp
    have hbr : Below w.heap.size w wr := HKk.out.below HB2.out (by omega) (by omega)
    have HBR := Lib.hid hbr; clear hbr
    by_cases hlt : k < r
    · have hds := digs_size k
      have hlt' : (k : Int) < (r : Int) := by omega
      go_wp2_with fail
      refine (digits_any k (by omega) wr).mono ?_
      rintro e w4 ⟨rfl, hb4⟩
      have HT4 := Lib.hid (HTk.out.below hb4)
      have HK4 := Lib.hid (HKk.out.trans (Keep.of_below hb4))
      have hs4 := hb4.size
      have HB4 := Lib.hid (HBR.out.trans (hb4.mono (by omega)))
      clear hb4
      by_cases h64 : k < 64
      · have hh : (k : Int) < 64 := by omega
        go_wp2_with fail
        refine (line_tree_ok _ _ k w4 HT4.out h64).mono ?_
        rintro e w5 ⟨rfl, ht5, hk5⟩
        have HT5 := Lib.hid ht5
        have HK5 := Lib.hid (HK4.out.trans hk5)
        clear ht5 hk5
        go_wp2
        go_roundw
        case rel => exact ⟨k + 1, by omega, by go_num, HT5.out, HK5.out⟩
        case measure => simp [intOf]; omega
      · have hh : ¬ ((k : Int) < 64) := by omega
        have hh2 : (64 : Int) ≤ (k : Int) := by omega
        have hg4 : ErrType w4 := HG.out.below HB4.out hp
        have HG4 := Lib.hid hg4; clear hg4
        go_wp2_with fail
        refine (line_tree_full _ _ k w4 HT4.out HG4.out (by omega) (by omega)).mono ?_
        rintro e w5 ⟨rfl, ht5, hk5⟩
        have HT5 := Lib.hid ht5
        have HK5 := Lib.hid (HK4.out.trans hk5)
        clear ht5 hk5
        go_wp2
        go_roundw
        case rel => exact ⟨k + 1, by omega, by go_num, HT5.out, HK5.out⟩
        case measure => simp [intOf]; omega
    · obtain rfl : k = r := by omega
      go_wp2_with fail
      refine (things_trees _ _ k wr HTk.out).mono ?_
      rintro e w6 ⟨p, cap, rfl, hb6⟩
      have HB6 := Lib.hid (HBR.out.trans (hb6.mono (by omega)))
      clear hb6
      go_wp2
      go_ret
      exact ⟨congrArg (fun b => Ending.returned (.bool b)) (beq_iff_eq.2 (by omega)), HB6.out⟩
end Go.Proofs.Sh
