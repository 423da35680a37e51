/- The digits of a number and which names are picked: the walks and the plain laws. Over the whole program of the cut; no condition beyond those that each theorem names. -/
import Derived.Test.YtkoipiolcnielaaGreatDoorShLe
namespace Go.Proofs.Sh
open Go.RowKit

def nameAt (i : Nat) : ByteArray := ⟨#[97]⟩ ++ digs i
def treeLine (i : Nat) : ByteArray := ⟨#[116, 114, 101, 101, 32, 97]⟩ ++ digs i

def lineCheck (i : Nat) : Bool :=
  decide ((treeLine i).size < 1000) && decide (Lib.indexByte (treeLine i).data.toList 10 = -1) && decide (Lib.countB (treeLine i) ⟨#[32]⟩ = 1) && decide (Lib.splitB ⟨#[32]⟩ 0 1 (treeLine i) = [treeW, nameAt i]) && !(nameAt i).toList.isEmpty && decide ((nameAt i).size ≤ 32) &&
  (nameAt i).data.toList.all fun c => (decide (97 ≤ c.toNat) && decide (c.toNat ≤ 122)) || (decide (48 ≤ c.toNat) && decide (c.toNat ≤ 57))
theorem lineCheck_all : (List.range 70).all lineCheck = true := by kernel_rfl
def apartCheck (i : Nat) : Bool := (List.range 70).all fun j => decide (i = j) || !(nameAt j == nameAt i)
theorem apartCheck_all : (List.range 70).all apartCheck = true := by kernel_rfl

theorem line_tree (i : Nat) (hi : i < 70) : LineOf (treeLine i) [treeW, nameAt i] 2 treeW := by
  have h := List.all_eq_true.1 lineCheck_all i (List.mem_range.2 hi)
  simp only [lineCheck, Bool.and_eq_true, decide_eq_true_eq] at h
  obtain ⟨⟨⟨⟨⟨⟨h1, h2⟩, h3⟩, h4⟩, h5⟩, h6⟩, h7⟩ := h
  exact ⟨h1, h2, by rw [h3], by rw [h3]; exact h4, rfl, words_all (by simp only [List.all_cons, List.all_nil, h5, Bool.and_true]; kernel_rfl), rfl, by decide, fun _ => show (116 : Nat) ≠ 35 by decide⟩
theorem nm_at (i : Nat) (hi : i < 70) : Nm (nameAt i) := by
  have h := List.all_eq_true.1 lineCheck_all i (List.mem_range.2 hi)
  simp only [lineCheck, Bool.and_eq_true, decide_eq_true_eq] at h
  obtain ⟨⟨⟨⟨⟨⟨h1, h2⟩, h3⟩, h4⟩, h5⟩, h6⟩, h7⟩ := h
  refine ⟨by simpa using h5, h6, fun k hk => ?_⟩
  have := List.all_eq_true.1 h7 ((nameAt i)[k]) (by
    have : (nameAt i)[k] = (nameAt i).data.toList[k]'(by simpa using hk) := rfl
    rw [this]; exact List.getElem_mem _)
  simp only [Bool.or_eq_true, Bool.and_eq_true, decide_eq_true_eq] at this
  exact this
theorem names_miss (i j : Nat) (hi : i < 70) (hj : j ≤ i) : ((List.range j).map nameAt).findIdx? (· == nameAt i) = none := by
  rw [List.findIdx?_eq_none_iff]
  intro x hx
  obtain ⟨k, hk, rfl⟩ := List.mem_map.1 hx
  have hk' := List.mem_range.1 hk
  have h := List.all_eq_true.1 (List.all_eq_true.1 apartCheck_all i (List.mem_range.2 hi)) k (List.mem_range.2 (by omega))
  simp only [Bool.or_eq_true, decide_eq_true_eq, Bool.not_eq_true'] at h
  rcases h with h | h
  · omega
  · exact h

set_option maxRecDepth 100000 in
theorem digits_any (i : Nat) (hi : i < 70) (w : World) : Calls Tryz.prog 10 #[.int .i64 i] w fun e w' => e = .returned (.string (digs i)) ∧ Below w.heap.size w w' := by
  have hN : ∀ w, Calls Tryz.prog 20 #[.int .i64 i] w fun e w' => e = .returned (.tuple #[.string (digs i), .int .i64 0]) ∧ Below w.heap.size w w' := fun w => by
    by_cases h : i < 10
    · rw [show digs i = ⟨#[dig i]⟩ from if_pos h]; exact refNumber_one i h w
    · rw [show digs i = ⟨#[dig (i / 10), dig (i % 10)]⟩ from if_neg h]; exact refNumber_two i (i / 10) (i % 10) (by omega) (by omega) (by omega) (by omega) w
  have HN := Lib.hid hN; clear hN
  go_enter Tryz.func10, Tryz.ntmps10
  go_wp2_with fail
  refine (HN.out w).mono ?_
  rintro e w' ⟨rfl, hb⟩
  go_wp2
  go_ret
  exact ⟨rfl, hb⟩

set_option maxRecDepth 100000 in
theorem pick_70 (n : Int) (w : World) : Calls Tryz.prog 8 #[.int .i64 n, .int .i64 70] w fun e w' => ∃ k : Nat, k < 70 ∧ e = .returned (.int .i64 k) ∧ w = w' := by
  have h1 : n.tmod 70 < 70 := Int.tmod_lt_of_pos n (by decide)
  have h2 : -70 < n.tmod 70 := by
    have := Int.lt_tmod_of_pos n (show (0 : Int) < 70 by decide); omega
  by_cases hs : n.tmod 70 < 0
  · go_enter Tryz.func8, Tryz.ntmps8
    go_wp2
    go_ret
    exact ⟨(n.tmod 70 + 70).toNat, by omega, by rw [show (((n.tmod 70 + 70).toNat : Nat) : Int) = n.tmod 70 + 70 by omega]; rfl, rfl⟩
  · go_enter Tryz.func8, Tryz.ntmps8
    go_wp2
    go_ret
    exact ⟨(n.tmod 70).toNat, by omega, by rw [show (((n.tmod 70).toNat : Nat) : Int) = n.tmod 70 by omega]; rfl, rfl⟩
end Go.Proofs.Sh
