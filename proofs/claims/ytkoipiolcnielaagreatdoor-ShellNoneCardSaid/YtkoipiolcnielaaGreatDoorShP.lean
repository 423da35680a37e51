/- Words of a text, a number, a code, a new shell: their walks. Over the whole program of the cut; no condition beyond those that each theorem names. -/
import Derived.Test.YtkoipiolcnielaaGreatDoorShShelf
import Derived.Test.YtkoipiolcnielaaGreatDoorShO
import Derived.Lib.SplitLaws
import Derived.Lib.IndexBytes
namespace Go.Proofs.Sh
open Go.RowKit Go.Lib

theorem indexB_one (s : ByteArray) (c : UInt8) : Lib.indexB s ⟨#[c]⟩ = Lib.indexByte s.data.toList c := by
  show Lib.index _ _ = _
  exact Lib.index_one _ _

theorem contains_no (s : ByteArray) (c : UInt8) (h : Lib.indexByte s.data.toList c = -1) (w : World) :
    Calls Tryz.prog 14 #[.string s, .string ⟨#[c]⟩] w fun e w' => e = .returned (.bool false) ∧ w' = w := by
  have := Any.strings_Contains_one Tryz.lays144 s c w
  rw [h] at this
  exact this

theorem info9 : (Tryz.prog.info? 9).map (fun i => (i.zero, i.size, i.bytes)) = some (some (.string ByteArray.empty), 1, 16) := by kernel_rfl

theorem genSplit_one (s : ByteArray) (c : UInt8) (hs : s.size < 4294967281) (w : World) :
    Calls Tryz.prog 25 #[.string s, .string ⟨#[c]⟩, .int .i64 0, .int .i64 (-1)] w fun e w' =>
      e = .returned (.slice (some ⟨w.heap.size, 0, none⟩) (Lib.countB s ⟨#[c]⟩ + 1) (Lib.countB s ⟨#[c]⟩ + 1)) ∧ w' = w.alloc (.cells ((Lib.splitB ⟨#[c]⟩ 0 (Lib.countB s ⟨#[c]⟩) s).map Value.string).toArray 9) := by
  have h1 : 1 ≤ (⟨#[c]⟩ : ByteArray).size := Nat.le_refl 1
  have hle := Lib.countB_le ⟨#[c]⟩ h1 s.size s (Nat.le_refl _)
  have hlen := Lib.splitB_all ⟨#[c]⟩ h1 0 _ s rfl
  have c' := Any.strings_genSplit_core (ρ := Tryz.lays221_ren) Tryz.lays221 info9 s ⟨#[c]⟩ 0 (-1) (Lib.countB s ⟨#[c]⟩ + 1) w hs h1 (Nat.zero_le _)
    (fun x k hx => by rw [indexB_one]; exact Any.strings_Index_one Tryz.lays143 x c _)
    (by
      refine (Any.strings_Count_one Tryz.lays138 s c w).mono fun e w' ⟨he, hw⟩ => ⟨?_, hw⟩
      rw [he]
      show _ = Ending.returned (Value.int .i64 ((Lib.count s.data.toList [c] : Nat) : Int))
      rw [Lib.count_one]; rfl)
    (by decide) (by decide) (by rw [if_pos (by decide)]; omega)
  rw [Nat.add_sub_cancel, hlen] at c'
  have e2 : Lib.cellsOf (Lib.splitB ⟨#[c]⟩ 0 (Lib.countB s ⟨#[c]⟩) s) (Lib.countB s ⟨#[c]⟩ + 1) = ((Lib.splitB ⟨#[c]⟩ 0 (Lib.countB s ⟨#[c]⟩) s).map Value.string).toArray := by rw [← hlen]; exact Lib.cellsOf_full _
  rw [e2] at c'
  exact c'

theorem split_one (s : ByteArray) (c : UInt8) (hs : s.size < 4294967281) (w : World) :
    Calls Tryz.prog 16 #[.string s, .string ⟨#[c]⟩] w fun e w' =>
      e = .returned (.slice (some ⟨w.heap.size, 0, none⟩) (Lib.countB s ⟨#[c]⟩ + 1) (Lib.countB s ⟨#[c]⟩ + 1)) ∧ w' = w.alloc (.cells ((Lib.splitB ⟨#[c]⟩ 0 (Lib.countB s ⟨#[c]⟩) s).map Value.string).toArray 9) := by
  have hg := genSplit_one s c hs
  go_enter Tryz.func16, Tryz.ntmps16
  go_wp2_with (go_at_call 25; refine (hg _).mono ?_; rintro e w' ⟨rfl, hw⟩; rw [hw])
  go_ret
  exact ⟨rfl, rfl⟩

/-- strings.Split(s, " ") where the pieces are known. -/
theorem split_words (s : ByteArray) (ws : List ByteArray) (n : Nat) (hs : s.size < 1000) (hc : Lib.countB s ⟨#[32]⟩ + 1 = n) (hw : Lib.splitB ⟨#[32]⟩ 0 (Lib.countB s ⟨#[32]⟩) s = ws) (w : World) :
    Calls Tryz.prog 16 #[.string s, .string ⟨#[32]⟩] w fun e w' =>
      e = .returned (.slice (some ⟨w.heap.size, 0, none⟩) n n) ∧ w' = w.alloc (.cells (ws.map Value.string).toArray 9) := by
  have h := split_one s 32 (by omega) w
  rw [hc, hw] at h
  exact h

theorem itoa_small (i : Nat) (hi : i < 100) (w : World) : Calls Tryz.prog 220 #[.int .i64 i] w fun e w' => e = .returned (.string ⟨(Lib.decDigits i).toArray⟩) ∧ w' = w :=
  Any.strconv_Itoa_small Tryz.lays171 i hi w

theorem base_number (i : Nat) (hi : i < 100) (w : World) : Calls Tryz.prog 157 #[.int .i64 i] w fun e w' => e = .returned (.tuple #[.string ⟨(Lib.decDigits i).toArray⟩, .int .i64 0]) ∧ w' = w := by
  have hg := itoa_small i hi
  go_enter Tryz.func157, Tryz.ntmps157
  go_wp2_with (go_at_call 220; refine (hg _).mono ?_; rintro e w' ⟨rfl, hw⟩; rw [hw])
  go_ret2
  exact ⟨rfl, rfl⟩
theorem number (i : Nat) (hi : i < 100) (w : World) : Calls Tryz.prog 86 #[.int .i64 i] w fun e w' => e = .returned (.string ⟨(Lib.decDigits i).toArray⟩) ∧ w' = w := by
  have hg := base_number i hi
  go_enter Tryz.func86, Tryz.ntmps86
  go_wp2_with (go_at_call 157; refine (hg _).mono ?_; rintro e w' ⟨rfl, hw⟩; rw [hw])
  go_ret
  exact ⟨rfl, rfl⟩

theorem code_six (g cap : Nat) (w : World) (h6 : SixAt g w) : Calls Tryz.prog 104 #[.slice (some ⟨g, 0, none⟩) 6 cap] w (LetRet w) := by
  have hg := letters_six g cap
  go_enter Tryz.func104, Tryz.ntmps104
  go_wp2_with (go_at_call 178; refine (hg _ h6).mono ?_; rintro e w' ⟨rfl, hw⟩)
  go_ret
  exact ⟨rfl, hw⟩

theorem new_any (w : World) :
    Calls Tryz.prog 7 #[] w fun e w' => e = .returned (.pointer (some ⟨w.heap.size + 1, 0, none⟩)) ∧ w'.cell? ⟨w.heap.size + 1, 0, none⟩ = some (.map (some w.heap.size)) ∧ w'.frozen? ⟨w.heap.size + 1, 0, none⟩ = false ∧ w'.heap[w.heap.size]? = some (.map #[] 0) ∧ Below w.heap.size w w' := by
  go_enter Tryz.func7, Tryz.ntmps7
  have hmm := @run_makeMap Tryz.prog
  go_wp2
  go_ret
  refine ⟨rfl, ?_, ?_, ?_, ?_⟩
  · simp
  · simp
  · exact alloc_old (by show (w.heap.push _)[w.heap.size]? = _; simp)
  · exact ((Below.refl _ _).alloc (Nat.le_refl _) _).alloc (by simp) _
end Go.Proofs.Sh
