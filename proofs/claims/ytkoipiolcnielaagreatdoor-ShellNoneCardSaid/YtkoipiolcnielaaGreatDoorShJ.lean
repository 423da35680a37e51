/- What the shell reads of a line (function 27), its walk. Over the whole program of the cut; no condition beyond those that each theorem names. -/
import Derived.Test.YtkoipiolcnielaaGreatDoorShI
namespace Go.Proofs.Sh
open Go.RowKit

/-- What read hands back of two words: a name that is given, and a code. -/
def Read2Ret (B : Nat) (k : Int) (s : ByteArray) (k2 : Int) (s2 : ByteArray) (bs2 : List Int) (W : World) (e : Ending) (w' : World) : Prop :=
  ∃ v2 vr, e = .returned (.tuple #[vr, .bool true]) ∧ w'.ownsRow B 5 1 v2 bs2.length (bs2.map (Value.int .u8)) ∧
    w'.ownsRow B 95 4 vr 2 [.int .u8 k, .string s, .slice none 0 0, .int .i64 0, .int .u8 k2, .string s2, v2, .int .i64 0] ∧ Below B W w'

set_option maxRecDepth 100000 in
set_option maxHeartbeats 4000000 in
theorem read2 (k : Int) (s : ByteArray) (k2 : Int) (s2 : ByteArray) (bs2 : List Int) (b o c g c2 : Nat) (w : World)
    (hone : ∀ w : World, Calls Tryz.prog 69 #[.int .u8 k, .string s] w (fun e w' => e = .returned (.tuple #[.agg #[.int .u8 k, .string s, .slice none 0 0, .int .i64 0], .bool true]) ∧ Below w.heap.size w w'))
    (htwo : ∀ w : World, Calls Tryz.prog 69 #[.int .u8 k2, .string s2] w (OneRet w.heap.size k2 s2 bs2 w))
    (hw0 : w.cell? ⟨b, o, none⟩ = some (.string s)) (hk0 : w.cell? ⟨g, 0, none⟩ = some (.int .u8 k))
    (hw1 : w.cell? ⟨b, o + 1, none⟩ = some (.string s2)) (hk1 : w.cell? ⟨g, 1, none⟩ = some (.int .u8 k2)) :
    Calls Tryz.prog 27 #[.slice (some ⟨b, o, none⟩) 2 c, .slice (some ⟨g, 0, none⟩) 2 c2] w (Read2Ret w.heap.size k s k2 s2 bs2 w) := by
  have HN := Lib.hid hone; clear hone
  have HM := Lib.hid htwo; clear htwo
  have HW1 := Lib.hid hw1; clear hw1
  have HK1 := Lib.hid hk1; clear hk1
  have hbl : b < w.heap.size := World.block_lt_of_cell? _ _ hw0
  have hgl : g < w.heap.size := World.block_lt_of_cell? _ _ hk0
  go_enter Tryz.func27, Tryz.ntmps27
  go_wp2
  refine wp_loop_rounds 3 ?_
  rw [rounds_succ]
  go_wp2_with fail
  refine (HN.out _).mono ?_
  rintro e w1 ⟨rfl, hbel⟩
  have HB := Lib.hid hbel; clear hbel
  go_wp2_with (at_builtin; refine wpList_append_own _ rfl _ _ 73 rfl w.heap.size 95 Tryz.t95 _ 4 56 Tryz.underlying73 info95 rfl rfl rfl rfl (by decide) _ 0 [] rfl (World.ownsRow_nil _ _ _ _) ⟨w1.heap.size + 1, 0, none⟩ 1 1 [.int .u8 k, .string s, .slice none 0 0, .int .i64 0] rfl rfl ?c2 ?c3 ?c4 ?c5 ?c6 ?_)
  case c2 =>
    intro j u hu
    match j, hu with
    | 0, hu => cases hu; rw [Addr.add_lit]; simp
    | 1, hu => cases hu; rw [Addr.add_lit]; simp
    | 2, hu => cases hu; rw [Addr.add_lit]; simp
    | 3, hu => cases hu; rw [Addr.add_lit]; simp
  case c3 => intro u hu; simp at hu; rcases hu with rfl | rfl | rfl | rfl <;> rfl
  case c4 => decide
  case c5 => decide
  case c6 => have := HB.out.size; simp; omega
  intro vr w2 hown hgrow _
  have hb2 : Below w.heap.size w w2 := HB.out.trans (((((Below.refl _ _).alloc (Nat.le_refl _) _).alloc (by simp) _).grown hgrow (by simp; omega) (fun k hk => by simp [Value.ownBlock] at hk)).mono HB.out.size)
  have HO2 := Lib.hid hown; clear hown hgrow
  obtain ⟨p2, cap2, rfl⟩ := ownsRow_slice HO2.out
  have hw1 : w2.cell? ⟨b, o + 1, none⟩ = some (.string s2) := by rw [hb2.cell hbl]; exact HW1.out
  have hk1 : w2.cell? ⟨g, 1, none⟩ = some (.int .u8 k2) := by rw [hb2.cell hgl]; exact HK1.out
  have HB2 := Lib.hid hb2; clear hb2 HB
  clear hw0 hk0
  go_wp2
  rw [rounds_succ]
  go_wp2_with fail
  refine (HM.out _).mono ?_
  rintro e w3 ⟨v, rfl, hown, hbel⟩
  obtain ⟨p, cap, rfl⟩ := ownsRow_slice hown
  have HO := Lib.hid hown; clear hown
  have HO23 := Lib.hid (ownsRow_below HO2.out hbel fun k hk => (HO2.out.lt k hk).2)
  have HB3 := Lib.hid (HB2.out.trans (hbel.mono HB2.out.size))
  have hsz := HB3.out.size
  clear hbel
  go_wp2_with (at_builtin; refine wpList_append_own _ rfl _ _ 73 rfl w.heap.size 95 Tryz.t95 _ 4 56 Tryz.underlying73 info95 rfl rfl rfl rfl (by decide) _ 1 _ rfl ((HO23.out.alloc _).alloc _) ⟨w3.heap.size + 1, 0, none⟩ 1 1 [.int .u8 k2, .string s2, .slice p bs2.length cap, .int .i64 0] rfl rfl ?d2 ?d3 ?d4 ?d5 ?d6 ?_)
  case d2 =>
    intro j u hu
    match j, hu with
    | 0, hu => cases hu; rw [Addr.add_lit]; simp
    | 1, hu => cases hu; rw [Addr.add_lit]; simp
    | 2, hu => cases hu; rw [Addr.add_lit]; simp
    | 3, hu => cases hu; rw [Addr.add_lit]; simp
  case d3 => intro u hu; simp at hu; rcases hu with rfl | rfl | rfl | rfl <;> rfl
  case d4 => decide
  case d5 => decide
  case d6 => simp; omega
  intro vr4 w4 hown hgrow _
  have hb4 : Below w.heap.size w w4 := HB3.out.trans ((((Below.refl _ _).alloc (B := w.heap.size) hsz _).alloc (by simp; omega) _).grown hgrow (by simp; omega) (fun k hk => (HO23.out.lt k hk).1))
  have ho4 : w4.ownsRow w.heap.size 5 1 (.slice p bs2.length cap) bs2.length (bs2.map (Value.int .u8)) := by
    have h1 := (ownsRow_base HO.out HB2.out.size).alloc (.cells #[.int .u8 k2, .string s2, .slice p bs2.length cap, .int .i64 0] 95) |>.alloc (.cells #[.int .u8 k2, .string s2, .slice p bs2.length cap, .int .i64 0] 95)
    refine h1.kept hgrow ?_
    cases p with
    | none => exact .inl rfl
    | some a =>
      right
      intro e
      have l1 := HO.out.lt a.block rfl
      have l2 := HO2.out.lt a.block (by rw [← e]; rfl)
      omega
  have HO4 := Lib.hid hown; clear hown hgrow
  have HP4 := Lib.hid ho4; clear ho4
  have HB4 := Lib.hid hb4; clear hb4
  obtain ⟨p4, cap4, rfl⟩ := ownsRow_slice HO4.out
  go_wp2
  rw [rounds_succ]
  go_wp2
  go_ret2
  exact ⟨_, _, rfl, HP4.out, HO4.out, HB4.out⟩
end Go.Proofs.Sh
