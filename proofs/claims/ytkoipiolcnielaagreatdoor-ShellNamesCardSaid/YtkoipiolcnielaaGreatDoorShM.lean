/- Bytes as letters (function 135), the walk. Over the whole program of the cut; no condition beyond those that each theorem names. -/
import Derived.Test.YtkoipiolcnielaaGreatDoorShB
import Derived.Test.YtkoipiolcnielaaGreatDoorShI
namespace Go.Proofs.Sh
open Go.RowKit

set_option maxHeartbeats 1000000 in
theorem worth_lower (c : Int) (h1 : 97 ≤ c) (h2 : c ≤ 122) (w : World) :
    Calls Tryz.prog 221 #[.int .u8 c] w fun e w' => e = .returned (.int .i64 (c - 97)) ∧ w = w' := by
  go_enter Tryz.func221, Tryz.ntmps221
  go_wp2
  go_ret
  exact ⟨rfl, rfl⟩

set_option maxHeartbeats 1000000 in
theorem worth_digit (c : Int) (h1 : 50 ≤ c) (h2 : c ≤ 55) (w : World) :
    Calls Tryz.prog 221 #[.int .u8 c] w fun e w' => e = .returned (.int .i64 (c - 50 + 26)) ∧ w = w' := by
  go_enter Tryz.func221, Tryz.ntmps221
  go_wp2
  go_ret
  exact ⟨rfl, rfl⟩

theorem info5 : Tryz.prog.info? 5 = some Tryz.t5 := by kernel_rfl

/-- The letters of the six bytes. -/
def letters : ByteArray := ⟨#[109, 122, 120, 119, 54, 121, 116, 98, 111, 105]⟩

set_option maxRecDepth 100000 in
set_option maxHeartbeats 4000000 in
theorem bytes_ten (s : ByteArray) (hn : s.size = 10) (e0 : (s[0]'(by omega)).toNat = 109) (e1 : (s[1]'(by omega)).toNat = 122) (e2 : (s[2]'(by omega)).toNat = 120) (e3 : (s[3]'(by omega)).toNat = 119) (e4 : (s[4]'(by omega)).toNat = 54) (e5 : (s[5]'(by omega)).toNat = 121) (e6 : (s[6]'(by omega)).toNat = 116) (e7 : (s[7]'(by omega)).toNat = 98) (e8 : (s[8]'(by omega)).toNat = 111) (e9 : (s[9]'(by omega)).toNat = 105) (w : World) : Calls Tryz.prog 135 #[.string s] w (BytesRet w.heap.size [102, 111, 111, 98, 97, 114] w) := by
  have q0 : bits BinOp.or IntKind.u32 0 12 = 12 := by kernel_rfl
  have q1 : bits BinOp.or IntKind.u32 384 25 = 409 := by kernel_rfl
  have q2 : bits BinOp.or IntKind.u32 13088 23 = 13111 := by kernel_rfl
  have q3 : bits BinOp.or IntKind.u32 419552 22 = 419574 := by kernel_rfl
  have q4 : bits BinOp.or IntKind.u32 13426368 30 = 13426398 := by kernel_rfl
  have q5 : bits BinOp.or IntKind.u32 429644736 24 = 429644760 := by kernel_rfl
  have q6 : bits BinOp.or IntKind.u32 863730432 19 = 863730451 := by kernel_rfl
  have q7 : bits BinOp.or IntKind.u32 1869570656 1 = 1869570657 := by kernel_rfl
  have q8 : bits BinOp.or IntKind.u32 3991686176 14 = 3991686190 := by kernel_rfl
  have q9 : bits BinOp.or IntKind.u32 3179906496 8 = 3179906504 := by kernel_rfl
  go_enter Tryz.func135, Tryz.ntmps135
  go_wp2
  go_step3
  go_wp2
  refine wp_loop_rounds 11 ?_
  rw [rounds_succ]
  go_wp2_with (go_at_call 221; refine (worth_lower 109 (by decide) (by decide) _).mono ?_; rintro e w' ⟨rfl, rfl⟩)
  rw [rounds_succ]
  go_wp2_with (first | (go_at_call 221; refine (worth_lower 122 (by decide) (by decide) _).mono ?_; rintro e w' ⟨rfl, rfl⟩) | (at_builtin; refine wpList_append_own _ rfl _ _ 90 rfl w.heap.size 5 Tryz.t5 _ 1 1 Tryz.underlying90 info5 rfl rfl rfl rfl (by decide) _ 0 [] rfl (World.ownsRow_nil _ _ _ _) ⟨w.heap.size, 0, none⟩ 1 1 [.int .u8 102] rfl rfl ?a1 ?b1 ?c1 ?d1 ?e1 ?_))
  case a1 => intro j u hu; match j, hu with | 0, hu => cases hu; rw [Addr.add_lit]; simp
  case b1 => intro u hu; simp at hu; subst hu; rfl
  case c1 => decide
  case d1 => decide
  case e1 => simp
  intro v1 w1 hown hgrow _
  have hb := (((Below.refl _ _).alloc (Nat.le_refl _) (.cells #[.int .u8 102] 5)).grown hgrow (by simp) (fun k hk => by simp [Value.ownBlock] at hk))
  have HB1 := Lib.hid hb; clear hb
  have HO1 := Lib.hid hown; clear hown hgrow
  obtain ⟨p1, cap1, rfl⟩ := ownsRow_slice HO1.out
  go_wp2
  rw [rounds_succ]
  go_wp2_with (go_at_call 221; refine (worth_lower 120 (by decide) (by decide) _).mono ?_; rintro e w' ⟨rfl, rfl⟩)
  rw [rounds_succ]
  go_wp2_with (first | (go_at_call 221; refine (worth_lower 119 (by decide) (by decide) _).mono ?_; rintro e w' ⟨rfl, rfl⟩) | (at_builtin; refine wpList_append_own _ rfl _ _ 90 rfl w.heap.size 5 Tryz.t5 _ 1 1 Tryz.underlying90 info5 rfl rfl rfl rfl (by decide) _ 1 _ rfl (HO1.out.alloc _) ⟨w1.heap.size, 0, none⟩ 1 1 [.int .u8 111] rfl rfl ?a2 ?b2 ?c2 ?d2 ?e2 ?_))
  case a2 => intro j u hu; match j, hu with | 0, hu => cases hu; rw [Addr.add_lit]; simp
  case b2 => intro u hu; simp at hu; subst hu; rfl
  case c2 => decide
  case d2 => decide
  case e2 => have := HB1.out.size; simp; omega
  intro v2 w2 hown hgrow _
  have hb := ((HB1.out.alloc HB1.out.size (.cells #[.int .u8 111] 5)).grown hgrow (by have := HB1.out.size; simp; omega) (fun k hk => (HO1.out.lt k hk).1))
  have HB2 := Lib.hid hb; clear hb
  have HO2 := Lib.hid hown; clear hown hgrow
  obtain ⟨p2, cap2, rfl⟩ := ownsRow_slice HO2.out
  go_wp2
  rw [rounds_succ]
  go_wp2_with (first | (go_at_call 221; refine (worth_digit 54 (by decide) (by decide) _).mono ?_; rintro e w' ⟨rfl, rfl⟩) | (at_builtin; refine wpList_append_own _ rfl _ _ 90 rfl w.heap.size 5 Tryz.t5 _ 1 1 Tryz.underlying90 info5 rfl rfl rfl rfl (by decide) _ 2 _ rfl (HO2.out.alloc _) ⟨w2.heap.size, 0, none⟩ 1 1 [.int .u8 111] rfl rfl ?a3 ?b3 ?c3 ?d3 ?e3 ?_))
  case a3 => intro j u hu; match j, hu with | 0, hu => cases hu; rw [Addr.add_lit]; simp
  case b3 => intro u hu; simp at hu; subst hu; rfl
  case c3 => decide
  case d3 => decide
  case e3 => have := HB2.out.size; simp; omega
  intro v3 w3 hown hgrow _
  have hb := ((HB2.out.alloc HB2.out.size (.cells #[.int .u8 111] 5)).grown hgrow (by have := HB2.out.size; simp; omega) (fun k hk => (HO2.out.lt k hk).1))
  have HB3 := Lib.hid hb; clear hb
  have HO3 := Lib.hid hown; clear hown hgrow
  obtain ⟨p3, cap3, rfl⟩ := ownsRow_slice HO3.out
  go_wp2
  rw [rounds_succ]
  go_wp2_with (go_at_call 221; refine (worth_lower 121 (by decide) (by decide) _).mono ?_; rintro e w' ⟨rfl, rfl⟩)
  rw [rounds_succ]
  go_wp2_with (first | (go_at_call 221; refine (worth_lower 116 (by decide) (by decide) _).mono ?_; rintro e w' ⟨rfl, rfl⟩) | (at_builtin; refine wpList_append_own _ rfl _ _ 90 rfl w.heap.size 5 Tryz.t5 _ 1 1 Tryz.underlying90 info5 rfl rfl rfl rfl (by decide) _ 3 _ rfl (HO3.out.alloc _) ⟨w3.heap.size, 0, none⟩ 1 1 [.int .u8 98] rfl rfl ?a4 ?b4 ?c4 ?d4 ?e4 ?_))
  case a4 => intro j u hu; match j, hu with | 0, hu => cases hu; rw [Addr.add_lit]; simp
  case b4 => intro u hu; simp at hu; subst hu; rfl
  case c4 => decide
  case d4 => decide
  case e4 => have := HB3.out.size; simp; omega
  intro v4 w4 hown hgrow _
  have hb := ((HB3.out.alloc HB3.out.size (.cells #[.int .u8 98] 5)).grown hgrow (by have := HB3.out.size; simp; omega) (fun k hk => (HO3.out.lt k hk).1))
  have HB4 := Lib.hid hb; clear hb
  have HO4 := Lib.hid hown; clear hown hgrow
  obtain ⟨p4, cap4, rfl⟩ := ownsRow_slice HO4.out
  go_wp2
  rw [rounds_succ]
  go_wp2_with (first | (go_at_call 221; refine (worth_lower 98 (by decide) (by decide) _).mono ?_; rintro e w' ⟨rfl, rfl⟩) | (at_builtin; refine wpList_append_own _ rfl _ _ 90 rfl w.heap.size 5 Tryz.t5 _ 1 1 Tryz.underlying90 info5 rfl rfl rfl rfl (by decide) _ 4 _ rfl (HO4.out.alloc _) ⟨w4.heap.size, 0, none⟩ 1 1 [.int .u8 97] rfl rfl ?a5 ?b5 ?c5 ?d5 ?e5 ?_))
  case a5 => intro j u hu; match j, hu with | 0, hu => cases hu; rw [Addr.add_lit]; simp
  case b5 => intro u hu; simp at hu; subst hu; rfl
  case c5 => decide
  case d5 => decide
  case e5 => have := HB4.out.size; simp; omega
  intro v5 w5 hown hgrow _
  have hb := ((HB4.out.alloc HB4.out.size (.cells #[.int .u8 97] 5)).grown hgrow (by have := HB4.out.size; simp; omega) (fun k hk => (HO4.out.lt k hk).1))
  have HB5 := Lib.hid hb; clear hb
  have HO5 := Lib.hid hown; clear hown hgrow
  obtain ⟨p5, cap5, rfl⟩ := ownsRow_slice HO5.out
  go_wp2
  rw [rounds_succ]
  go_wp2_with (go_at_call 221; refine (worth_lower 111 (by decide) (by decide) _).mono ?_; rintro e w' ⟨rfl, rfl⟩)
  rw [rounds_succ]
  go_wp2_with (first | (go_at_call 221; refine (worth_lower 105 (by decide) (by decide) _).mono ?_; rintro e w' ⟨rfl, rfl⟩) | (at_builtin; refine wpList_append_own _ rfl _ _ 90 rfl w.heap.size 5 Tryz.t5 _ 1 1 Tryz.underlying90 info5 rfl rfl rfl rfl (by decide) _ 5 _ rfl (HO5.out.alloc _) ⟨w5.heap.size, 0, none⟩ 1 1 [.int .u8 114] rfl rfl ?a6 ?b6 ?c6 ?d6 ?e6 ?_))
  case a6 => intro j u hu; match j, hu with | 0, hu => cases hu; rw [Addr.add_lit]; simp
  case b6 => intro u hu; simp at hu; subst hu; rfl
  case c6 => decide
  case d6 => decide
  case e6 => have := HB5.out.size; simp; omega
  intro v6 w6 hown hgrow _
  have hb := ((HB5.out.alloc HB5.out.size (.cells #[.int .u8 114] 5)).grown hgrow (by have := HB5.out.size; simp; omega) (fun k hk => (HO5.out.lt k hk).1))
  have HB6 := Lib.hid hb; clear hb
  have HO6 := Lib.hid hown; clear hown hgrow
  obtain ⟨p6, cap6, rfl⟩ := ownsRow_slice HO6.out
  go_wp2
  rw [rounds_succ]
  go_wp2
  rw [Exit.noGoto_ret]
  go_ret3
  exact ⟨_, rfl, HO6.out, HB6.out⟩

theorem bytes_letters (w : World) : Calls Tryz.prog 135 #[.string letters] w (BytesRet w.heap.size [102, 111, 111, 98, 97, 114] w) :=
  bytes_ten letters rfl rfl rfl rfl rfl rfl rfl rfl rfl rfl rfl w
end Go.Proofs.Sh
