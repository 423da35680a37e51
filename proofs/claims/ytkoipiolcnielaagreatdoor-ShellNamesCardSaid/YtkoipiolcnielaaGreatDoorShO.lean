/- Six bytes as letters (function 178), the walk. Over the whole program of the cut; no condition beyond those that each theorem names. -/
import Derived.Test.YtkoipiolcnielaaGreatDoorShN
namespace Go.Proofs.Sh
open Go.RowKit

theorem allocArr (w : World) : (Instr.alloc 144 true (.tuple #[])).run Tryz.prog w = .ok (.pointer (some ⟨w.heap.size, 0, none⟩)) (w.alloc (.cells (Array.replicate 32 (.int .u8 0)) 144)) := by kernel_rfl

/-- The letters of the alphabet, in a block. -/
def AlphaAt (b : Nat) (w : World) : Prop := w.heap[b]? = some (.cells alpha 144)
theorem AlphaAt.cell {b : Nat} {w : World} (h : AlphaAt b w) (i : Nat) : w.cell? ⟨b, i, none⟩ = alpha[i]? := by
  simp only [World.cell?, show w.heap[b]? = _ from h, Option.isSome_none, Bool.false_eq_true, if_false]
theorem AlphaAt.below {b B : Nat} {w w' : World} (h : AlphaAt b w) (hb : Below B w w') (hB : b < B) : AlphaAt b w' := by
  unfold AlphaAt; rw [hb.block _ hB]; exact h
def SixAt (g : Nat) (w : World) : Prop := ∀ (j : Nat) (x : Int), [(102 : Int), 111, 111, 98, 97, 114][j]? = some x → w.cell? ⟨g, j, none⟩ = some (.int .u8 x)
theorem SixAt.below {g B : Nat} {w w' : World} (h : SixAt g w) (hb : Below B w w') (hB : g < B) : SixAt g w' := fun j x hx => by
  rw [hb.cell hB]; exact h j x hx

def LetRet (W : World) (e : Ending) (w' : World) : Prop := e = .returned (.string letters) ∧ Below W.heap.size W w'

set_option maxRecDepth 100000 in
set_option maxHeartbeats 8000000 in
theorem letters_six (g cap : Nat) (w : World) (h6 : SixAt g w) : Calls Tryz.prog 178 #[.slice (some ⟨g, 0, none⟩) 6 cap] w (LetRet w) := by
  have hgl : g < w.heap.size := World.block_lt_of_cell? _ _ (h6 0 102 rfl)
  have H6 := Lib.hid h6; clear h6
  have qand12 : bits BinOp.and IntKind.u32 12 31 = 12 := by kernel_rfl
  have qand409 : bits BinOp.and IntKind.u32 409 31 = 25 := by kernel_rfl
  have qand13111 : bits BinOp.and IntKind.u32 13111 31 = 23 := by kernel_rfl
  have qand419574 : bits BinOp.and IntKind.u32 419574 31 = 22 := by kernel_rfl
  have qand13426398 : bits BinOp.and IntKind.u32 13426398 31 = 30 := by kernel_rfl
  have qand58424083 : bits BinOp.and IntKind.u32 58424083 31 = 19 := by kernel_rfl
  have qand233589806 : bits BinOp.and IntKind.u32 233589806 31 = 14 := by kernel_rfl
  have qand429644760 : bits BinOp.and IntKind.u32 429644760 31 = 24 := by kernel_rfl
  have qand1869570657 : bits BinOp.and IntKind.u32 1869570657 31 = 1 := by kernel_rfl
  have qand3179906504 : bits BinOp.and IntKind.u32 3179906504 31 = 8 := by kernel_rfl
  have qor0 : bits BinOp.or IntKind.u32 0 102 = 102 := by kernel_rfl
  have qor26112 : bits BinOp.or IntKind.u32 26112 111 = 26223 := by kernel_rfl
  have qor6713088 : bits BinOp.or IntKind.u32 6713088 111 = 6713199 := by kernel_rfl
  have qor1718578944 : bits BinOp.or IntKind.u32 1718578944 98 = 1718579042 := by kernel_rfl
  have qor1868718336 : bits BinOp.or IntKind.u32 1868718336 114 = 1868718450 := by kernel_rfl
  have qor1869570560 : bits BinOp.or IntKind.u32 1869570560 97 = 1869570657 := by kernel_rfl
  go_enter Tryz.func178, Tryz.ntmps178
  go_upto_region 1 with (fail)
  refine wp_region_lit ?_
  refine st_call (f := 262) (args := #[]) (w' := w) rfl (by simp only [execOp, Act.eval, resolve, Deferred.ofValue, invoke, List.map_toArray, List.map_nil, Sem.run_bind, Result.andThen]; exact Tryz.call262 _ _) (alphabet_any w) ?_
  rintro e w1 ⟨rfl, hb1⟩
  refine ⟨_, rfl, ?_⟩
  refine st_value rfl (by simp only [execOp, Sem.run_bind, allocArr, Result.andThen]; rfl) ?_
  have h0 : (w1.alloc (.cells (Array.replicate 32 (.int .u8 0)) 144)).heap[w1.heap.size]? = some (.cells (Array.replicate 32 (.int .u8 0)) 144) := heap_alloc_new _ _
  have hb2 : Below w.heap.size w (w1.alloc (.cells (Array.replicate 32 (.int .u8 0)) 144)) := hb1.alloc hb1.size _
  have hs2 : (w1.alloc (.cells (Array.replicate 32 (.int .u8 0)) 144)).heap.size = w1.heap.size + 1 := by simp
  have hA1 : w.heap.size ≤ w1.heap.size := hb1.size
  generalize hA : w1.heap.size = A at *
  generalize w1.alloc (.cells (Array.replicate 32 (.int .u8 0)) 144) = w2 at *
  refine wpList_store_row rfl 144 _ _ rfl A alpha rfl rfl 144 _ h0 (by kernel_rfl) rfl (by kernel_rfl) ?_
  have h3 : AlphaAt A (w2.setRow A alpha) := setRow_heap w2 A _ alpha 144 (0, 0) h0
  have hb3 : Below w.heap.size w (w2.setRow A alpha) := below_setRow hb2 hA1 _
  have hs3 : A < (w2.setRow A alpha).heap.size := by simp; omega
  generalize w2.setRow A alpha = W at *
  have HB0 := Lib.hid hb3
  have HA0 := Lib.hid h3
  have HS0 := Lib.hid (H6.out.below hb3 hgl)
  have hgW : g < W.heap.size := Nat.lt_of_lt_of_le hgl hb3.size
  clear hb1 h0 hb2 hs2 h3 hb3 hA w1 w2
  refine wpList_nil ?_
  have c0 := HS0.out 0 102 rfl
  go_wp2
  refine wp_loop_rounds 7 ?_
  rw [rounds_succ]
  go_wp2
  refine wp_loop_rounds 2 ?_
  have ca := HA0.out.cell 12
  simp only [show alpha[12]? = some (Value.int .u8 109) from rfl] at ca
  rw [rounds_succ]
  go_wp2_with ((at_builtin; refine wpList_append_own _ rfl _ _ 90 rfl W.heap.size 5 Tryz.t5 _ 1 1 Tryz.underlying90 info5 rfl rfl rfl rfl (by decide) _ 0 [] rfl (World.ownsRow_nil _ _ _ _) ⟨W.heap.size, 0, none⟩ 1 1 [.int .u8 109] rfl rfl ?a1 ?b1 ?c1 ?d1 ?e1 ?_))
  case a1 => intro j u hu; match j, hu with | 0, hu => cases hu; rw [Addr.add_lit]; simp
  case b1 => intro u hu; simp at hu; subst hu; rfl
  case c1 => decide
  case d1 => decide
  case e1 => simp
  intro v1 w1 hown hgrow _
  have hb := (((Below.refl W.heap.size W).alloc (Nat.le_refl _) (.cells #[.int .u8 109] 5)).grown hgrow (by simp) (fun k hk => by simp [Value.ownBlock] at hk))
  have HB1 := Lib.hid hb; clear hb
  have HO1 := Lib.hid hown; clear hown hgrow
  obtain ⟨p1, cap1, rfl⟩ := ownsRow_slice HO1.out
  clear ca
  go_wp2
  rw [rounds_succ]
  go_wp2
  clear c0
  have c0 := (HS0.out.below HB1.out hgW) 1 111 rfl
  rw [rounds_succ]
  go_wp2
  refine wp_loop_rounds 3 ?_
  have ca := (HA0.out.below HB1.out hs3).cell 25
  simp only [show alpha[25]? = some (Value.int .u8 122) from rfl] at ca
  rw [rounds_succ]
  go_wp2_with ((at_builtin; refine wpList_append_own _ rfl _ _ 90 rfl W.heap.size 5 Tryz.t5 _ 1 1 Tryz.underlying90 info5 rfl rfl rfl rfl (by decide) _ 1 _ rfl (HO1.out.alloc _) ⟨w1.heap.size, 0, none⟩ 1 1 [.int .u8 122] rfl rfl ?a2 ?b2 ?c2 ?d2 ?e2 ?_))
  case a2 => intro j u hu; match j, hu with | 0, hu => cases hu; rw [Addr.add_lit]; simp
  case b2 => intro u hu; simp at hu; subst hu; rfl
  case c2 => decide
  case d2 => decide
  case e2 => have := HB1.out.size; simp; omega
  intro v2 w2 hown hgrow _
  have hb := ((HB1.out.alloc HB1.out.size (.cells #[.int .u8 122] 5)).grown hgrow (by have := HB1.out.size; simp; omega) (fun k hk => (HO1.out.lt k hk).1))
  have HB2 := Lib.hid hb; clear hb
  have HO2 := Lib.hid hown; clear hown hgrow
  obtain ⟨p2, cap2, rfl⟩ := ownsRow_slice HO2.out
  clear ca
  go_wp2
  have ca := (HA0.out.below HB2.out hs3).cell 23
  simp only [show alpha[23]? = some (Value.int .u8 120) from rfl] at ca
  rw [rounds_succ]
  go_wp2_with ((at_builtin; refine wpList_append_own _ rfl _ _ 90 rfl W.heap.size 5 Tryz.t5 _ 1 1 Tryz.underlying90 info5 rfl rfl rfl rfl (by decide) _ 2 _ rfl (HO2.out.alloc _) ⟨w2.heap.size, 0, none⟩ 1 1 [.int .u8 120] rfl rfl ?a3 ?b3 ?c3 ?d3 ?e3 ?_))
  case a3 => intro j u hu; match j, hu with | 0, hu => cases hu; rw [Addr.add_lit]; simp
  case b3 => intro u hu; simp at hu; subst hu; rfl
  case c3 => decide
  case d3 => decide
  case e3 => have := HB2.out.size; simp; omega
  intro v3 w3 hown hgrow _
  have hb := ((HB2.out.alloc HB2.out.size (.cells #[.int .u8 120] 5)).grown hgrow (by have := HB2.out.size; simp; omega) (fun k hk => (HO2.out.lt k hk).1))
  have HB3 := Lib.hid hb; clear hb
  have HO3 := Lib.hid hown; clear hown hgrow
  obtain ⟨p3, cap3, rfl⟩ := ownsRow_slice HO3.out
  clear ca
  go_wp2
  rw [rounds_succ]
  go_wp2
  clear c0
  have c0 := (HS0.out.below HB3.out hgW) 2 111 rfl
  rw [rounds_succ]
  go_wp2
  refine wp_loop_rounds 2 ?_
  have ca := (HA0.out.below HB3.out hs3).cell 22
  simp only [show alpha[22]? = some (Value.int .u8 119) from rfl] at ca
  rw [rounds_succ]
  go_wp2_with ((at_builtin; refine wpList_append_own _ rfl _ _ 90 rfl W.heap.size 5 Tryz.t5 _ 1 1 Tryz.underlying90 info5 rfl rfl rfl rfl (by decide) _ 3 _ rfl (HO3.out.alloc _) ⟨w3.heap.size, 0, none⟩ 1 1 [.int .u8 119] rfl rfl ?a4 ?b4 ?c4 ?d4 ?e4 ?_))
  case a4 => intro j u hu; match j, hu with | 0, hu => cases hu; rw [Addr.add_lit]; simp
  case b4 => intro u hu; simp at hu; subst hu; rfl
  case c4 => decide
  case d4 => decide
  case e4 => have := HB3.out.size; simp; omega
  intro v4 w4 hown hgrow _
  have hb := ((HB3.out.alloc HB3.out.size (.cells #[.int .u8 119] 5)).grown hgrow (by have := HB3.out.size; simp; omega) (fun k hk => (HO3.out.lt k hk).1))
  have HB4 := Lib.hid hb; clear hb
  have HO4 := Lib.hid hown; clear hown hgrow
  obtain ⟨p4, cap4, rfl⟩ := ownsRow_slice HO4.out
  clear ca
  go_wp2
  rw [rounds_succ]
  go_wp2
  clear c0
  have c0 := (HS0.out.below HB4.out hgW) 3 98 rfl
  rw [rounds_succ]
  go_wp2
  refine wp_loop_rounds 3 ?_
  have ca := (HA0.out.below HB4.out hs3).cell 30
  simp only [show alpha[30]? = some (Value.int .u8 54) from rfl] at ca
  rw [rounds_succ]
  go_wp2_with ((at_builtin; refine wpList_append_own _ rfl _ _ 90 rfl W.heap.size 5 Tryz.t5 _ 1 1 Tryz.underlying90 info5 rfl rfl rfl rfl (by decide) _ 4 _ rfl (HO4.out.alloc _) ⟨w4.heap.size, 0, none⟩ 1 1 [.int .u8 54] rfl rfl ?a5 ?b5 ?c5 ?d5 ?e5 ?_))
  case a5 => intro j u hu; match j, hu with | 0, hu => cases hu; rw [Addr.add_lit]; simp
  case b5 => intro u hu; simp at hu; subst hu; rfl
  case c5 => decide
  case d5 => decide
  case e5 => have := HB4.out.size; simp; omega
  intro v5 w5 hown hgrow _
  have hb := ((HB4.out.alloc HB4.out.size (.cells #[.int .u8 54] 5)).grown hgrow (by have := HB4.out.size; simp; omega) (fun k hk => (HO4.out.lt k hk).1))
  have HB5 := Lib.hid hb; clear hb
  have HO5 := Lib.hid hown; clear hown hgrow
  obtain ⟨p5, cap5, rfl⟩ := ownsRow_slice HO5.out
  clear ca
  go_wp2
  have ca := (HA0.out.below HB5.out hs3).cell 24
  simp only [show alpha[24]? = some (Value.int .u8 121) from rfl] at ca
  rw [rounds_succ]
  go_wp2_with ((at_builtin; refine wpList_append_own _ rfl _ _ 90 rfl W.heap.size 5 Tryz.t5 _ 1 1 Tryz.underlying90 info5 rfl rfl rfl rfl (by decide) _ 5 _ rfl (HO5.out.alloc _) ⟨w5.heap.size, 0, none⟩ 1 1 [.int .u8 121] rfl rfl ?a6 ?b6 ?c6 ?d6 ?e6 ?_))
  case a6 => intro j u hu; match j, hu with | 0, hu => cases hu; rw [Addr.add_lit]; simp
  case b6 => intro u hu; simp at hu; subst hu; rfl
  case c6 => decide
  case d6 => decide
  case e6 => have := HB5.out.size; simp; omega
  intro v6 w6 hown hgrow _
  have hb := ((HB5.out.alloc HB5.out.size (.cells #[.int .u8 121] 5)).grown hgrow (by have := HB5.out.size; simp; omega) (fun k hk => (HO5.out.lt k hk).1))
  have HB6 := Lib.hid hb; clear hb
  have HO6 := Lib.hid hown; clear hown hgrow
  obtain ⟨p6, cap6, rfl⟩ := ownsRow_slice HO6.out
  clear ca
  go_wp2
  rw [rounds_succ]
  go_wp2
  clear c0
  have c0 := (HS0.out.below HB6.out hgW) 4 97 rfl
  rw [rounds_succ]
  go_wp2
  refine wp_loop_rounds 3 ?_
  have ca := (HA0.out.below HB6.out hs3).cell 19
  simp only [show alpha[19]? = some (Value.int .u8 116) from rfl] at ca
  rw [rounds_succ]
  go_wp2_with ((at_builtin; refine wpList_append_own _ rfl _ _ 90 rfl W.heap.size 5 Tryz.t5 _ 1 1 Tryz.underlying90 info5 rfl rfl rfl rfl (by decide) _ 6 _ rfl (HO6.out.alloc _) ⟨w6.heap.size, 0, none⟩ 1 1 [.int .u8 116] rfl rfl ?a7 ?b7 ?c7 ?d7 ?e7 ?_))
  case a7 => intro j u hu; match j, hu with | 0, hu => cases hu; rw [Addr.add_lit]; simp
  case b7 => intro u hu; simp at hu; subst hu; rfl
  case c7 => decide
  case d7 => decide
  case e7 => have := HB6.out.size; simp; omega
  intro v7 w7 hown hgrow _
  have hb := ((HB6.out.alloc HB6.out.size (.cells #[.int .u8 116] 5)).grown hgrow (by have := HB6.out.size; simp; omega) (fun k hk => (HO6.out.lt k hk).1))
  have HB7 := Lib.hid hb; clear hb
  have HO7 := Lib.hid hown; clear hown hgrow
  obtain ⟨p7, cap7, rfl⟩ := ownsRow_slice HO7.out
  clear ca
  go_wp2
  have ca := (HA0.out.below HB7.out hs3).cell 1
  simp only [show alpha[1]? = some (Value.int .u8 98) from rfl] at ca
  rw [rounds_succ]
  go_wp2_with ((at_builtin; refine wpList_append_own _ rfl _ _ 90 rfl W.heap.size 5 Tryz.t5 _ 1 1 Tryz.underlying90 info5 rfl rfl rfl rfl (by decide) _ 7 _ rfl (HO7.out.alloc _) ⟨w7.heap.size, 0, none⟩ 1 1 [.int .u8 98] rfl rfl ?a8 ?b8 ?c8 ?d8 ?e8 ?_))
  case a8 => intro j u hu; match j, hu with | 0, hu => cases hu; rw [Addr.add_lit]; simp
  case b8 => intro u hu; simp at hu; subst hu; rfl
  case c8 => decide
  case d8 => decide
  case e8 => have := HB7.out.size; simp; omega
  intro v8 w8 hown hgrow _
  have hb := ((HB7.out.alloc HB7.out.size (.cells #[.int .u8 98] 5)).grown hgrow (by have := HB7.out.size; simp; omega) (fun k hk => (HO7.out.lt k hk).1))
  have HB8 := Lib.hid hb; clear hb
  have HO8 := Lib.hid hown; clear hown hgrow
  obtain ⟨p8, cap8, rfl⟩ := ownsRow_slice HO8.out
  clear ca
  go_wp2
  rw [rounds_succ]
  go_wp2
  clear c0
  have c0 := (HS0.out.below HB8.out hgW) 5 114 rfl
  rw [rounds_succ]
  go_wp2
  refine wp_loop_rounds 2 ?_
  have ca := (HA0.out.below HB8.out hs3).cell 14
  simp only [show alpha[14]? = some (Value.int .u8 111) from rfl] at ca
  rw [rounds_succ]
  go_wp2_with ((at_builtin; refine wpList_append_own _ rfl _ _ 90 rfl W.heap.size 5 Tryz.t5 _ 1 1 Tryz.underlying90 info5 rfl rfl rfl rfl (by decide) _ 8 _ rfl (HO8.out.alloc _) ⟨w8.heap.size, 0, none⟩ 1 1 [.int .u8 111] rfl rfl ?a9 ?b9 ?c9 ?d9 ?e9 ?_))
  case a9 => intro j u hu; match j, hu with | 0, hu => cases hu; rw [Addr.add_lit]; simp
  case b9 => intro u hu; simp at hu; subst hu; rfl
  case c9 => decide
  case d9 => decide
  case e9 => have := HB8.out.size; simp; omega
  intro v9 w9 hown hgrow _
  have hb := ((HB8.out.alloc HB8.out.size (.cells #[.int .u8 111] 5)).grown hgrow (by have := HB8.out.size; simp; omega) (fun k hk => (HO8.out.lt k hk).1))
  have HB9 := Lib.hid hb; clear hb
  have HO9 := Lib.hid hown; clear hown hgrow
  obtain ⟨p9, cap9, rfl⟩ := ownsRow_slice HO9.out
  clear ca
  go_wp2
  rw [rounds_succ]
  go_wp2
  rw [rounds_succ]
  have ca := (HA0.out.below HB9.out hs3).cell 8
  simp only [show alpha[8]? = some (Value.int .u8 105) from rfl] at ca
  go_wp2_with ((at_builtin; refine wpList_append_own _ rfl _ _ 90 rfl W.heap.size 5 Tryz.t5 _ 1 1 Tryz.underlying90 info5 rfl rfl rfl rfl (by decide) _ 9 _ rfl (HO9.out.alloc _) ⟨w9.heap.size, 0, none⟩ 1 1 [.int .u8 105] rfl rfl ?a10 ?b10 ?c10 ?d10 ?e10 ?_))
  case a10 => intro j u hu; match j, hu with | 0, hu => cases hu; rw [Addr.add_lit]; simp
  case b10 => intro u hu; simp at hu; subst hu; rfl
  case c10 => decide
  case d10 => decide
  case e10 => have := HB9.out.size; simp; omega
  intro v10 w10 hown hgrow _
  have hb := ((HB9.out.alloc HB9.out.size (.cells #[.int .u8 105] 5)).grown hgrow (by have := HB9.out.size; simp; omega) (fun k hk => (HO9.out.lt k hk).1))
  have HB10 := Lib.hid hb; clear hb
  have HO10 := Lib.hid hown; clear hown hgrow
  obtain ⟨p10, cap10, rfl⟩ := ownsRow_slice HO10.out
  clear ca
  have hown := HO10.out
  obtain ⟨g2, c2, hv, hg2⟩ := ownsRow_shape hown (by decide)
  rw [hv] at hown ⊢
  have hcv : (convert 90 9 (.slice (some ⟨g2, 0, none⟩) 10 c2)).run Tryz.prog w10 = .ok (.string letters) w10 :=
    run_convert_bytes_back w10 90 9 5 ⟨g2, 0, none⟩ c2 letters.data.toList Tryz.underlying90 Tryz.underlying5 Tryz.underlying9 (fun j hj => by
      have h := hown.cells (g := g2) rfl j
      have hj2 : j < 10 := hj
      match j, hj2 with
      | 0, _ => exact h _ rfl
      | 1, _ => exact h _ rfl
      | 2, _ => exact h _ rfl
      | 3, _ => exact h _ rfl
      | 4, _ => exact h _ rfl
      | 5, _ => exact h _ rfl
      | 6, _ => exact h _ rfl
      | 7, _ => exact h _ rfl
      | 8, _ => exact h _ rfl
      | 9, _ => exact h _ rfl)
  clear hown hv
  go_wp2
  go_ret
  exact ⟨rfl, HB0.out.trans (HB10.out.mono HB0.out.size)⟩
end Go.Proofs.Sh
