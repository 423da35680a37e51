/- The things and trees of a full shell (function 11), the walk. Over the whole program of the cut; no condition beyond those that each theorem names. -/
import Derived.Test.YtkoipiolcnielaaGreatDoorShLi
namespace Go.Proofs.Sh
open Go.RowKit

def ThingsRet (n : Nat) (w : World) (e : Ending) (w' : World) : Prop := ∃ p cap, e = .returned (.slice p n cap) ∧ Below w.heap.size w w'

theorem info61 : Tryz.prog.info? 61 = some Tryz.t61 := by kernel_rfl
theorem method_tree (v : Value) (w : World) : (Go.method 1165 222 (.agg #[v]) "strongroom/shell.kind").run Tryz.prog w = .ok (818, .agg #[v]) w := by kernel_rfl

theorem trees_lookup {s m k j : Nat} {w : World} (h : TreesAt s m k w) (hj : j < min k 64) : (Instr.lookup 35 (.map (some m)) (.string (nameAt j)) false).run Tryz.prog w = .ok tThing w := by
  obtain ⟨es, ha, hv, hbn⟩ := h
  have hlen : es.length = min k 64 := by rw [ha.len]; simp
  have hj' : j < es.length := by omega
  have hf : ((List.range (min k 64)).map nameAt).findIdx? (· == nameAt j) = some j := by
    rw [List.findIdx?_eq_some_iff_getElem]
    refine ⟨by simpa using hj, by simp [beq_self_ba], fun i hi => ?_⟩
    simp only [List.getElem_map, List.getElem_range, Bool.not_eq_true]
    exact beq_ne_ba (fun e => absurd (nameAt_inj (by omega) (by omega) e) (by omega))
  have := run_lookup_plain Tryz.underlying35 Tryz.underlying9 w m es _ _ ha.map ha.keys (nameAt j) j es[j] hf (List.getElem?_eq_getElem hj')
  rw [hv _ (List.getElem_mem hj')] at this
  exact this

set_option maxRecDepth 100000 in
set_option maxHeartbeats 4000000 in
theorem things_trees (s m k : Nat) (w : World) (h : TreesAt s m k w) : Calls Tryz.prog 11 #[.pointer (some ⟨s, 0, none⟩)] w (ThingsRet (min k 64) w) := by
  have hs : w.cell? ⟨s, 0, none⟩ = some (.map (some m)) := by obtain ⟨es, ha, _⟩ := h; exact ha.shell
  have hsl : s < w.heap.size := World.block_lt_of_cell? _ _ hs
  have H := Lib.hid h; clear h
  go_enter Tryz.func11, Tryz.ntmps11
  go_wp2_with fail
  refine (made_yes s m _ hs).mono ?_
  rintro e w' ⟨rfl, hw⟩
  subst hw
  go_wp2_with fail
  refine (keys_func m _).mono ?_
  rintro e w' ⟨rfl, hw⟩
  rw [hw]
  clear hw w'
  go_wp2_with fail
  refine (sorted_names H.out).mono ?_
  rintro e w2 ⟨v, names, rfl, hnl, hmem, hrow, hb⟩
  generalize hn : min k 64 = n at *
  have hn64 : n ≤ 64 := by omega
  have hT2 := Lib.hid (H.out.below hb)
  have hb2 := Lib.hid hb
  have hM := Lib.hid hmem
  have hNL := Lib.hid hnl
  have hR := Lib.hid hrow
  clear hb hmem hrow hnl
  obtain ⟨p, cap, rfl⟩ := ownsRow_slice hR.out
  go_wp2
  go_loopw [3, 16] (fun a i wr => ∃ j : Nat, j ≤ n ∧ i = .int .i64 j ∧ (∃ xs, wr.ownsRow w2.heap.size 61 2 a j xs) ∧ Below w2.heap.size w2 wr) (fun _ i _ => n - (intOf i).toNat)
  case atStart => exact ⟨0, Nat.zero_le _, rfl, ⟨[], World.ownsRow_nil _ _ _ _⟩, Below.refl _ _⟩
  case round =>
    obtain ⟨j, hj, rfl, ⟨xs, hown⟩, hbl⟩ := hrel
    have hrb : ∀ q : Nat, q < w2.heap.size → ∀ o, wr.cell? ⟨q, o, none⟩ = w2.cell? ⟨q, o, none⟩ := fun q hq o => hbl.cell (p := ⟨q, o, none⟩) hq
    have hbW : w.heap.size ≤ w2.heap.size := hb2.out.size
    have HBL := Lib.hid hbl
    have HO := Lib.hid hown
    by_cases hlt : j < n
    · obtain ⟨g, cap', hp⟩ := ownsRow_shapeM hR.out (by omega)
      cases hp
      have hgl := (hR.out.lt g rfl).2
      have hjl : j < names.length := by rw [hNL.out]; exact hlt
      obtain ⟨jj, hjj, hnm⟩ := hM.out (names[j]) (List.getElem_mem hjl)
      have hc : wr.cell? ⟨g, j, none⟩ = some (.string (nameAt jj)) := by
        rw [hrb g hgl, hR.out.cellAt j (by omega), List.getElem?_map, List.getElem?_eq_getElem hjl, hnm]; rfl
      have hTr : TreesAt s m k wr := hT2.out.below hbl
      have hl := trees_lookup hTr (show jj < min k 64 by omega)
      have hsr : wr.cell? ⟨s, 0, none⟩ = some (.map (some m)) := by rw [hrb s (by omega)]; rw [hb2.out.cell (p := ⟨s, 0, none⟩) hsl]; exact hs
      have hme := method_tree (.slice none 0 0)
      obtain ⟨pa, ca, rfl⟩ := ownsRow_slice hown
      have hj0 : (0 : Int) ≤ (j : Int) := by omega
      have hjn : (j : Int) < (n : Int) := by omega
      unfold tThing at hl
      clear hTr hrb hs hbl hown
      go_wp2_with fail
      refine (kind_tree _ _).mono ?_
      rintro e w3 ⟨rfl, hb3⟩
      have HO3 := Lib.hid (ownsRow_below HO.out hb3 fun q hq => (HO.out.lt q hq).2)
      have HB3 := Lib.hid (HBL.out.trans (hb3.mono HBL.out.size))
      have hs3 := HB3.out.size
      clear hb3
      go_wp2_with (at_builtin; refine wpList_append_own _ rfl _ _ 31 rfl w2.heap.size 61 Tryz.t61 _ 2 24 Tryz.underlying31 info61 rfl rfl rfl rfl (by decide) _ j xs rfl (HO3.out.alloc _) ⟨w3.heap.size, 0, none⟩ 1 1 [.string (nameAt jj), .int .u8 4] rfl rfl ?c2 ?c3 ?c4 ?c5 ?c6 ?_)
      case c2 =>
        intro i u hu
        match i, hu with
        | 0, hu => cases hu; rw [Addr.add_lit]; simp
        | 1, hu => cases hu; rw [Addr.add_lit]; simp
      case c3 => intro u hu; simp at hu; rcases hu with rfl | rfl <;> rfl
      case c4 => have : (65 : Nat) ≤ maxLen := by decide
                 omega
      case c5 => omega
      case c6 => simp; omega
      intro v1 w4 hown hgrow _
      have hb4 : Below w2.heap.size w2 w4 := (HB3.out.alloc hs3 (.cells #[.string (nameAt jj), .int .u8 4] 61)).grown hgrow (by simp; omega) (fun q hq => (HO3.out.lt q hq).1)
      have HO4 := Lib.hid hown
      have HB4 := Lib.hid hb4
      clear hown hgrow hb4
      go_wp2
      go_roundw
      case rel => exact ⟨j + 1, by omega, by go_num, ⟨_, HO4.out⟩, HB4.out⟩
      case measure => simp [intOf]; omega
    · obtain rfl : j = n := by omega
      obtain ⟨pa, ca, rfl⟩ := ownsRow_slice hown
      clear hbl hown hrb
      go_wp2
      go_ret
      exact ⟨pa, ca, rfl, hb2.out.trans (HBL.out.mono hbW)⟩
end Go.Proofs.Sh
