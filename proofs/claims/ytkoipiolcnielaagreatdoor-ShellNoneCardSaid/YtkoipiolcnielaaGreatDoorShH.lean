/- One name of the shell (function 69), its walk. Over the whole program of the cut; no condition beyond those that each theorem names. -/
import Derived.Test.YtkoipiolcnielaaGreatDoorShE
import Derived.StillTailTactics
import Derived.RegionTactic
import Derived.BigRegion
namespace Go.Proofs.Sh
open Go.RowKit

/-- 'wp_region_still_tail', the draw spelt as the walk spells it. -/
theorem wp_region_tail {P : Program} {id : Nat} {Q : Exit → Act → World → Prop} {a : Act} {w : World} {l : List Oper} (n : Nat) (hm : P.follows .mixedOrders = true) (hB : Region.lexTailB .any l.toArray n = true)
    (h : wpStill P l.toArray w.drew (fun a' => wpList P l.toArray Q (l.drop n) a' w.drew) (l.take n) a) : (Code.region id l.toArray true).wp P Q a w :=
  wp_region_still_tail n hm hB h
theorem wp_region_all {P : Program} {id : Nat} {Q : Exit → Act → World → Prop} {a : Act} {w : World} {l : List Oper} (hm : P.follows .mixedOrders = true) (hB : Region.lexB .any l.toArray = true)
    (h : wpStill P l.toArray w.drew (fun a' => Q .normal a' w.drew) l a) : (Code.region id l.toArray true).wp P Q a w :=
  wp_region_still_lit hm hB h

theorem mixed : Tryz.prog.follows .mixedOrders = true := by kernel_rfl

set_option maxRecDepth 100000 in
set_option maxHeartbeats 1000000 in
/-- A word that is a name. -/
theorem one_name (k : Int) (hk : 1 ≤ k) (hk2 : k ≤ 6) (s : ByteArray) (w : World)
    (hn : ∀ w : World, Calls Tryz.prog 138 #[.string s] w fun e w' => e = .returned (.bool true) ∧ w = w') :
    Calls Tryz.prog 69 #[.int .u8 k, .string s] w fun e w' => e = .returned (.tuple #[.agg #[.int .u8 k, .string s, .slice none 0 0, .int .i64 0], .bool true]) ∧ Below w.heap.size w w' := by
  have HN := Lib.hid hn; clear hn
  have n7 : (k == 7) = false := beq_eq_false_iff_ne.2 (by omega)
  have n8 : (k == 8) = false := beq_eq_false_iff_ne.2 (by omega)
  have n9 : (k == 9) = false := beq_eq_false_iff_ne.2 (by omega)
  have n10 : (k == 10) = false := beq_eq_false_iff_ne.2 (by omega)
  have n11 : (k == 11) = false := beq_eq_false_iff_ne.2 (by omega)
  have n12 : (k == 12) = false := beq_eq_false_iff_ne.2 (by omega)
  have n13 : (k == 13) = false := beq_eq_false_iff_ne.2 (by omega)
  have n14 : (k == 14) = false := beq_eq_false_iff_ne.2 (by omega)
  go_enter Tryz.func69, Tryz.ntmps69
  go_wp2_with fail
  refine wp_region_tail 3 mixed (by kernel_rfl) ?_
  simp only [List.take_succ_cons, List.take_zero, List.drop_succ_cons, List.drop_zero]
  still_step
  still_step
  still_call ((HN.out _).mono fun e w' ⟨h1, h2⟩ => ⟨h1, h2.symm⟩)
  refine wpStill_nil ?_
  go_wp2
  refine bodyPost_ret (v := .tuple #[.agg #[.int .u8 k, .string s, .slice none 0 0, .int .i64 0], .bool true]) (by simp [results, Tryz.results69, go_sem]) rfl ⟨rfl, ?_⟩
  exact (((Below.refl _ _).alloc (Nat.le_refl _) _).alloc (by simp) _).drew

theorem ownsRow_base {w : World} {B B' : Nat} {t : TypeId} {n m : Nat} {v : Value} {xs : List Value} (h : w.ownsRow B t m v n xs) (hB : B' ≤ B) : w.ownsRow B' t m v n xs := by
  obtain ⟨h1, h2⟩ := h
  refine ⟨h1, ?_⟩
  rcases h2 with h2 | ⟨g, cap, cur, hv, hg, r⟩
  · exact .inl h2
  · exact .inr ⟨g, cap, cur, hv, Nat.le_trans hB hg, r⟩

theorem bcell {W w1 : World} (hb : Below W.heap.size W w1) : (∀ b o, b < W.heap.size → w1.cell? ⟨b, o, none⟩ = W.cell? ⟨b, o, none⟩) ∧ (∀ b o, b < W.heap.size → w1.frozen? ⟨b, o, none⟩ = W.frozen? ⟨b, o, none⟩) :=
  ⟨fun b o h => hb.cell (p := ⟨b, o, none⟩) h, fun b o h => hb.frozen (p := ⟨b, o, none⟩) h⟩

/-- What base.Bytes hands back where all is well: bytes in new memory. -/
def BytesRet (B : Nat) (bs : List Int) (W : World) (e : Ending) (w' : World) : Prop :=
  ∃ v, e = .returned (.tuple #[v, .int .i64 0, .int .i64 0]) ∧ w'.ownsRow B 5 1 v bs.length (bs.map (Value.int .u8)) ∧ Below B W w'

/-- What (want).one hands back for a code. -/
def CodeRet (B : Nat) (s : ByteArray) (bs : List Int) (W : World) (e : Ending) (w' : World) : Prop :=
  ∃ v, e = .returned (.tuple #[.agg #[.int .u8 11, .string s, v, .int .i64 0], .bool true]) ∧ w'.ownsRow B 5 1 v bs.length (bs.map (Value.int .u8)) ∧ Below B W w'

theorem ownsRow_shape {w : World} {B : Nat} {t : TypeId} {n : Nat} {v : Value} {xs : List Value} (h : w.ownsRow B t 1 v n xs) (h1 : 1 ≤ n) : ∃ g cap, v = .slice (some ⟨g, 0, none⟩) n cap ∧ B ≤ g := by
  rcases h.2 with ⟨_, h0⟩ | ⟨g, cap, cur, hv, hg, _⟩
  · omega
  · exact ⟨g, cap, hv, hg⟩

set_option maxRecDepth 100000 in
set_option maxHeartbeats 2000000 in
theorem one_code (s : ByteArray) (bs : List Int) (w : World) (hs : (s.toList == [45]) = false) (h1 : 1 ≤ bs.length)
    (hb : ∀ w : World, Calls Tryz.prog 135 #[.string s] w (BytesRet w.heap.size bs w)) :
    Calls Tryz.prog 69 #[.int .u8 11, .string s] w (CodeRet w.heap.size s bs w) := by
  have HB := Lib.hid hb; clear hb
  generalize hn : bs.length = n at *
  have HN := Lib.hid hn; clear hn
  go_enter Tryz.func69, Tryz.ntmps69
  go_wp2_with fail
  refine (HB.out _).mono ?_
  rintro e w1 ⟨v, rfl, hown, hbel⟩
  rw [HN.out] at hown
  obtain ⟨g, cap, rfl, hg⟩ := ownsRow_shape hown h1
  have hc := bcell hbel
  have hz : w.heap.size + 1 < w1.heap.size := by have := hbel.size; simp at this; omega
  simp only [World.size_alloc] at hg
  have HO := Lib.hid hown
  clear hown
  have HL := Lib.hid hbel
  clear hbel
  go_wp2
  have hd : decide (0 < n) = true := by simp; omega
  go_region
  go_wp2
  have c0 : w1.cell? ⟨w.heap.size, 0, none⟩ = some (.int .u8 0) := by rw [hc.1 _ _ (by simp; omega)]; simp
  have c1 : w1.cell? ⟨w.heap.size, 1, none⟩ = some (.string ⟨#[]⟩) := by rw [hc.1 _ _ (by simp; omega)]; simp
  have c2 : w1.cell? ⟨w.heap.size, 2, none⟩ = some (.slice none 0 0) := by rw [hc.1 _ _ (by simp; omega)]; simp
  have c3 : w1.cell? ⟨w.heap.size, 3, none⟩ = some (.int .i64 0) := by rw [hc.1 _ _ (by simp; omega)]; simp
  refine bodyPost_ret (v := .tuple #[.agg #[.int .u8 11, .string s, .slice (some ⟨g, 0, none⟩) n cap, .int .i64 0], .bool true]) (by simp [results, Tryz.results69, go_sem, c0, c1, c2, c3]) rfl ⟨_, rfl, ?_, ?_⟩
  · rw [HN.out]
    have h := HO.out
    simp only [World.size_alloc] at h
    refine ownsRow_base (B := w.heap.size + 1 + 1) ?_ (by omega)
    refine World.ownsRow.drew ?_
    repeat (refine ownsRow_setCell_below ?_ (by show _ < _; simp <;> omega) _)
    exact h
  · have h := HL.out
    exact ((((((((Below.refl _ _).alloc (Nat.le_refl _) _).alloc (by simp) _).trans (h.mono (by simp; omega))).setCell (by simp) _).setCell (by simp) _).setCell (by simp) _).setCell (by simp) _).setCell (by simp) _ |>.drew
end Go.Proofs.Sh
