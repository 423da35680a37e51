/- A line that fails (function 9), its walk. Over the whole program of the cut; no condition beyond those that each theorem names. -/
import Derived.Test.YtkoipiolcnielaaGreatDoorShLa
namespace Go.Proofs.Sh
open Go.RowKit

/-- errors.errorType holds the handle of the type error. -/
def ErrType (w : World) : Prop := w.cell? ⟨0, 0, none⟩ = some (.iface 102 (.agg #[.pointer (some ⟨9, 45, none⟩)]))
theorem ErrType.pos {w : World} (h : ErrType w) : 0 < w.heap.size := World.block_lt_of_cell? _ _ h
theorem ErrType.ne {w : World} (h : ErrType w) {s m : Nat} {es : List MapEntry} {ks : List ByteArray} (ha : At s m es ks w) : 0 ≠ m := by
  rintro rfl
  have h1 : w.cell? ⟨0, 0, none⟩ = _ := h
  simp [World.cell?, ha.map] at h1
theorem ErrType.keep {w w' : World} {m : Nat} (h : ErrType w) (hm : 0 ≠ m) (hk : Keep m w w') : ErrType w' := by
  unfold ErrType; rw [hk.cell (p := ⟨0, 0, none⟩) h.pos hm]; exact h
theorem ErrType.below {w w' : World} {B : Nat} (h : ErrType w) (hb : Below B w w') (hB : 0 < B) : ErrType w' := by
  unfold ErrType; rw [hb.cell (p := ⟨0, 0, none⟩) hB]; exact h

theorem as_errno (e : Int) (w : World) (hg : ErrType w) :
    Calls Tryz.prog 19 #[.iface 27 (.int .i64 e), .iface 49 (.pointer (some ⟨w.heap.size, 0, none⟩))] (w.alloc (.cells #[.int .i64 0] 27)) fun ev w' =>
      ev = .returned (.bool true) ∧ w'.cell? ⟨w.heap.size, 0, none⟩ = some (.int .i64 e) ∧ Below w.heap.size w w' := by
  have hg' : ErrType (w.alloc (.cells #[.int .i64 0] 27)) := hg.below (B := w.heap.size) ((Below.refl _ _).alloc (Nat.le_refl _) _) hg.pos
  refine (as_hit e ⟨w.heap.size, 0, none⟩ (.int .i64 0) _ hg' (by simp) (by simp)).mono ?_
  rintro ev w' ⟨rfl, rfl⟩
  refine ⟨rfl, ?_, ?_⟩
  · refine World.cell?_setCell_same _ _ _ (u := .int .i64 0) ?_
    iterate 4 rw [World.cell?_alloc_lt _ _ _ (by simp <;> omega)]
    simp
  · exact (((((((Below.refl w.heap.size w).alloc (Nat.le_refl _) _).alloc (by simp) _).alloc (by simp; omega) _).alloc (by simp; omega) _).alloc (by simp; omega) _).setCell (by simp) _)

set_option maxRecDepth 100000 in
set_option maxHeartbeats 4000000 in
theorem line_err (s m : Nat) (es : List MapEntry) (ks : List ByteArray) (line : ByteArray) (ws : List ByteArray) (n : Nat) (v : ByteArray) (R : Value → World → Prop) (w : World) (ha : At s m es ks w) (hg : ErrType w) (c : Int)
    (hl : LineOf line ws n v) (hn : n ≤ 100) (hn1n : n ≠ 1)
    (hd : ∀ W, Below w.heap.size w W → (∀ k u, ws[k]? = some u → W.cell? ⟨w.heap.size, k, none⟩ = some (.string u)) →
      Calls Tryz.prog 18 #[.pointer (some ⟨s, 0, none⟩), .string v, .slice (some ⟨w.heap.size, 1, none⟩) (n - 1) (n - 1)] W fun e w' => ∃ out, e = .returned (.tuple #[out, .iface 27 (.int .i64 c)]) ∧ R out w' ∧ Keep m W w') :
    Calls Tryz.prog 9 #[.pointer (some ⟨s, 0, none⟩), .string line] w fun e w' => ∃ out w1, e = .returned (.tuple #[.slice none 0 0, .int .i64 c]) ∧ R out w1 ∧ Keep m w w1 ∧ Below w1.heap.size w1 w' := by
  have HA := Lib.hid ha
  have HD := Lib.hid hd; clear hd
  have HL := Lib.hid hl
  have hs := ha.shell
  have hml : m < w.heap.size := (Array.getElem?_eq_some_iff.1 ha.map).1
  have hsl : s < w.heap.size := World.block_lt_of_cell? _ _ hs
  have hf := hl.first
  have hh := hl.nohash hf
  have hn1 : 1 ≤ n := by have := hl.count; omega
  have HG := Lib.hid hg
  have hm0 := hg.ne ha
  clear ha hl hg
  have hW1 : ∀ k u, ws[k]? = some u → (w.alloc (.cells (ws.map Value.string).toArray 9)).cell? ⟨w.heap.size, k, none⟩ = some (.string u) := fun k u hk => by
    simp only [World.cell?, heap_alloc_new]
    simp [hk]
  have hB1 : Below w.heap.size w (w.alloc (.cells (ws.map Value.string).toArray 9)) := (Below.refl _ _).alloc (Nat.le_refl _) _
  have hs1 : (w.alloc (.cells (ws.map Value.string).toArray 9)).heap.size = w.heap.size + 1 := by simp
  have H15 : ∀ W : World, (∀ k u, ws[k]? = some u → W.cell? ⟨w.heap.size, k, none⟩ = some (.string u)) →
      Calls Tryz.prog 15 #[.slice (some ⟨w.heap.size, 0, none⟩) n n, .func (.func 17) #[] #[]] W fun e w' => e = .returned (.slice (some ⟨w.heap.size, 0, none⟩) n n) ∧ W = w' := fun W hW => by
    have h := delete_none ws w.heap.size n W (by rw [HL.out.len]; exact Nat.le_trans hn (by decide)) (fun k hk => hW k _ (by rw [List.getD_eq_getElem?_getD, List.getElem?_eq_getElem hk]; rfl)) HL.out.words
    rw [HL.out.len] at h
    exact h
  have H15' := Lib.hid H15; clear H15
  have hc0 := hW1 0 v HL.out.head
  have HW1 := Lib.hid hW1; clear hW1
  have HB1 := Lib.hid hB1; clear hB1
  have q0 : ((n : Int) == 0) = false := beq_eq_false_iff_ne.2 (by omega)
  have q35 : ((v[0].toNat : Int) == 35) = false := beq_eq_false_iff_ne.2 (by omega)
  go_enter Tryz.func9, Tryz.ntmps9
  go_wp2_with (first
    | (go_at_call 13; refine (made_yes s m _ hs).mono ?_; rintro e w' ⟨rfl, hw⟩; subst hw)
    | (go_at_call 14; refine (contains_no line 10 HL.out.noNl _).mono ?_; rintro e w' ⟨rfl, hw⟩; rw [hw])
    | (go_at_call 16; refine (split_words line ws n HL.out.size HL.out.count HL.out.split _).mono ?_; rintro e w' ⟨rfl, hw⟩; rw [hw])
    | (go_at_call 15; refine (H15'.out _ HW1.out).mono ?_; rintro e w' ⟨rfl, hw⟩; subst hw))
  generalize w.alloc (.cells (ws.map Value.string).toArray 9) = W1 at *
  have hsl1 : m < W1.heap.size := by omega
  have hk0 : ∀ w3 : World, Keep m W1.drew w3 → w3.cell? ⟨w.heap.size, 0, none⟩ = some (.string v) := fun w3 hk => by
    rw [hk.cell (p := ⟨w.heap.size, 0, none⟩) (by show w.heap.size < W1.heap.size; omega) (by show w.heap.size ≠ m; omega)]; exact hc0
  have mx := mixed
  have hn1' : (1 : Int) ≤ (n : Int) := by omega
  have hn0' : (0 : Int) < (n : Int) := by omega
  have hn0 : 0 < n := by omega
  go_region_held3 (fun w' => w'.cell? ⟨w.heap.size, 0, none⟩ = some (.string v)) (first | assumption | go_keep)
    (first
      | (go_at_call 18; refine (HD.out _ HB1.out.drew fun k u hk => HW1.out k u hk).mono ?_; rintro e w3 ⟨out, rfl, hr, hk⟩; have hS := hk0 _ hk; have HR := Lib.hid hr; have HK := Lib.hid hk; clear hr hk))
  have hg3 : ErrType w3 := (HG.out.below HB1.out (by have := HG.out.pos; omega)).keep hm0 (((Keep.refl m W1).drew).trans HK.out)
  go_wp2_with fail
  refine (as_errno c w3 hg3).mono ?_
  rintro e w4 ⟨rfl, hc4, hb4⟩
  have HB4 := Lib.hid hb4; clear hb4
  go_wp2_with fail
  refine wp_draw_all mixed (by kernel_rfl) fun W hW => ?_
  have e4 : W.cell? ⟨w3.heap.size, 0, none⟩ = some (.int .i64 c) := by rw [hW.cell]; exact hc4
  have HBW := Lib.hid (HB4.out.trans (hW.below _)); clear hW hc4
  repeat still_step
  refine wpStill_nil ?_
  go_wp2
  go_ret2
  exact ⟨out, w3, rfl, HR.out, ((Keep.of_below HB1.out).drew).trans HK.out, HBW.out⟩

set_option maxRecDepth 100000 in
set_option maxHeartbeats 4000000 in
theorem line_err1 (s m : Nat) (es : List MapEntry) (ks : List ByteArray) (line : ByteArray) (ws : List ByteArray) (v : ByteArray) (R : Value → World → Prop) (w : World) (ha : At s m es ks w) (hg : ErrType w) (c : Int)
    (hl : LineOf line ws 1 v) 
    (hd : ∀ W, Below w.heap.size w W → (∀ k u, ws[k]? = some u → W.cell? ⟨w.heap.size, k, none⟩ = some (.string u)) →
      Calls Tryz.prog 18 #[.pointer (some ⟨s, 0, none⟩), .string v, .slice (some ⟨w.heap.size, 0, none⟩) 0 0] W fun e w' => ∃ out, e = .returned (.tuple #[out, .iface 27 (.int .i64 c)]) ∧ R out w' ∧ Keep m W w') :
    Calls Tryz.prog 9 #[.pointer (some ⟨s, 0, none⟩), .string line] w fun e w' => ∃ out w1, e = .returned (.tuple #[.slice none 0 0, .int .i64 c]) ∧ R out w1 ∧ Keep m w w1 ∧ Below w1.heap.size w1 w' := by
  have HA := Lib.hid ha
  have HD := Lib.hid hd; clear hd
  have HL := Lib.hid hl
  have hs := ha.shell
  have hml : m < w.heap.size := (Array.getElem?_eq_some_iff.1 ha.map).1
  have hsl : s < w.heap.size := World.block_lt_of_cell? _ _ hs
  have hf := hl.first
  have hh := hl.nohash hf
  have HG := Lib.hid hg
  have hm0 := hg.ne ha
  clear ha hl hg
  have hW1 : ∀ k u, ws[k]? = some u → (w.alloc (.cells (ws.map Value.string).toArray 9)).cell? ⟨w.heap.size, k, none⟩ = some (.string u) := fun k u hk => by
    simp only [World.cell?, heap_alloc_new]
    simp [hk]
  have hB1 : Below w.heap.size w (w.alloc (.cells (ws.map Value.string).toArray 9)) := (Below.refl _ _).alloc (Nat.le_refl _) _
  have hs1 : (w.alloc (.cells (ws.map Value.string).toArray 9)).heap.size = w.heap.size + 1 := by simp
  have H15 : ∀ W : World, (∀ k u, ws[k]? = some u → W.cell? ⟨w.heap.size, k, none⟩ = some (.string u)) →
      Calls Tryz.prog 15 #[.slice (some ⟨w.heap.size, 0, none⟩) 1 1, .func (.func 17) #[] #[]] W fun e w' => e = .returned (.slice (some ⟨w.heap.size, 0, none⟩) 1 1) ∧ W = w' := fun W hW => by
    have h := delete_none ws w.heap.size 1 W (by rw [HL.out.len]; decide) (fun k hk => hW k _ (by rw [List.getD_eq_getElem?_getD, List.getElem?_eq_getElem hk]; rfl)) HL.out.words
    rw [HL.out.len] at h
    exact h
  have H15' := Lib.hid H15; clear H15
  have hc0 := hW1 0 v HL.out.head
  have HW1 := Lib.hid hW1; clear hW1
  have HB1 := Lib.hid hB1; clear hB1
  have q35 : ((v[0].toNat : Int) == 35) = false := beq_eq_false_iff_ne.2 (by omega)
  go_enter Tryz.func9, Tryz.ntmps9
  go_wp2_with (first
    | (go_at_call 13; refine (made_yes s m _ hs).mono ?_; rintro e w' ⟨rfl, hw⟩; subst hw)
    | (go_at_call 14; refine (contains_no line 10 HL.out.noNl _).mono ?_; rintro e w' ⟨rfl, hw⟩; rw [hw])
    | (go_at_call 16; refine (split_words line ws 1 HL.out.size HL.out.count HL.out.split _).mono ?_; rintro e w' ⟨rfl, hw⟩; rw [hw])
    | (go_at_call 15; refine (H15'.out _ HW1.out).mono ?_; rintro e w' ⟨rfl, hw⟩; subst hw))
  generalize w.alloc (.cells (ws.map Value.string).toArray 9) = W1 at *
  have hsl1 : m < W1.heap.size := by omega
  have hk0 : ∀ w3 : World, Keep m W1.drew w3 → w3.cell? ⟨w.heap.size, 0, none⟩ = some (.string v) := fun w3 hk => by
    rw [hk.cell (p := ⟨w.heap.size, 0, none⟩) (by show w.heap.size < W1.heap.size; omega) (by show w.heap.size ≠ m; omega)]; exact hc0
  have mx := mixed
  go_region_held3 (fun w' => w'.cell? ⟨w.heap.size, 0, none⟩ = some (.string v)) (first | assumption | go_keep)
    (first
      | (go_at_call 18; refine (HD.out _ HB1.out.drew fun k u hk => HW1.out k u hk).mono ?_; rintro e w3 ⟨out, rfl, hr, hk⟩; have hS := hk0 _ hk; have HR := Lib.hid hr; have HK := Lib.hid hk; clear hr hk))
  have hg3 : ErrType w3 := (HG.out.below HB1.out (by have := HG.out.pos; omega)).keep hm0 (((Keep.refl m W1).drew).trans HK.out)
  go_wp2_with fail
  refine (as_errno c w3 hg3).mono ?_
  rintro e w4 ⟨rfl, hc4, hb4⟩
  have HB4 := Lib.hid hb4; clear hb4
  go_wp2_with fail
  refine wp_draw_all mixed (by kernel_rfl) fun W hW => ?_
  have e4 : W.cell? ⟨w3.heap.size, 0, none⟩ = some (.int .i64 c) := by rw [hW.cell]; exact hc4
  have HBW := Lib.hid (HB4.out.trans (hW.below _)); clear hW hc4
  repeat still_step
  refine wpStill_nil ?_
  go_wp2
  go_ret2
  exact ⟨out, w3, rfl, HR.out, ((Keep.of_below HB1.out).drew).trans HK.out, HBW.out⟩
end Go.Proofs.Sh
