/- Whether the shell lives (function 6), its walk. Over the whole program of the cut; no condition beyond those that each theorem names. -/
import Derived.Test.YtkoipiolcnielaaGreatDoorShLb
namespace Go.Proofs.Sh
open Go.RowKit

def aW : ByteArray := ⟨#[97]⟩
def frobW : ByteArray := ⟨#[102, 114, 111, 98]⟩
def fileLine : ByteArray := ⟨#[102, 105, 108, 101, 32, 97, 32, 109, 122, 120, 119, 54, 121, 116, 98, 111, 105]⟩
def showLine : ByteArray := ⟨#[115, 104, 111, 119, 32, 97]⟩

theorem words_all {ws : List ByteArray} (h : (ws.all fun x => !x.toList.isEmpty) = true) : ∀ k, k < ws.length → (ws.getD k ByteArray.empty).toList.isEmpty = false := fun k hk => by
  have := List.all_eq_true.1 h (ws[k]) (List.getElem_mem hk)
  rw [List.getD_eq_getElem?_getD, List.getElem?_eq_getElem hk]
  simpa using this

theorem line_file : LineOf fileLine [fileW, aW, letters] 3 fileW where
  size := by decide
  noNl := by kernel_rfl
  count := by kernel_rfl
  split := by kernel_rfl
  len := rfl
  words := words_all (by kernel_rfl)
  head := rfl
  first := by decide
  nohash := fun _ => show (102 : Nat) ≠ 35 by decide
theorem line_show : LineOf showLine [showW, aW] 2 showW where
  size := by decide
  noNl := by kernel_rfl
  count := by kernel_rfl
  split := by kernel_rfl
  len := rfl
  words := words_all (by kernel_rfl)
  head := rfl
  first := by decide
  nohash := fun _ => show (115 : Nat) ≠ 35 by decide
theorem line_frob : LineOf frobW [frobW] 1 frobW where
  size := by decide
  noNl := by kernel_rfl
  count := by kernel_rfl
  split := by kernel_rfl
  len := rfl
  words := words_all (by kernel_rfl)
  head := rfl
  first := by decide
  nohash := fun _ => show (102 : Nat) ≠ 35 by decide
theorem nm_a : Nm aW := ⟨by kernel_rfl, by decide, fun k h => by
  have : k = 0 := by have : k < 1 := h; omega
  subst this
  exact .inl ⟨show (97 : Nat) ≤ 97 by decide, show (97 : Nat) ≤ 122 by decide⟩⟩

/-- The file that stands under "a". -/
def aEntry (g cap : Nat) : MapEntry := MapEntry.mk (.string aW) (.iface 270 (.agg #[.slice (some ⟨g, 0, none⟩) 6 cap])) 0

theorem Below.keepTrans {B : Nat} {a b c : World} (h : Below B a b) (k : Below B b c) : Below B a c := h.trans k

set_option maxRecDepth 100000 in
set_option maxHeartbeats 4000000 in
theorem lives_any (w : World) (hg : ErrType w) : Calls Tryz.prog 6 #[] w fun e w' => e = .returned (.bool true) ∧ Below w.heap.size w w' := by
  have HG := Lib.hid hg; clear hg
  have hp := HG.out.pos
  go_enter Tryz.func6, Tryz.ntmps6
  go_wp2_with fail
  refine (new_any w).mono ?_
  rintro e w1 ⟨rfl, hc1, hf1, hm1, hb1⟩
  have HA1 := Lib.hid (At.mk (es := []) (ks := []) hc1 hf1 hm1 rfl)
  have HB1 := Lib.hid hb1
  have hs1 := World.block_lt_of_cell? _ _ hc1
  have hs1' : w.heap.size + 1 < w1.heap.size := hs1
  clear hc1 hf1 hm1 hb1 hs1
  go_wp2_with fail
  refine (line_ok (w.heap.size + 1) w.heap.size [] [] fileLine _ 3 fileW (fun out w' => ∃ r g cap, out = .slice (some ⟨r, 0, none⟩) 1 1 ∧ w.heap.size < r ∧ w.heap.size < g ∧ w'.cell? ⟨r, 0, none⟩ = some (.string bytes6) ∧ SixAt g w' ∧ At (w.heap.size + 1) w.heap.size [aEntry g cap] [aW] w') w1 HA1.out line_file (by decide) (by decide) ?_).mono ?_
  · intro W hbW hcW
    refine (does_file (w.heap.size + 1) w.heap.size [] [] aW w1.heap.size 2 W (HA1.out.below hbW) rfl (by decide) nm_a (hcW 1 _ rfl) (hcW 2 _ rfl)).mono ?_
    rintro e w' ⟨r, g, cap, hr, hg, rfl, hrc, h6, hat, hk⟩
    have := hbW.size
    exact ⟨_, rfl, ⟨r, g, cap, rfl, by omega, by omega, hrc, h6, hat⟩, hk⟩
  rintro e w3 ⟨out, w2, rfl, ⟨r, g, cap, rfl, hr, hg, hrc, h6, hat⟩, hk2, hb3⟩
  have hrl : r < w2.heap.size := World.block_lt_of_cell? _ _ hrc
  have hgl : g < w2.heap.size := World.block_lt_of_cell? _ _ (h6 0 102 rfl)
  have HB3 := Lib.hid ((hk2.below HB1.out (Nat.le_refl _) (by omega)).trans (hb3.mono (Nat.le_trans (by omega) hk2.size)))
  have hs3 : w1.heap.size ≤ w3.heap.size := Nat.le_trans hk2.size hb3.size
  have HA3 := Lib.hid (hat.below hb3)
  have HR3 := Lib.hid (show w3.cell? ⟨r, 0, none⟩ = _ from (hb3.cell hrl).trans hrc)
  have H63 := Lib.hid (h6.below hb3 hgl)
  have hrl3 := Nat.lt_of_lt_of_le hrl hb3.size
  have hgl3 := Nat.lt_of_lt_of_le hgl hb3.size
  clear hrc h6 hat hk2 hb3 hrl hgl w2
  go_wp2_with fail
  refine (line_ok (w.heap.size + 1) w.heap.size [aEntry g cap] [aW] showLine _ 2 showW (fun out w' => ∃ r, out = .slice (some ⟨r, 0, none⟩) 1 1 ∧ w'.cell? ⟨r, 0, none⟩ = some (.string letters) ∧ At (w.heap.size + 1) w.heap.size [aEntry g cap] [aW] w' ∧ w3.heap.size ≤ r) w3 HA3.out line_show (by decide) (by decide) ?_).mono ?_
  · intro W hbW hcW
    refine (does_show (w.heap.size + 1) w.heap.size [aEntry g cap] [aW] aW w3.heap.size 1 0 (aEntry g cap) g cap W (HA3.out.below hbW) (by kernel_rfl) rfl rfl (H63.out.below hbW hgl3) nm_a (hcW 1 _ rfl)).mono ?_
    rintro e w' ⟨r', hr', rfl, hrc, hb⟩
    exact ⟨_, rfl, ⟨r', rfl, hrc, HA3.out.below (hbW.trans (hb.mono hbW.size)), Nat.le_trans hbW.size hr'⟩, Keep.of_below hb⟩
  rintro e w5 ⟨out, w4, rfl, ⟨r2, rfl, hrc, hat, hr2⟩, hk4, hb5⟩
  have hrl2 : r2 < w4.heap.size := World.block_lt_of_cell? _ _ hrc
  have hs4 := hk4.size
  have HB5 := Lib.hid ((hk4.below HB3.out (Nat.le_refl _) (by omega)).trans (hb5.mono (by omega)))
  have HA5 := Lib.hid (hat.below hb5)
  have HR35 := Lib.hid (show w5.cell? ⟨r, 0, none⟩ = _ from (hb5.cell (p := ⟨r, 0, none⟩) (by show r < _; omega)).trans ((hk4.cell (p := ⟨r, 0, none⟩) hrl3 (by show r ≠ _; omega)).trans HR3.out))
  have HR5 := Lib.hid (show w5.cell? ⟨r2, 0, none⟩ = _ from (hb5.cell hrl2).trans hrc)
  have hs5 := hb5.size
  have hrl5 : r < w5.heap.size := by omega
  have hrl25 : r2 < w5.heap.size := by omega
  have hg5 : ErrType w5 := HG.out.below HB5.out hp
  have hm5 : w.heap.size < w5.heap.size := by omega
  clear hrc hat hk4 hb5 hs4 HA3 HR3 hrl2
  go_wp2_with fail
  refine (line_err1 (w.heap.size + 1) w.heap.size [aEntry g cap] [aW] frobW _ frobW (fun _ _ => True) w5 HA5.out hg5 320 line_frob ?_).mono ?_
  · intro W hbW hcW
    refine (does_none _ _ frobW _ W rfl (by kernel_rfl)).mono ?_
    rintro e w' ⟨rfl, hb⟩
    exact ⟨_, rfl, trivial, Keep.of_below hb⟩
  rintro e w7 ⟨out, w6, rfl, -, hk6, hb7⟩
  have hs6 := hk6.size
  have HB7 := Lib.hid ((hk6.below HB5.out (Nat.le_refl _) (by omega)).trans (hb7.mono (by omega)))
  have hR1 : w7.cell? ⟨r, 0, none⟩ = some (.string ⟨#[54, 32, 98, 121, 116, 101, 115]⟩) := (hb7.cell (p := ⟨r, 0, none⟩) (by show r < _; omega)).trans ((hk6.cell (p := ⟨r, 0, none⟩) hrl5 (by show r ≠ _; omega)).trans HR35.out)
  have hR2 : w7.cell? ⟨r2, 0, none⟩ = some (.string ⟨#[109, 122, 120, 119, 54, 121, 116, 98, 111, 105]⟩) := (hb7.cell (p := ⟨r2, 0, none⟩) (by show r2 < _; omega)).trans ((hk6.cell (p := ⟨r2, 0, none⟩) hrl25 (by show r2 ≠ _; omega)).trans HR5.out)
  clear hk6 hb7 hs6
  go_wp2
  go_ret
  exact ⟨rfl, HB7.out⟩
end Go.Proofs.Sh
