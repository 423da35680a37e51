/- A line that goes well (function 9), its walk. Over the whole program of the cut; no condition beyond those that each theorem names. -/
import Derived.Test.YtkoipiolcnielaaGreatDoorShZ
import Derived.Test.YtkoipiolcnielaaGreatDoorShV
import Derived.Test.YtkoipiolcnielaaGreatDoorShB
namespace Go.Proofs.Sh
open Go.RowKit

/-- A line of words, one blank between two of them. -/
structure LineOf (s : ByteArray) (ws : List ByteArray) (n : Nat) (v : ByteArray) : Prop where
  size : s.size < 1000
  noNl : Lib.indexByte s.data.toList 10 = -1
  count : Lib.countB s ⟨#[32]⟩ + 1 = n
  split : Lib.splitB ⟨#[32]⟩ 0 (Lib.countB s ⟨#[32]⟩) s = ws
  len : ws.length = n
  words : ∀ k, k < ws.length → (ws.getD k ByteArray.empty).toList.isEmpty = false
  head : ws[0]? = some v
  first : 0 < v.size
  nohash : ∀ h : 0 < v.size, v[0].toNat ≠ 35

set_option maxRecDepth 100000 in
set_option maxHeartbeats 4000000 in
theorem line_ok (s m : Nat) (es : List MapEntry) (ks : List ByteArray) (line : ByteArray) (ws : List ByteArray) (n : Nat) (v : ByteArray) (R : Value → World → Prop) (w : World) (ha : At s m es ks w)
    (hl : LineOf line ws n v) (hn : n ≤ 100) (hn1n : n ≠ 1)
    (hd : ∀ W, Below w.heap.size w W → (∀ k u, ws[k]? = some u → W.cell? ⟨w.heap.size, k, none⟩ = some (.string u)) →
      Calls Tryz.prog 18 #[.pointer (some ⟨s, 0, none⟩), .string v, .slice (some ⟨w.heap.size, 1, none⟩) (n - 1) (n - 1)] W fun e w' => ∃ out, e = .returned (.tuple #[out, .nilIface]) ∧ R out w' ∧ Keep m W w') :
    Calls Tryz.prog 9 #[.pointer (some ⟨s, 0, none⟩), .string line] w fun e w' => ∃ out w1, e = .returned (.tuple #[out, .int .i64 0]) ∧ R out w1 ∧ Keep m w w1 ∧ Below w1.heap.size w1 w' := by
  have HA := Lib.hid ha
  have HD := Lib.hid hd; clear hd
  have HL := Lib.hid hl
  have hs := ha.shell
  have hml : m < w.heap.size := (Array.getElem?_eq_some_iff.1 ha.map).1
  have hsl : s < w.heap.size := World.block_lt_of_cell? _ _ hs
  have hf := hl.first
  have hh := hl.nohash hf
  have hn1 : 1 ≤ n := by have := hl.count; omega
  clear ha hl
  have hW1 : ∀ k u, ws[k]? = some u → (w.alloc (.cells (ws.map Value.string).toArray 9)).cell? ⟨w.heap.size, k, none⟩ = some (.string u) := fun k u hk => by
    simp only [World.cell?, heap_alloc_new]
    simp [hk]
  have hB1 : Below w.heap.size w (w.alloc (.cells (ws.map Value.string).toArray 9)) := (Below.refl _ _).alloc (Nat.le_refl _) _
  have hs1 : (w.alloc (.cells (ws.map Value.string).toArray 9)).heap.size = w.heap.size + 1 := by simp
  have H15 : ∀ W : World, (∀ k u, ws[k]? = some u → W.cell? ⟨w.heap.size, k, none⟩ = some (.string u)) →
      Calls Tryz.prog 15 #[.slice (some ⟨w.heap.size, 0, none⟩) n n, .func (.func 17) #[] #[]] W fun e w' => e = .returned (.slice (some ⟨w.heap.size, 0, none⟩) n n) ∧ W = w' := fun W hW => by
    have h := delete_none ws w.heap.size n W (by rw [HL.out.len]; exact Nat.le_trans hn (by decide)) (fun k hk => hW k _ (by rw [List.getD_eq_getElem?_getD, List.getElem?_eq_getElem hk]; rfl)) HL.out.words
    rw [HL.out.len] at h
    exact h
  have H15' := Lib.hid H15; clear H15
  have hc0 := hW1 0 v HL.out.head
  have HW1 := Lib.hid hW1; clear hW1
  have HB1 := Lib.hid hB1; clear hB1
  have q0 : ((n : Int) == 0) = false := beq_eq_false_iff_ne.2 (by omega)
  have q35 : ((v[0].toNat : Int) == 35) = false := beq_eq_false_iff_ne.2 (by omega)
  go_enter Tryz.func9, Tryz.ntmps9
  go_wp2_with (first
    | (go_at_call 13; refine (made_yes s m _ hs).mono ?_; rintro e w' ⟨rfl, hw⟩; subst hw)
    | (go_at_call 14; refine (contains_no line 10 HL.out.noNl _).mono ?_; rintro e w' ⟨rfl, hw⟩; rw [hw])
    | (go_at_call 16; refine (split_words line ws n HL.out.size HL.out.count HL.out.split _).mono ?_; rintro e w' ⟨rfl, hw⟩; rw [hw])
    | (go_at_call 15; refine (H15'.out _ HW1.out).mono ?_; rintro e w' ⟨rfl, hw⟩; subst hw))
  generalize w.alloc (.cells (ws.map Value.string).toArray 9) = W1 at *
  have hsl1 : m < W1.heap.size := by omega
  have hk0 : ∀ w3 : World, Keep m W1.drew w3 → w3.cell? ⟨w.heap.size, 0, none⟩ = some (.string v) := fun w3 hk => by
    rw [hk.cell (p := ⟨w.heap.size, 0, none⟩) (by show w.heap.size < W1.heap.size; omega) (by show w.heap.size ≠ m; omega)]; exact hc0
  have mx := mixed
  have hn1' : (1 : Int) ≤ (n : Int) := by omega
  have hn0' : (0 : Int) < (n : Int) := by omega
  have hn0 : 0 < n := by omega
  go_region_held3 (fun w' => w'.cell? ⟨w.heap.size, 0, none⟩ = some (.string v)) (first | assumption | go_keep)
    (first
      | (go_at_call 18; refine (HD.out _ HB1.out.drew fun k u hk => HW1.out k u hk).mono ?_; rintro e w3 ⟨out, rfl, hr, hk⟩; have hS := hk0 _ hk; have HR := Lib.hid hr; have HK := Lib.hid hk; clear hr hk))
  go_wp2_with (first
    | (go_at_call 19; refine (as_nil _ _).mono ?_; rintro e w' ⟨rfl, hw⟩; rw [hw]))
  go_ret2
  exact ⟨out, w3, rfl, HR.out, ((Keep.of_below HB1.out).drew).trans HK.out, (Below.refl _ _).alloc (Nat.le_refl _) _⟩
end Go.Proofs.Sh
