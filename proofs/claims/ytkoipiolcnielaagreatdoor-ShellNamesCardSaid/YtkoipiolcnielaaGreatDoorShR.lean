/- A file of six bytes (functions 88 and 43), the walks. Over the whole program of the cut; no condition beyond those that each theorem names. -/
import Derived.Test.YtkoipiolcnielaaGreatDoorShQ
import Derived.Deep.RegionHeld3
namespace Go.Proofs.Sh
open Go.RowKit

/-- What a command hands back: one line of words in new memory, and no error. -/
def SayRet (nm : ByteArray) (W : World) (e : Ending) (w' : World) (P : World → Prop) : Prop :=
  ∃ g, W.heap.size ≤ g ∧ e = .returned (.tuple #[.slice (some ⟨g, 0, none⟩) 1 1, .nilIface]) ∧ w'.cell? ⟨g, 0, none⟩ = some (.string nm) ∧ P w'

def bytes6 : ByteArray := ⟨#[54, 32, 98, 121, 116, 101, 115]⟩
theorem number6 (w : World) : Calls Tryz.prog 86 #[.int .i64 6] w fun e w' => e = .returned (.string ⟨#[54]⟩) ∧ w' = w := by
  have h := number 6 (by decide) w
  rw [show (⟨(Lib.decDigits 6).toArray⟩ : ByteArray) = ⟨#[54]⟩ from by kernel_rfl] at h
  exact h

theorem At.drew {s m : Nat} {es : List MapEntry} {ks : List ByteArray} {w : World} (h : At s m es ks w) : At s m es ks w.drew := ⟨h.shell, h.frozen, h.map, h.keys⟩
theorem At.alloc {s m : Nat} {es : List MapEntry} {ks : List ByteArray} {w : World} (h : At s m es ks w) (o : Obj) : At s m es ks (w.alloc o) := h.below ((Below.refl _ _).alloc (Nat.le_refl _) o)

set_option maxRecDepth 100000 in
set_option maxHeartbeats 2000000 in
theorem keepFile_six (s m : Nat) (es : List MapEntry) (ks : List ByteArray) (nm : ByteArray) (k q : Int) (p : Option Addr) (l cp : Nat) (g cap : Nat) (w : World) (ha : At s m es ks w)
    (hmiss : ks.findIdx? (· == nm) = none) :
    Calls Tryz.prog 88 #[.pointer (some ⟨s, 0, none⟩), .agg #[.int .u8 k, .string nm, .slice p l cp, .int .i64 q], .slice (some ⟨g, 0, none⟩) 6 cap] w
      fun e w' => SayRet bytes6 w e w' fun w' => At s m (es ++ [MapEntry.mk (.string nm) (.iface 270 (.agg #[.slice (some ⟨g, 0, none⟩) 6 cap])) es.length]) (ks ++ [nm]) w' ∧ Keep m w w' := by
  have HM := Lib.hid hmiss; clear hmiss
  have HA := Lib.hid (ha.alloc (.cells #[.int .u8 k, .string nm, .slice p l cp, .int .i64 q] 95))
  have hml : m < w.heap.size := (Array.getElem?_eq_some_iff.1 ha.map).1
  clear ha
  go_enter Tryz.func88, Tryz.ntmps88
  go_wp2
  have HB := Lib.hid ((Below.refl w.heap.size w).alloc (Nat.le_refl _) (.cells #[.int .u8 k, .string nm, .slice p l cp, .int .i64 q] 95))
  have c0 : (w.alloc (.cells #[.int .u8 k, .string nm, .slice p l cp, .int .i64 q] 95)).cell? ⟨w.heap.size, 0, none⟩ = some (.int .u8 k) := by simp
  have c1 : (w.alloc (.cells #[.int .u8 k, .string nm, .slice p l cp, .int .i64 q] 95)).cell? ⟨w.heap.size, 1, none⟩ = some (.string nm) := by simp
  have c2 : (w.alloc (.cells #[.int .u8 k, .string nm, .slice p l cp, .int .i64 q] 95)).cell? ⟨w.heap.size, 2, none⟩ = some (.slice p l cp) := by simp
  have c3 : (w.alloc (.cells #[.int .u8 k, .string nm, .slice p l cp, .int .i64 q] 95)).cell? ⟨w.heap.size, 3, none⟩ = some (.int .i64 q) := by simp
  have hsz : (w.alloc (.cells #[.int .u8 k, .string nm, .slice p l cp, .int .i64 q] 95)).heap.size = w.heap.size + 1 := by simp
  generalize w.alloc (.cells #[.int .u8 k, .string nm, .slice p l cp, .int .i64 q] 95) = W at *
  generalize hB : w.heap.size = B at *
  have hBW : B < W.heap.size := by omega
  have mx := mixed
  have hcat : ∀ W : World, (binOp .add 9 (.string ⟨#[54]⟩) (.string ⟨#[32, 98, 121, 116, 101, 115]⟩)).run Tryz.prog W = .ok (.string bytes6) W := fun W => by kernel_rfl
  have hcs : ∀ (j : Nat) (v : Value) (o : Obj) (w3 : World), W.cell? ⟨B, j, none⟩ = some v → Keep m (W.alloc o).drew w3 → w3.cell? ⟨B, j, none⟩ = some v := fun j v o w3 h hk => by
    rw [hk.cell (p := ⟨B, j, none⟩) (by show B < _; simp; omega) (by show B ≠ m; omega)]
    show (W.alloc o).cell? _ = _
    rw [World.cell?_alloc_lt _ _ _ hBW]; exact h
  have hrow : ∀ (w3 : World) (x : ByteArray), Keep m (W.alloc (.cells #[.string x] 9)).drew w3 → w3.cell? ⟨W.heap.size, 0, none⟩ = some (.string x) := fun w3 x hk => by
    rw [hk.cell (p := ⟨W.heap.size, 0, none⟩) (by show W.heap.size < _; simp) (by show W.heap.size ≠ m; omega)]
    show (W.alloc _).cell? _ = _
    simp
  go_region_held3 (fun w' => w'.cell? ⟨B, 0, none⟩ = some (.int .u8 k) ∧ w'.cell? ⟨B, 1, none⟩ = some (.string nm) ∧ w'.cell? ⟨B, 2, none⟩ = some (.slice p l cp) ∧ w'.cell? ⟨B, 3, none⟩ = some (.int .i64 q)) (first | assumption | go_keep)
    (first
      | (go_at_call 86; refine (number6 _).mono ?_; rintro e w' ⟨rfl, rfl⟩)
      | (go_at_call 85; refine (keep_new s m es ks nm k q p l cp 270 _ _ _ _ _ ((HA.out.alloc _).drew) HM.out).mono ?_; rintro e w3 ⟨rfl, hat, hk⟩; have hS := And.intro (hcs 0 _ _ _ c0 hk) (And.intro (hcs 1 _ _ _ c1 hk) (And.intro (hcs 2 _ _ _ c2 hk) (hcs 3 _ _ _ c3 hk))); have hR := hrow _ _ hk; have HAT := Lib.hid hat; have HK := Lib.hid hk; clear hat hk))
  go_wp2
  go_ret2
  refine ⟨B + 1, by omega, rfl, ?_, HAT.out, ?_⟩
  · rw [hsz] at hR; rw [hR]; rfl
  · exact (Keep.of_below (hB ▸ HB.out)).trans (((Keep.refl m W).alloc _).drew.trans HK.out)

set_option maxRecDepth 100000 in
set_option maxHeartbeats 2000000 in
theorem file_six (s m : Nat) (es : List MapEntry) (ks : List ByteArray) (nm : ByteArray) (k q : Int) (p : Option Addr) (l cp b cb : Nat) (g cap : Nat) (w : World) (ha : At s m es ks w)
    (hmiss : ks.findIdx? (· == nm) = none)
    (h0 : w.cell? ⟨b, 0, none⟩ = some (.int .u8 k)) (h1 : w.cell? ⟨b, 1, none⟩ = some (.string nm)) (h2 : w.cell? ⟨b, 2, none⟩ = some (.slice p l cp)) (h3 : w.cell? ⟨b, 3, none⟩ = some (.int .i64 q))
    (h6 : w.cell? ⟨b, 6, none⟩ = some (.slice (some ⟨g, 0, none⟩) 6 cap)) :
    Calls Tryz.prog 43 #[.pointer (some ⟨s, 0, none⟩), .slice (some ⟨b, 0, none⟩) 2 cb] w
      fun e w' => SayRet bytes6 w e w' fun w' => At s m (es ++ [MapEntry.mk (.string nm) (.iface 270 (.agg #[.slice (some ⟨g, 0, none⟩) 6 cap])) es.length]) (ks ++ [nm]) w' ∧ Keep m w w' := by
  have HM := Lib.hid hmiss; clear hmiss
  have HA := Lib.hid ha; clear ha
  go_enter Tryz.func43, Tryz.ntmps43
  go_wp2
  have hbl : b < w.heap.size := World.block_lt_of_cell? _ _ h0
  have hbm : b ≠ m := by rintro rfl; simp [World.cell?, HA.out.map] at h0
  have hcs : ∀ (j : Nat) (v : Value) (w3 : World), w.cell? ⟨b, j, none⟩ = some v → Keep m w.drew w3 → w3.cell? ⟨b, j, none⟩ = some v := fun j v w3 h hk => by
    rw [hk.cell (p := ⟨b, j, none⟩) hbl hbm]; exact h
  have mx := mixed
  go_region_held3 (fun w' => w'.cell? ⟨b, 0, none⟩ = some (.int .u8 k) ∧ w'.cell? ⟨b, 1, none⟩ = some (.string nm) ∧ w'.cell? ⟨b, 2, none⟩ = some (.slice p l cp) ∧ w'.cell? ⟨b, 3, none⟩ = some (.int .i64 q) ∧ w'.cell? ⟨b, 6, none⟩ = some (.slice (some ⟨g, 0, none⟩) 6 cap)) (first | assumption | go_keep)
    (first
      | (go_at_call 88; refine (keepFile_six s m es ks nm k q p l cp g cap _ HA.out.drew HM.out).mono ?_; rintro e w3 ⟨r, hr, rfl, hc, hat, hk⟩; have hS := And.intro (hcs 0 _ _ h0 hk) (And.intro (hcs 1 _ _ h1 hk) (And.intro (hcs 2 _ _ h2 hk) (And.intro (hcs 3 _ _ h3 hk) (hcs 6 _ _ h6 hk)))); have HC := Lib.hid hc; have HAT := Lib.hid hat; have HK := Lib.hid hk; clear hat hk hc))
  go_wp2
  go_ret2
  exact ⟨r, hr, rfl, HC.out, HAT.out, ((Keep.refl m w).drew).trans HK.out⟩
end Go.Proofs.Sh
