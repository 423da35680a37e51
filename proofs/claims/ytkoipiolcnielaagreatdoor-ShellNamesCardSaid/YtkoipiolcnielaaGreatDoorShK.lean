/- A thing of the shell (function 70), its walk. Over the whole program of the cut; no condition beyond those that each theorem names. -/
import Derived.Test.YtkoipiolcnielaaGreatDoorShJ
namespace Go.Proofs.Sh
open Go.RowKit

/-- A world that parts from another in draws alone. -/
structure Drew (w W : World) : Prop where
  heap : W.heap = w.heap
  os : W.os = w.os
  tape : W.tape = w.tape
  output : W.output = w.output
theorem Drew.cell {w W : World} (h : Drew w W) (a : Addr) : W.cell? a = w.cell? a := by simp [World.cell?, h.heap]
theorem Drew.frozen {w W : World} (h : Drew w W) (a : Addr) : W.frozen? a = w.frozen? a := by simp [World.frozen?, h.heap]
theorem Drew.below {w W : World} (h : Drew w W) (B : Nat) : Below B w W := ⟨h.os, h.tape, h.output, by rw [h.heap]; exact Nat.le_refl _, fun k _ => by rw [h.heap]⟩

theorem wp_draw_all {P : Program} {id : Nat} {Q : Exit → Act → World → Prop} {a : Act} {w : World} {l : List Oper} (hm : P.follows .mixedOrders = true) (hB : Region.lexB .any l.toArray = true)
    (h : ∀ W, Drew w W → wpStill P l.toArray W (fun a' => Q .normal a' W) l a) : (Code.region id l.toArray true).wp P Q a w :=
  wp_region_still_lit hm hB (h _ ⟨rfl, rfl, rfl, rfl⟩)
theorem wp_draw_tail {P : Program} {id : Nat} {Q : Exit → Act → World → Prop} {a : Act} {w : World} {l : List Oper} (n : Nat) (hm : P.follows .mixedOrders = true) (hB : Region.lexTailB .any l.toArray n = true)
    (h : ∀ W, Drew w W → wpStill P l.toArray W (fun a' => wpList P l.toArray Q (l.drop n) a' W) (l.take n) a) : (Code.region id l.toArray true).wp P Q a w :=
  wp_region_still_tail n hm hB (h _ ⟨rfl, rfl, rfl, rfl⟩)

theorem run_lookup_miss {P : Program} {t kt et : TypeId} (ht : P.underlying t = some (.map kt et)) (hkt : P.underlying kt = some .string) {z : Value}
    (w : World) (hz : (zeroValue et).run P w = .ok z w) (r : Nat) (es : List MapEntry) (ck : Nat) (ks : List ByteArray) (hm : w.heap[r]? = some (.map es.toArray ck)) (hk : keysOf es ks)
    (k : ByteArray) (hn : ks.findIdx? (· == k) = none) :
    (Instr.lookup t (.map (some r)) (.string k) true).run P w = .ok (.tuple #[z, .bool false]) w := by
  have hf := findNow_keys k es ks 0 hk
  rw [hn] at hf
  unfold Instr.lookup
  simp [run_underlying ht, MapKept.run_getObj_map hm, run_checkStr hkt, Instr.findKey, run_underlying hkt, hf, hz, Result.andThen]

theorem thing_no (k : Int) (hk : k = 1 ∨ k = 11) (w : World) : Calls Tryz.prog 70 #[.int .u8 k] w fun e w' => e = .returned (.tuple #[.int .u8 0, .bool false]) ∧ w = w' := by
  have n2 : (k == 2) = false := beq_eq_false_iff_ne.2 (by omega)
  have n3 : (k == 3) = false := beq_eq_false_iff_ne.2 (by omega)
  have n4 : (k == 4) = false := beq_eq_false_iff_ne.2 (by omega)
  have n5 : (k == 5) = false := beq_eq_false_iff_ne.2 (by omega)
  have n6 : (k == 6) = false := beq_eq_false_iff_ne.2 (by omega)
  clear hk
  go_enter Tryz.func70, Tryz.ntmps70
  go_wp2
  go_ret2
  exact ⟨rfl, rfl⟩
theorem thing_file (w : World) : Calls Tryz.prog 70 #[.int .u8 3] w fun e w' => e = .returned (.tuple #[.int .u8 2, .bool true]) ∧ w = w' := by
  go_enter Tryz.func70, Tryz.ntmps70
  go_wp2
  go_ret2
  exact ⟨rfl, rfl⟩

/-- The shell's cell and its map. -/
structure At (s m : Nat) (es : List MapEntry) (ks : List ByteArray) (w : World) : Prop where
  shell : w.cell? ⟨s, 0, none⟩ = some (.map (some m))
  frozen : w.frozen? ⟨s, 0, none⟩ = false
  map : w.heap[m]? = some (.map es.toArray es.length)
  keys : keysOf es ks

theorem At.below {s m : Nat} {es : List MapEntry} {ks : List ByteArray} {w w' : World} (h : At s m es ks w) (hb : Below w.heap.size w w') : At s m es ks w' :=
  ⟨by rw [hb.cell (World.block_lt_of_cell? _ _ h.shell)]; exact h.shell, by rw [hb.frozen (World.block_lt_of_cell? _ _ h.shell)]; exact h.frozen,
   by rw [hb.block _ (Array.getElem?_eq_some_iff.1 h.map).1]; exact h.map, h.keys⟩

theorem run_len35 (w : World) (r : Nat) (es : List MapEntry) (ck : Nat) (hb : w.heap[r]? = some (.map es.toArray ck)) : (Builtin.len_ #[35] 3 #[.map (some r)]).run Tryz.prog w = .ok (.int .i64 es.length) w := by
  simp [Builtin.len_, run_underlying Tryz.underlying35, MapKept.run_getObj_map hb, Result.andThen, goInt]

theorem zero57 (w : World) : (zeroValue 57).run Tryz.prog w = .ok .nilIface w := Tryz.zeroValue57 w

def LookRet (W : World) (r : Int) (e : Ending) (w' : World) : Prop := e = .returned (.int .i64 r) ∧ Below W.heap.size W w'

set_option maxRecDepth 100000 in
set_option maxHeartbeats 2000000 in
theorem look_new1 (s m b c : Nat) (es : List MapEntry) (ks : List ByteArray) (nm : ByteArray) (_v2 _v3 : Value) (w : World) (ha : At s m es ks w)
    (hmiss : ks.findIdx? (· == nm) = none) (hroom : es.length < 64)
    (h0 : w.cell? ⟨b, 0, none⟩ = some (.int .u8 1)) (h1 : w.cell? ⟨b, 1, none⟩ = some (.string nm)) (p : Option Addr) (l cp : Nat) (h2 : w.cell? ⟨b, 2, none⟩ = some (.slice p l cp)) (q : Int) (h3 : w.cell? ⟨b, 3, none⟩ = some (.int .i64 q)) :
    Calls Tryz.prog 29 #[.pointer (some ⟨s, 0, none⟩), .slice (some ⟨b, 0, none⟩) 1 c] w (LookRet w 0) := by
  have hs := ha.shell
  have HM := Lib.hid hmiss; clear hmiss
  have HA := Lib.hid ha; clear ha
  have hbl : b < w.heap.size := World.block_lt_of_cell? _ _ h0
  have hsl : s < w.heap.size := World.block_lt_of_cell? _ _ hs
  go_enter Tryz.func29, Tryz.ntmps29
  go_wp2
  refine wp_loop_rounds 2 ?_
  rw [rounds_succ]
  go_wp2_with (go_at_call 70; refine (thing_no 1 (.inl rfl) _).mono ?_; rintro e w' ⟨rfl, rfl⟩)
  rw [rounds_succ]
  go_wp2_with (go_at_call 70; refine (thing_no 1 (.inl rfl) _).mono ?_; rintro e w' ⟨rfl, rfl⟩)
  refine wp_draw_all mixed (by kernel_rfl) fun W hW => ?_
  have hb : Below w.heap.size w W := ((Below.refl _ _).alloc (Nat.le_refl _) _).trans (hW.below _)
  have hA := HA.out.below hb
  have hl := run_lookup_miss Tryz.underlying35 Tryz.underlying9 W (zero57 W) m es _ ks hA.map hA.keys nm HM.out
  have hsW := hA.shell
  have e0 : W.cell? ⟨b, 0, none⟩ = some (.int .u8 1) := by rw [hb.cell hbl]; exact h0
  have e1 : W.cell? ⟨b, 1, none⟩ = some (.string nm) := by rw [hb.cell hbl]; exact h1
  have hlen : (Builtin.len_ #[35] 3 #[.map (some m)]).run Tryz.prog W = .ok (.int .i64 es.length) W := run_len35 W m es _ hA.map
  have hr : ¬ 64 ≤ es.length := by omega
  clear hW h0 h1 h2 h3 hA hs
  have HB := Lib.hid hb; clear hb
  repeat still_step
  refine wpStill_nil ?_
  go_wp2
  go_ret
  exact ⟨rfl, HB.out⟩
end Go.Proofs.Sh
