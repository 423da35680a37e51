/- A file is kept (function 85), the walk. Over the whole program of the cut; no condition beyond those that each theorem names. -/
import Derived.Test.YtkoipiolcnielaaGreatDoorShP
import Derived.Test.YtkoipiolcnielaaGreatDoorShL
namespace Go.Proofs.Sh
open Go.RowKit

theorem At.ne {s m : Nat} {es : List MapEntry} {ks : List ByteArray} {w : World} (h : At s m es ks w) : s ≠ m := by
  rintro rfl
  have h1 := h.shell
  simp [World.cell?, h.map] at h1
theorem At.len {s m : Nat} {es : List MapEntry} {ks : List ByteArray} {w : World} (h : At s m es ks w) : es.length = ks.length := by
  simpa using congrArg List.length h.keys

/-- The thing is kept. -/
def KeepRet (s m : Nat) (es : List MapEntry) (ks : List ByteArray) (nm : ByteArray) (v rest : Value) (w : World) (e : Ending) (w' : World) : Prop :=
  e = .returned (.tuple #[rest, .nilIface]) ∧ At s m (es ++ [MapEntry.mk (.string nm) v es.length]) (ks ++ [nm]) w' ∧ Keep m w w'

theorem At.insert {s m : Nat} {es : List MapEntry} {ks : List ByteArray} {w : World} (h : At s m es ks w) (nm : ByteArray) (v : Value) :
    At s m (es ++ [MapEntry.mk (.string nm) v es.length]) (ks ++ [nm]) (setObjW w m (.map (es ++ [MapEntry.mk (.string nm) v es.length]).toArray (es.length + 1))) := by
  have hl : m < w.heap.size := (Array.getElem?_eq_some_iff.1 h.map).1
  have e1 : (setObjW w m (.map (es ++ [MapEntry.mk (.string nm) v es.length]).toArray (es.length + 1))).heap[s]? = w.heap[s]? := setObjW_other h.ne
  refine ⟨?_, ?_, ?_, ?_⟩
  · rw [World.cell?_of_block (w := w) (a := ⟨s, 0, none⟩) e1]; exact h.shell
  · rw [World.frozen?_of_block (w := w) (a := ⟨s, 0, none⟩) e1]; exact h.frozen
  · rw [setObjW_same hl]; simp
  · have := h.keys; simp only [keysOf, List.map_append] at this ⊢; rw [this]; simp

theorem Keep.setObjW {m : Nat} {a w : World} (h : Keep m a w) (o : Obj) : Keep m a (setObjW w m o) :=
  h.trans ⟨rfl, rfl, rfl, by simp [Sh.setObjW], fun k _ hm => setObjW_other hm⟩
theorem Keep.of_drew {m : Nat} {w W : World} (h : Drew w W) : Keep m w W := ⟨h.os, h.tape, h.output, by rw [h.heap]; exact Nat.le_refl _, fun k _ _ => by rw [h.heap]⟩

set_option maxRecDepth 100000 in
set_option maxHeartbeats 2000000 in
theorem keep_new (s m : Nat) (es : List MapEntry) (ks : List ByteArray) (nm : ByteArray) (k q : Int) (p : Option Addr) (l cp : Nat) (t : TypeId) (x : Value) (rp : Option Addr) (rl rc : Nat) (w : World) (ha : At s m es ks w)
    (hmiss : ks.findIdx? (· == nm) = none) :
    Calls Tryz.prog 85 #[.pointer (some ⟨s, 0, none⟩), .agg #[.int .u8 k, .string nm, .slice p l cp, .int .i64 q], .iface t x, .slice rp rl rc] w (KeepRet s m es ks nm (.iface t x) (.slice rp rl rc) w) := by
  have hs := ha.shell
  have HM := Lib.hid hmiss; clear hmiss
  have HA := Lib.hid ha; clear ha
  have hsl : s < w.heap.size := World.block_lt_of_cell? _ _ hs
  go_enter Tryz.func85, Tryz.ntmps85
  go_wp2
  refine wp_draw_tail 7 mixed (by kernel_rfl) fun W hW => ?_
  have hb : Below w.heap.size w W := ((Below.refl _ _).alloc (Nat.le_refl _) _).trans (hW.below _)
  have hA := HA.out.below hb
  have HAW := Lib.hid hA
  have hl := run_insert Tryz.underlying35 Tryz.underlying9 W m es _ ks hA.map hA.keys nm HM.out (.iface t x)
  have hsW := hA.shell
  have e1 : W.cell? ⟨w.heap.size, 1, none⟩ = some (.string nm) := by rw [hW.cell]; simp
  clear hW hA hs
  have HB := Lib.hid hb; clear hb
  simp only [List.take_succ_cons, List.take_zero, List.drop_succ_cons, List.drop_zero]
  repeat still_step
  refine wpStill_nil ?_
  go_wp2
  go_ret2
  exact ⟨rfl, HAW.out.insert nm _, (Keep.of_below HB.out).setObjW _⟩
end Go.Proofs.Sh
