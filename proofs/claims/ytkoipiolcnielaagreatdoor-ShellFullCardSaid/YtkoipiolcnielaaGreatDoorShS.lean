/- A file is shown (functions 91 and 50), the walks. Over the whole program of the cut; no condition beyond those that each theorem names. -/
import Derived.Test.YtkoipiolcnielaaGreatDoorShR
namespace Go.Proofs.Sh
open Go.RowKit

theorem run_lookup_plain {P : Program} {t kt et : TypeId} (ht : P.underlying t = some (.map kt et)) (hkt : P.underlying kt = some .string)
    (w : World) (r : Nat) (es : List MapEntry) (ck : Nat) (ks : List ByteArray) (hm : w.heap[r]? = some (.map es.toArray ck)) (hk : keysOf es ks)
    (k : ByteArray) (j : Nat) (e : MapEntry) (hn : ks.findIdx? (· == k) = some j) (he : es[j]? = some e) :
    (Instr.lookup t (.map (some r)) (.string k) false).run P w = .ok e.val w := by
  have hf := findNow_keys k es ks 0 hk
  rw [hn] at hf
  unfold Instr.lookup
  simp [run_underlying ht, MapKept.run_getObj_map hm, run_checkStr hkt, Instr.findKey, run_underlying hkt, hf, he, Result.andThen]

theorem assert_file (v : Value) (w : World) : (Instr.typeAssert (.iface 270 (.agg #[v])) 57 270 false).run Tryz.prog w = .ok (.agg #[v]) w := by kernel_rfl

theorem field_file (v : Value) (w : World) : (Instr.field 270 (.agg #[v]) 0).run Tryz.prog w = .ok v w := by kernel_rfl

set_option maxRecDepth 100000 in
set_option maxHeartbeats 2000000 in
theorem fileOf_hit (s m : Nat) (es : List MapEntry) (ks : List ByteArray) (nm : ByteArray) (k q : Int) (p : Option Addr) (l cp : Nat) (j : Nat) (en : MapEntry) (fp : Option Addr) (fl fc : Nat) (w : World) (ha : At s m es ks w)
    (hhit : ks.findIdx? (· == nm) = some j) (hen : es[j]? = some en) (hv : en.val = .iface 270 (.agg #[.slice fp fl fc])) :
    Calls Tryz.prog 91 #[.pointer (some ⟨s, 0, none⟩), .agg #[.int .u8 k, .string nm, .slice p l cp, .int .i64 q]] w fun e w' => e = .returned (.slice fp fl fc) ∧ Below w.heap.size w w' := by
  have hs := ha.shell
  have HM := Lib.hid hhit; clear hhit
  have HE := Lib.hid hen; clear hen
  have HV := Lib.hid hv; clear hv
  have HA := Lib.hid ha; clear ha
  have hsl : s < w.heap.size := World.block_lt_of_cell? _ _ hs
  go_enter Tryz.func91, Tryz.ntmps91
  go_wp2
  refine wp_draw_all mixed (by kernel_rfl) fun W hW => ?_
  have hb : Below w.heap.size w W := ((Below.refl _ _).alloc (Nat.le_refl _) _).trans (hW.below _)
  have hA := HA.out.below hb
  have hl := run_lookup_plain Tryz.underlying35 Tryz.underlying9 W m es _ ks hA.map hA.keys nm j en HM.out HE.out
  rw [HV.out] at hl
  have hsW := hA.shell
  have e1 : W.cell? ⟨w.heap.size, 1, none⟩ = some (.string nm) := by rw [hW.cell]; simp
  clear hW hA hs
  have hta := assert_file (.slice fp fl fc)
  have hfi := field_file (.slice fp fl fc)
  have HB := Lib.hid hb; clear hb
  repeat still_step
  refine wpStill_nil ?_
  go_wp2
  go_ret
  exact ⟨rfl, HB.out⟩

set_option maxRecDepth 100000 in
set_option maxHeartbeats 2000000 in
theorem show_six (s m : Nat) (es : List MapEntry) (ks : List ByteArray) (nm : ByteArray) (k q : Int) (p : Option Addr) (l cp b cb : Nat) (j : Nat) (en : MapEntry) (g cap : Nat) (w : World) (ha : At s m es ks w)
    (hhit : ks.findIdx? (· == nm) = some j) (hen : es[j]? = some en) (hv : en.val = .iface 270 (.agg #[.slice (some ⟨g, 0, none⟩) 6 cap])) (h6 : SixAt g w)
    (h0 : w.cell? ⟨b, 0, none⟩ = some (.int .u8 k)) (h1 : w.cell? ⟨b, 1, none⟩ = some (.string nm)) (h2 : w.cell? ⟨b, 2, none⟩ = some (.slice p l cp)) (h3 : w.cell? ⟨b, 3, none⟩ = some (.int .i64 q)) :
    Calls Tryz.prog 50 #[.pointer (some ⟨s, 0, none⟩), .slice (some ⟨b, 0, none⟩) 1 cb] w
      fun e w' => SayRet letters w e w' fun w' => Below w.heap.size w w' := by
  have HM := Lib.hid hhit; clear hhit
  have HE := Lib.hid hen; clear hen
  have HV := Lib.hid hv; clear hv
  have HA := Lib.hid ha; clear ha
  have H6 := Lib.hid h6; clear h6
  have hgl : g < w.heap.size := World.block_lt_of_cell? _ _ (H6.out 0 102 rfl)
  go_enter Tryz.func50, Tryz.ntmps50
  go_wp2_with (first
    | (go_at_call 91; refine (fileOf_hit s m es ks nm k q p l cp j en _ _ _ _ HA.out HM.out HE.out HV.out).mono ?_; rintro e w1 ⟨rfl, hb⟩; have HB1 := Lib.hid hb; clear hb)
    | (go_at_call 104; refine (code_six g cap _ (H6.out.below HB1.out hgl)).mono ?_; rintro e w2 ⟨rfl, hb⟩; have HB2 := Lib.hid hb; clear hb))
  go_ret2
  have hb2 := HB1.out.trans (HB2.out.mono HB1.out.size)
  refine ⟨w2.heap.size, hb2.size, rfl, by simp, hb2.alloc hb2.size _⟩
end Go.Proofs.Sh
