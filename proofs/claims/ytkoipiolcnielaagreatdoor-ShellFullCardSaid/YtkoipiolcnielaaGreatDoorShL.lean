/- The shell looks a file up (function 29), its walk. Over the whole program of the cut; no condition beyond those that each theorem names. -/
import Derived.Test.YtkoipiolcnielaaGreatDoorShK
namespace Go.Proofs.Sh
open Go.RowKit

set_option maxRecDepth 100000 in
set_option maxHeartbeats 2000000 in
theorem look_new2 (s m b c : Nat) (es : List MapEntry) (ks : List ByteArray) (nm : ByteArray) (w : World) (ha : At s m es ks w)
    (hmiss : ks.findIdx? (· == nm) = none) (hroom : es.length < 64)
    (h0 : w.cell? ⟨b, 0, none⟩ = some (.int .u8 1)) (h1 : w.cell? ⟨b, 1, none⟩ = some (.string nm)) (p : Option Addr) (l cp : Nat) (h2 : w.cell? ⟨b, 2, none⟩ = some (.slice p l cp)) (q : Int) (h3 : w.cell? ⟨b, 3, none⟩ = some (.int .i64 q))
    (s2 : ByteArray) (h4 : w.cell? ⟨b, 4, none⟩ = some (.int .u8 11)) (h5 : w.cell? ⟨b, 5, none⟩ = some (.string s2)) (p2 : Option Addr) (l2 cp2 : Nat) (h6 : w.cell? ⟨b, 6, none⟩ = some (.slice p2 l2 cp2)) (q2 : Int) (h7 : w.cell? ⟨b, 7, none⟩ = some (.int .i64 q2)) :
    Calls Tryz.prog 29 #[.pointer (some ⟨s, 0, none⟩), .slice (some ⟨b, 0, none⟩) 2 c] w (LookRet w 0) := by
  have hs := ha.shell
  have HM := Lib.hid hmiss; clear hmiss
  have HA := Lib.hid ha; clear ha
  have hbl : b < w.heap.size := World.block_lt_of_cell? _ _ h0
  have hsl : s < w.heap.size := World.block_lt_of_cell? _ _ hs
  go_enter Tryz.func29, Tryz.ntmps29
  go_wp2
  refine wp_loop_rounds 3 ?_
  rw [rounds_succ]
  go_wp2_with (go_at_call 70; refine (thing_no 1 (.inl rfl) _).mono ?_; rintro e w' ⟨rfl, rfl⟩)
  rw [rounds_succ]
  go_wp2_with (go_at_call 70; refine (thing_no 11 (.inr rfl) _).mono ?_; rintro e w' ⟨rfl, rfl⟩)
  rw [rounds_succ]
  go_wp2
  refine wp_draw_all mixed (by kernel_rfl) fun W hW => ?_
  have hb : Below w.heap.size w W := (((Below.refl _ _).alloc (Nat.le_refl _) _).alloc (by simp) _).trans (hW.below _)
  have hA := HA.out.below hb
  have hl := run_lookup_miss Tryz.underlying35 Tryz.underlying9 W (zero57 W) m es _ ks hA.map hA.keys nm HM.out
  have hsW := hA.shell
  have e0 : W.cell? ⟨b, 0, none⟩ = some (.int .u8 1) := by rw [hb.cell hbl]; exact h0
  have e1 : W.cell? ⟨b, 1, none⟩ = some (.string nm) := by rw [hb.cell hbl]; exact h1
  have hlen : (Builtin.len_ #[35] 3 #[.map (some m)]).run Tryz.prog W = .ok (.int .i64 es.length) W := run_len35 W m es _ hA.map
  have hr : ¬ 64 ≤ es.length := by omega
  clear hW h0 h1 h2 h3 h4 h5 h6 h7 hA hs
  have HB := Lib.hid hb; clear hb
  repeat still_step
  refine wpStill_nil ?_
  go_wp2
  go_ret
  exact ⟨rfl, HB.out⟩

theorem kind_file (v : Value) (w : World) : Calls Tryz.prog 820 #[.agg #[v]] w (fun e w' => e = .returned (.int .u8 2) ∧ Below w.heap.size w w') := by
  go_enter Tryz.func820, Tryz.ntmps820
  go_wp2
  go_ret
  exact ⟨rfl, (Below.refl _ _).alloc (Nat.le_refl _) _⟩

theorem kind_tree (v : Value) (w : World) : Calls Tryz.prog 818 #[.agg #[v]] w (fun e w' => e = .returned (.int .u8 4) ∧ Below w.heap.size w w') := by
  go_enter Tryz.func818, Tryz.ntmps818
  go_wp2
  go_ret
  exact ⟨rfl, (Below.refl _ _).alloc (Nat.le_refl _) _⟩

theorem method_file (v : Value) (w : World) : (Go.method 1165 270 (.agg #[v]) "strongroom/shell.kind").run Tryz.prog w = .ok (820, .agg #[v]) w := by kernel_rfl

set_option maxRecDepth 100000 in
set_option maxHeartbeats 2000000 in
theorem look_file (s m b c : Nat) (es : List MapEntry) (ks : List ByteArray) (nm : ByteArray) (j : Nat) (en : MapEntry) (fp : Option Addr) (fl fc : Nat) (w : World) (ha : At s m es ks w)
    (hhit : ks.findIdx? (· == nm) = some j) (hen : es[j]? = some en) (hv : en.val = .iface 270 (.agg #[.slice fp fl fc]))
    (h0 : w.cell? ⟨b, 0, none⟩ = some (.int .u8 3)) (h1 : w.cell? ⟨b, 1, none⟩ = some (.string nm)) (p : Option Addr) (l cp : Nat) (h2 : w.cell? ⟨b, 2, none⟩ = some (.slice p l cp)) (q : Int) (h3 : w.cell? ⟨b, 3, none⟩ = some (.int .i64 q)) :
    Calls Tryz.prog 29 #[.pointer (some ⟨s, 0, none⟩), .slice (some ⟨b, 0, none⟩) 1 c] w (LookRet w 0) := by
  have hs := ha.shell
  have HM := Lib.hid hhit; clear hhit
  have HE := Lib.hid hen; clear hen
  have HV := Lib.hid hv; clear hv
  have HA := Lib.hid ha; clear ha
  have hbl : b < w.heap.size := World.block_lt_of_cell? _ _ h0
  have hsl : s < w.heap.size := World.block_lt_of_cell? _ _ hs
  go_enter Tryz.func29, Tryz.ntmps29
  go_wp2
  refine wp_loop_rounds 2 ?_
  rw [rounds_succ]
  go_wp2_with (go_at_call 70; refine (thing_file _).mono ?_; rintro e w' ⟨rfl, rfl⟩)
  refine wp_draw_all mixed (by kernel_rfl) fun W hW => ?_
  have hb : Below w.heap.size w W := ((Below.refl _ _).alloc (Nat.le_refl _) _).trans (hW.below _)
  have hA := HA.out.below hb
  have hl := run_lookup_ok Tryz.underlying35 Tryz.underlying9 W m es _ ks hA.map hA.keys nm j en HM.out HE.out
  rw [HV.out] at hl
  have hsW := hA.shell
  have e1 : W.cell? ⟨w.heap.size, 1, none⟩ = some (.string nm) := by rw [hW.cell]; simp
  have e0 : W.cell? ⟨b, 0, none⟩ = some (.int .u8 3) := by rw [hb.cell hbl]; exact h0
  clear hW h0 h1 h2 h3 hA hs
  have HB := Lib.hid hb; clear hb
  repeat still_step
  refine wpStill_nil ?_
  have hme := method_file (.slice fp fl fc)
  have hbW : b < W.heap.size := Nat.lt_of_lt_of_le hbl HB.out.size
  have E0 := Lib.hid e0
  clear hl hsW e0 e1
  go_wp2_with fail
  refine (kind_file _ _).mono ?_
  rintro e w' ⟨rfl, hk⟩
  have e2 : w'.cell? ⟨b, 0, none⟩ = some (.int .u8 3) := by rw [hk.cell hbW]; exact E0.out
  have HB2 := Lib.hid (HB.out.trans (hk.mono HB.out.size))
  clear hk
  go_wp2
  rw [rounds_succ]
  go_wp2
  go_ret
  exact ⟨rfl, HB2.out⟩
end Go.Proofs.Sh
