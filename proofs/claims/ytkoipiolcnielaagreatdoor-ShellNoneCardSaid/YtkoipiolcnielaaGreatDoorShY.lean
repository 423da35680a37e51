/- The commands show, tree and none, their walks. Over the whole program of the cut; no condition beyond those that each theorem names. -/
import Derived.Test.YtkoipiolcnielaaGreatDoorShX
namespace Go.Proofs.Sh
open Go.RowKit

set_option maxRecDepth 100000 in
set_option maxHeartbeats 4000000 in
theorem does_show (s m : Nat) (es : List MapEntry) (ks : List ByteArray) (nm : ByteArray) (b cb : Nat) (j : Nat) (en : MapEntry) (g6 cap6 : Nat) (w : World) (ha : At s m es ks w)
    (hhit : ks.findIdx? (· == nm) = some j) (hen : es[j]? = some en) (hv : en.val = .iface 270 (.agg #[.slice (some ⟨g6, 0, none⟩) 6 cap6])) (h6 : SixAt g6 w) (hnm : Nm nm)
    (h1 : w.cell? ⟨b, 1, none⟩ = some (.string nm)) :
    Calls Tryz.prog 18 #[.pointer (some ⟨s, 0, none⟩), .string showW, .slice (some ⟨b, 1, none⟩) 1 cb] w (fun e w' => SayRet letters w e w' fun w' => Below w.heap.size w w') := by
  have HM := Lib.hid hhit; clear hhit
  have HE := Lib.hid hen; clear hen
  have HV := Lib.hid hv; clear hv
  have HA := Lib.hid ha; clear ha
  have HN := Lib.hid hnm; clear hnm
  have hgl : g6 < w.heap.size := World.block_lt_of_cell? _ _ (h6 0 102 rfl)
  have H6 := Lib.hid h6; clear h6
  have hbl : b < w.heap.size := World.block_lt_of_cell? _ _ h1
  have H1 := Lib.hid h1
  clear h1
  have hst := fun (W : World) (a : Addr) => run_store Tryz.prog W a (.func (.func 50) #[.pointer (some ⟨s, 0, none⟩)] #[]) .plain (by rfl)
  go_enter Tryz.func18, Tryz.ntmps18
  go_wp2_with (go_at_call 26
               refine (commands_any _ _).mono ?_
               rintro e w1 ⟨M, kb, rfl, hI⟩
               obtain ⟨g, c, hg, hl⟩ := verb_hit hI 9 ⟨showW, 50, [3], 0⟩ (by kernel_rfl) (by kernel_rfl)
               have HI := Lib.hid hI.below; have HG := Lib.hid hg; clear hI hg)
  have HB2 := Lib.hid (HI.out.alloc HI.out.size (.cells #[.func (.func 50) #[.pointer (some ⟨s, 0, none⟩)] #[], .slice (some ⟨g, 0, none⟩) 1 c, .int .u8 0] 69))
  have HG2 := Lib.hid (alloc_old (o' := .cells #[.func (.func 50) #[.pointer (some ⟨s, 0, none⟩)] #[], .slice (some ⟨g, 0, none⟩) 1 c, .int .u8 0] 69) HG.out)
  have hc0 : (w1.alloc (.cells #[.func (.func 50) #[.pointer (some ⟨s, 0, none⟩)] #[], .slice (some ⟨g, 0, none⟩) 1 c, .int .u8 0] 69)).cell? ⟨w1.heap.size, 0, none⟩ = some (.func (.func 50) #[.pointer (some ⟨s, 0, none⟩)] #[]) := by simp
  have hcl : w1.heap.size < (w1.alloc (.cells #[.func (.func 50) #[.pointer (some ⟨s, 0, none⟩)] #[], .slice (some ⟨g, 0, none⟩) 1 c, .int .u8 0] 69)).heap.size := by simp
  have hc0g : w.heap.size ≤ w1.heap.size := HI.out.size
  generalize w1.alloc (.cells #[.func (.func 50) #[.pointer (some ⟨s, 0, none⟩)] #[], .slice (some ⟨g, 0, none⟩) 1 c, .int .u8 0] 69) = w2 at *
  generalize w1.heap.size = c0 at *
  have HC0 := Lib.hid hc0; clear hc0 hl HI HG
  refine (wanted_one _ g c 3 w2 HG2.out rfl).mono ?_
  rintro e w3 ⟨kg, kc, rfl, hk0, hb3⟩
  have HB3 := Lib.hid (HB2.out.trans (hb3.mono HB2.out.size))
  have HC3 := Lib.hid (show w3.cell? ⟨c0, 0, none⟩ = _ from (hb3.cell hcl).trans HC0.out)
  have hcl3 := Nat.lt_of_lt_of_le hcl hb3.size
  clear hb3 HC0 HG2
  have HK0 := Lib.hid hk0; clear hk0
  go_wp2_with fail
  refine (read_name 3 (by decide) (by decide) nm HN.out.some HN.out.size HN.out.all b 1 cb kg kc w3 ((HB3.out.cell hbl).trans H1.out) HK0.out).mono ?_
  rintro e w4 ⟨rb, rc, p, cp, rfl, hrb, ha0, hb4⟩
  have hs3 := HB3.out.size
  have HB4 := Lib.hid (HB3.out.trans (hb4.mono hs3))
  have HC4 := Lib.hid (show w4.cell? ⟨c0, 0, none⟩ = _ from (hb4.cell hcl3).trans HC3.out)
  have hcl4 := Nat.lt_of_lt_of_le hcl3 hb4.size
  have HA0 := Lib.hid ha0
  clear hb4 HC3 HB3 ha0
  have hrl : rb < w4.heap.size := World.block_lt_of_cell? _ _ HA0.out.c0
  go_wp2_with fail
  refine (look_file s m rb rc es ks nm j en _ _ _ w4 (HA.out.below HB4.out) HM.out HE.out HV.out HA0.out.c0 HA0.out.c1 _ _ _ HA0.out.c2 _ HA0.out.c3).mono ?_
  rintro e w5 ⟨rfl, hb5⟩
  have HB5 := Lib.hid (HB4.out.trans (hb5.mono HB4.out.size))
  have hc5 : w5.cell? ⟨c0, 0, none⟩ = some (.func (.func 50) #[.pointer (some ⟨s, 0, none⟩)] #[]) := (hb5.cell hcl4).trans HC4.out
  have HA05 := Lib.hid (HA0.out.below hb5 hrl)
  clear hb5 HC4 HA0
  go_wp2_with fail
  refine (show_six s m es ks nm 3 0 p 0 cp rb rc j en g6 cap6 w5 (HA.out.below HB5.out) HM.out HE.out HV.out (H6.out.below HB5.out hgl) HA05.out.c0 HA05.out.c1 HA05.out.c2 HA05.out.c3).mono ?_
  rintro e w6 ⟨r, hr, rfl, hrc, hk⟩
  have HRC := Lib.hid hrc; have HKK := Lib.hid hk
  clear hrc hk
  go_wp2
  go_ret2
  have hs5 := HB5.out.size
  exact ⟨r, by omega, rfl, HRC.out, HB5.out.trans (HKK.out.mono hs5)⟩

set_option maxRecDepth 100000 in
set_option maxHeartbeats 4000000 in
theorem does_tree (s m : Nat) (es : List MapEntry) (ks : List ByteArray) (nm : ByteArray) (b cb : Nat) (w : World) (ha : At s m es ks w)
    (hmiss : ks.findIdx? (· == nm) = none) (hroom : es.length < 64) (hnm : Nm nm)
    (h1 : w.cell? ⟨b, 1, none⟩ = some (.string nm)) :
    Calls Tryz.prog 18 #[.pointer (some ⟨s, 0, none⟩), .string treeW, .slice (some ⟨b, 1, none⟩) 1 cb] w (KeepRet s m es ks nm (.iface 222 (.agg #[.slice none 0 0])) (.slice none 0 0) w) := by
  have HM := Lib.hid hmiss; clear hmiss
  have HR := Lib.hid hroom; clear hroom
  have HA := Lib.hid ha; clear ha
  have HN := Lib.hid hnm; clear hnm
  have hbl : b < w.heap.size := World.block_lt_of_cell? _ _ h1
  have H1 := Lib.hid h1
  clear h1
  have hst := fun (W : World) (a : Addr) => run_store Tryz.prog W a (.func (.func 61) #[.pointer (some ⟨s, 0, none⟩)] #[]) .plain (by rfl)
  go_enter Tryz.func18, Tryz.ntmps18
  go_wp2_with (go_at_call 26
               refine (commands_any _ _).mono ?_
               rintro e w1 ⟨M, kb, rfl, hI⟩
               obtain ⟨g, c, hg, hl⟩ := verb_hit hI 20 ⟨treeW, 61, [1], 0⟩ (by kernel_rfl) (by kernel_rfl)
               have HI := Lib.hid hI.below; have HG := Lib.hid hg; clear hI hg)
  have HB2 := Lib.hid (HI.out.alloc HI.out.size (.cells #[.func (.func 61) #[.pointer (some ⟨s, 0, none⟩)] #[], .slice (some ⟨g, 0, none⟩) 1 c, .int .u8 0] 69))
  have HG2 := Lib.hid (alloc_old (o' := .cells #[.func (.func 61) #[.pointer (some ⟨s, 0, none⟩)] #[], .slice (some ⟨g, 0, none⟩) 1 c, .int .u8 0] 69) HG.out)
  have hc0 : (w1.alloc (.cells #[.func (.func 61) #[.pointer (some ⟨s, 0, none⟩)] #[], .slice (some ⟨g, 0, none⟩) 1 c, .int .u8 0] 69)).cell? ⟨w1.heap.size, 0, none⟩ = some (.func (.func 61) #[.pointer (some ⟨s, 0, none⟩)] #[]) := by simp
  have hcl : w1.heap.size < (w1.alloc (.cells #[.func (.func 61) #[.pointer (some ⟨s, 0, none⟩)] #[], .slice (some ⟨g, 0, none⟩) 1 c, .int .u8 0] 69)).heap.size := by simp
  have hc0g : w.heap.size ≤ w1.heap.size := HI.out.size
  generalize w1.alloc (.cells #[.func (.func 61) #[.pointer (some ⟨s, 0, none⟩)] #[], .slice (some ⟨g, 0, none⟩) 1 c, .int .u8 0] 69) = w2 at *
  generalize w1.heap.size = c0 at *
  have HC0 := Lib.hid hc0; clear hc0 hl HI HG
  refine (wanted_one _ g c 1 w2 HG2.out rfl).mono ?_
  rintro e w3 ⟨kg, kc, rfl, hk0, hb3⟩
  have HB3 := Lib.hid (HB2.out.trans (hb3.mono HB2.out.size))
  have HC3 := Lib.hid (show w3.cell? ⟨c0, 0, none⟩ = _ from (hb3.cell hcl).trans HC0.out)
  have hcl3 := Nat.lt_of_lt_of_le hcl hb3.size
  clear hb3 HC0 HG2
  have HK0 := Lib.hid hk0; clear hk0
  go_wp2_with fail
  refine (read_name 1 (by decide) (by decide) nm HN.out.some HN.out.size HN.out.all b 1 cb kg kc w3 ((HB3.out.cell hbl).trans H1.out) HK0.out).mono ?_
  rintro e w4 ⟨rb, rc, p, cp, rfl, hrb, ha0, hb4⟩
  have hs3 := HB3.out.size
  have HB4 := Lib.hid (HB3.out.trans (hb4.mono hs3))
  have HC4 := Lib.hid (show w4.cell? ⟨c0, 0, none⟩ = _ from (hb4.cell hcl3).trans HC3.out)
  have hcl4 := Nat.lt_of_lt_of_le hcl3 hb4.size
  have HA0 := Lib.hid ha0
  clear hb4 HC3 HB3 ha0
  have hrl : rb < w4.heap.size := World.block_lt_of_cell? _ _ HA0.out.c0
  go_wp2_with fail
  refine (look_new1 s m rb rc es ks nm .nilIface .nilIface w4 (HA.out.below HB4.out) HM.out HR.out HA0.out.c0 HA0.out.c1 _ _ _ HA0.out.c2 _ HA0.out.c3).mono ?_
  rintro e w5 ⟨rfl, hb5⟩
  have HB5 := Lib.hid (HB4.out.trans (hb5.mono HB4.out.size))
  have hc5 : w5.cell? ⟨c0, 0, none⟩ = some (.func (.func 61) #[.pointer (some ⟨s, 0, none⟩)] #[]) := (hb5.cell hcl4).trans HC4.out
  have HA05 := Lib.hid (HA0.out.below hb5 hrl)
  clear hb5 HC4 HA0
  go_wp2_with fail
  refine (tree_new s m es ks nm 1 0 p 0 cp rb rc w5 (HA.out.below HB5.out) HM.out HA05.out.c0 HA05.out.c1 HA05.out.c2 HA05.out.c3).mono ?_
  rintro e w6 ⟨rfl, hat, hk⟩
  have HAT := Lib.hid hat; have HKK := Lib.hid hk
  clear hat hk
  go_wp2
  go_ret2
  exact ⟨rfl, HAT.out, (Keep.of_below HB5.out).trans HKK.out⟩

set_option maxRecDepth 100000 in
set_option maxHeartbeats 4000000 in
theorem does_none (s nm : Value) (k : ByteArray) (rest : Value) (w : World) (hk : nm = .string k) (hix : (verbs.map (·.1.name)).findIdx? (· == k) = none) :
    Calls Tryz.prog 18 #[s, nm, rest] w (fun e w' => e = .returned (.tuple #[.slice none 0 0, .iface 27 (.int .i64 320)]) ∧ Below w.heap.size w w') := by
  subst hk
  have HX := Lib.hid hix; clear hix
  have hst := fun (W : World) (a : Addr) => run_store Tryz.prog W a .nilFunc .plain (by rfl)
  go_enter Tryz.func18, Tryz.ntmps18
  go_wp2_with (go_at_call 26
               refine (commands_any _ _).mono ?_
               rintro e w1 ⟨M, kb, rfl, hI⟩
               have hl := verb_miss hI k HX.out
               have HI := Lib.hid hI.below; clear hI)
  go_ret2
  exact ⟨rfl, HI.out.alloc HI.out.size _⟩

set_option maxRecDepth 100000 in
set_option maxHeartbeats 4000000 in
/-- A tree where there is no room any more. -/
theorem look_full1 (s m b c : Nat) (es : List MapEntry) (ks : List ByteArray) (nm : ByteArray) (w : World) (ha : At s m es ks w)
    (hmiss : ks.findIdx? (· == nm) = none) (hroom : 64 ≤ es.length)
    (h0 : w.cell? ⟨b, 0, none⟩ = some (.int .u8 1)) (h1 : w.cell? ⟨b, 1, none⟩ = some (.string nm)) (p : Option Addr) (l cp : Nat) (h2 : w.cell? ⟨b, 2, none⟩ = some (.slice p l cp)) (q : Int) (h3 : w.cell? ⟨b, 3, none⟩ = some (.int .i64 q)) :
    Calls Tryz.prog 29 #[.pointer (some ⟨s, 0, none⟩), .slice (some ⟨b, 0, none⟩) 1 c] w (LookRet w 324) := by
  have hs := ha.shell
  have HM := Lib.hid hmiss; clear hmiss
  have HA := Lib.hid ha; clear ha
  have hbl : b < w.heap.size := World.block_lt_of_cell? _ _ h0
  have hsl : s < w.heap.size := World.block_lt_of_cell? _ _ hs
  go_enter Tryz.func29, Tryz.ntmps29
  go_wp2
  refine wp_loop_rounds 2 ?_
  rw [rounds_succ]
  go_wp2_with (go_at_call 70; refine (thing_no 1 (.inl rfl) _).mono ?_; rintro e w' ⟨rfl, rfl⟩)
  rw [rounds_succ]
  go_wp2_with (go_at_call 70; refine (thing_no 1 (.inl rfl) _).mono ?_; rintro e w' ⟨rfl, rfl⟩)
  refine wp_draw_all mixed (by kernel_rfl) fun W hW => ?_
  have hb : Below w.heap.size w W := ((Below.refl _ _).alloc (Nat.le_refl _) _).trans (hW.below _)
  have hA := HA.out.below hb
  have hl := run_lookup_miss Tryz.underlying35 Tryz.underlying9 W (zero57 W) m es _ ks hA.map hA.keys nm HM.out
  have hsW := hA.shell
  have e0 : W.cell? ⟨b, 0, none⟩ = some (.int .u8 1) := by rw [hb.cell hbl]; exact h0
  have e1 : W.cell? ⟨b, 1, none⟩ = some (.string nm) := by rw [hb.cell hbl]; exact h1
  have hlen : (Builtin.len_ #[35] 3 #[.map (some m)]).run Tryz.prog W = .ok (.int .i64 es.length) W := run_len35 W m es _ hA.map
  have hr : 64 ≤ es.length := hroom
  clear hW h0 h1 h2 h3 hA hs
  have HB := Lib.hid hb; clear hb
  repeat still_step
  refine wpStill_nil ?_
  go_wp2
  go_ret
  exact ⟨rfl, HB.out⟩
end Go.Proofs.Sh
