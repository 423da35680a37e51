/- A full line (function 18), its walk. Over the whole program of the cut; no condition beyond those that each theorem names. -/
import Derived.Test.YtkoipiolcnielaaGreatDoorShY
namespace Go.Proofs.Sh
open Go.RowKit

set_option maxRecDepth 100000 in
set_option maxHeartbeats 4000000 in
theorem does_full (s m : Nat) (es : List MapEntry) (ks : List ByteArray) (nm : ByteArray) (b cb : Nat) (w : World) (ha : At s m es ks w)
    (hmiss : ks.findIdx? (· == nm) = none) (hroom : 64 ≤ es.length) (hnm : Nm nm)
    (h1 : w.cell? ⟨b, 1, none⟩ = some (.string nm)) :
    Calls Tryz.prog 18 #[.pointer (some ⟨s, 0, none⟩), .string treeW, .slice (some ⟨b, 1, none⟩) 1 cb] w (fun e w' => e = .returned (.tuple #[.slice none 0 0, .iface 27 (.int .i64 324)]) ∧ Below w.heap.size w w') := by
  have HM := Lib.hid hmiss; clear hmiss
  have HR := Lib.hid hroom; clear hroom
  have HA := Lib.hid ha; clear ha
  have HN := Lib.hid hnm; clear hnm
  have hbl : b < w.heap.size := World.block_lt_of_cell? _ _ h1
  have H1 := Lib.hid h1
  clear h1
  have hst := fun (W : World) (a : Addr) => run_store Tryz.prog W a (.func (.func 61) #[.pointer (some ⟨s, 0, none⟩)] #[]) .plain (by rfl)
  go_enter Tryz.func18, Tryz.ntmps18
  go_wp2_with (go_at_call 26
               refine (commands_any _ _).mono ?_
               rintro e w1 ⟨M, kb, rfl, hI⟩
               obtain ⟨g, c, hg, hl⟩ := verb_hit hI 20 ⟨treeW, 61, [1], 0⟩ (by kernel_rfl) (by kernel_rfl)
               have HI := Lib.hid hI.below; have HG := Lib.hid hg; clear hI hg)
  have HB2 := Lib.hid (HI.out.alloc HI.out.size (.cells #[.func (.func 61) #[.pointer (some ⟨s, 0, none⟩)] #[], .slice (some ⟨g, 0, none⟩) 1 c, .int .u8 0] 69))
  have HG2 := Lib.hid (alloc_old (o' := .cells #[.func (.func 61) #[.pointer (some ⟨s, 0, none⟩)] #[], .slice (some ⟨g, 0, none⟩) 1 c, .int .u8 0] 69) HG.out)
  have hcl : w1.heap.size < (w1.alloc (.cells #[.func (.func 61) #[.pointer (some ⟨s, 0, none⟩)] #[], .slice (some ⟨g, 0, none⟩) 1 c, .int .u8 0] 69)).heap.size := by simp
  generalize w1.alloc (.cells #[.func (.func 61) #[.pointer (some ⟨s, 0, none⟩)] #[], .slice (some ⟨g, 0, none⟩) 1 c, .int .u8 0] 69) = w2 at *
  generalize w1.heap.size = c0 at *
  clear hl HI HG
  refine (wanted_one _ g c 1 w2 HG2.out rfl).mono ?_
  rintro e w3 ⟨kg, kc, rfl, hk0, hb3⟩
  have HB3 := Lib.hid (HB2.out.trans (hb3.mono HB2.out.size))
  clear hb3 HG2
  have HK0 := Lib.hid hk0; clear hk0
  go_wp2_with fail
  refine (read_name 1 (by decide) (by decide) nm HN.out.some HN.out.size HN.out.all b 1 cb kg kc w3 ((HB3.out.cell hbl).trans H1.out) HK0.out).mono ?_
  rintro e w4 ⟨rb, rc, p, cp, rfl, hrb, ha0, hb4⟩
  have hs3 := HB3.out.size
  have HB4 := Lib.hid (HB3.out.trans (hb4.mono hs3))
  have HA0 := Lib.hid ha0
  clear hb4 HB3 ha0
  go_wp2_with fail
  refine (look_full1 s m rb rc es ks nm w4 (HA.out.below HB4.out) HM.out HR.out HA0.out.c0 HA0.out.c1 _ _ _ HA0.out.c2 _ HA0.out.c3).mono ?_
  rintro e w5 ⟨rfl, hb5⟩
  have HB5 := Lib.hid (HB4.out.trans (hb5.mono HB4.out.size))
  clear hb5 HA0
  go_wp2
  go_ret2
  exact ⟨rfl, HB5.out⟩
end Go.Proofs.Sh
