/- The command file, its walk. Over the whole program of the cut; no condition beyond those that each theorem names. -/
import Derived.Test.YtkoipiolcnielaaGreatDoorShU
namespace Go.Proofs.Sh
open Go.RowKit

def fileW : ByteArray := ⟨#[102, 105, 108, 101]⟩
def showW : ByteArray := ⟨#[115, 104, 111, 119]⟩
def treeW : ByteArray := ⟨#[116, 114, 101, 101]⟩

/-- What 'file NAME mzxw6ytboi' leaves: a file of six bytes under the name. -/
def FileRet (s m : Nat) (es : List MapEntry) (ks : List ByteArray) (nm : ByteArray) (w : World) (e : Ending) (w' : World) : Prop :=
  ∃ r g cap, w.heap.size ≤ r ∧ w.heap.size ≤ g ∧ e = .returned (.tuple #[.slice (some ⟨r, 0, none⟩) 1 1, .nilIface]) ∧ w'.cell? ⟨r, 0, none⟩ = some (.string bytes6) ∧ SixAt g w' ∧
    At s m (es ++ [MapEntry.mk (.string nm) (.iface 270 (.agg #[.slice (some ⟨g, 0, none⟩) 6 cap])) es.length]) (ks ++ [nm]) w' ∧ Keep m w w'

/-- A name that the shell takes. -/
structure Nm (nm : ByteArray) : Prop where
  some : nm.toList.isEmpty = false
  size : nm.size ≤ 32
  all : ∀ k (h : k < nm.size), plainByte nm[k]

set_option maxRecDepth 100000 in
set_option maxHeartbeats 4000000 in
theorem does_file (s m : Nat) (es : List MapEntry) (ks : List ByteArray) (nm : ByteArray) (b cb : Nat) (w : World) (ha : At s m es ks w)
    (hmiss : ks.findIdx? (· == nm) = none) (hroom : es.length < 64) (hnm : Nm nm)
    (h1 : w.cell? ⟨b, 1, none⟩ = some (.string nm)) (h2 : w.cell? ⟨b, 2, none⟩ = some (.string letters)) :
    Calls Tryz.prog 18 #[.pointer (some ⟨s, 0, none⟩), .string fileW, .slice (some ⟨b, 1, none⟩) 2 cb] w (FileRet s m es ks nm w) := by
  have HM := Lib.hid hmiss; clear hmiss
  have HR := Lib.hid hroom; clear hroom
  have HA := Lib.hid ha; clear ha
  have HN := Lib.hid hnm; clear hnm
  have hbl : b < w.heap.size := World.block_lt_of_cell? _ _ h1
  have H1 := Lib.hid h1; have H2 := Lib.hid h2
  clear h1 h2
  have hst := fun (W : World) (a : Addr) => run_store Tryz.prog W a (.func (.func 43) #[.pointer (some ⟨s, 0, none⟩)] #[]) .plain (by rfl)
  go_enter Tryz.func18, Tryz.ntmps18
  go_wp2_with (go_at_call 26
               refine (commands_any _ _).mono ?_
               rintro e w1 ⟨M, kb, rfl, hI⟩
               obtain ⟨g, c, hg, hl⟩ := verb_hit hI 2 ⟨fileW, 43, [1, 11], 0⟩ (by kernel_rfl) (by kernel_rfl)
               have HI := Lib.hid hI.below; have HG := Lib.hid hg; clear hI hg)
  have HB2 := Lib.hid (HI.out.alloc HI.out.size (.cells #[.func (.func 43) #[.pointer (some ⟨s, 0, none⟩)] #[], .slice (some ⟨g, 0, none⟩) 2 c, .int .u8 0] 69))
  have HG2 := Lib.hid (alloc_old (o' := .cells #[.func (.func 43) #[.pointer (some ⟨s, 0, none⟩)] #[], .slice (some ⟨g, 0, none⟩) 2 c, .int .u8 0] 69) HG.out)
  have hc0 : (w1.alloc (.cells #[.func (.func 43) #[.pointer (some ⟨s, 0, none⟩)] #[], .slice (some ⟨g, 0, none⟩) 2 c, .int .u8 0] 69)).cell? ⟨w1.heap.size, 0, none⟩ = some (.func (.func 43) #[.pointer (some ⟨s, 0, none⟩)] #[]) := by simp
  have hcl : w1.heap.size < (w1.alloc (.cells #[.func (.func 43) #[.pointer (some ⟨s, 0, none⟩)] #[], .slice (some ⟨g, 0, none⟩) 2 c, .int .u8 0] 69)).heap.size := by simp
  have hc0g : w.heap.size ≤ w1.heap.size := HI.out.size
  generalize w1.alloc (.cells #[.func (.func 43) #[.pointer (some ⟨s, 0, none⟩)] #[], .slice (some ⟨g, 0, none⟩) 2 c, .int .u8 0] 69) = w2 at *
  generalize w1.heap.size = c0 at *
  have HC0 := Lib.hid hc0; clear hc0 hl HI HG
  refine (wanted_two _ g c 1 11 w2 HG2.out rfl).mono ?_
  rintro e w3 ⟨kg, kc, rfl, hk0, hk1, hb3⟩
  have HB3 := Lib.hid (HB2.out.trans (hb3.mono HB2.out.size))
  have HC3 := Lib.hid (show w3.cell? ⟨c0, 0, none⟩ = _ from (hb3.cell hcl).trans HC0.out)
  have hcl3 := Nat.lt_of_lt_of_le hcl hb3.size
  clear hb3 HC0 HG2
  have HK0 := Lib.hid hk0; have HK1 := Lib.hid hk1; clear hk0 hk1
  go_wp2_with fail
  refine (read_file nm HN.out.some HN.out.size HN.out.all b 1 cb kg kc w3 ((HB3.out.cell hbl).trans H1.out) HK0.out ((HB3.out.cell hbl).trans H2.out) HK1.out).mono ?_
  rintro e w4 ⟨rb, rc, g6, cap6, rfl, hrb, hg6, h6, ha0, ha1, hb4⟩
  have hs3 := HB3.out.size
  have HB4 := Lib.hid (HB3.out.trans (hb4.mono hs3))
  have HC4 := Lib.hid (show w4.cell? ⟨c0, 0, none⟩ = _ from (hb4.cell hcl3).trans HC3.out)
  have hcl4 := Nat.lt_of_lt_of_le hcl3 hb4.size
  have H6 := Lib.hid h6; have HA0 := Lib.hid ha0; have HA1 := Lib.hid ha1
  clear hb4 HC3 HB3 h6 ha0 ha1
  have hrl : rb < w4.heap.size := World.block_lt_of_cell? _ _ HA0.out.c0
  have hgl : g6 < w4.heap.size := World.block_lt_of_cell? _ _ (H6.out 0 102 rfl)
  go_wp2_with fail
  refine (look_new2 s m rb rc es ks nm w4 (HA.out.below HB4.out) HM.out HR.out HA0.out.c0 HA0.out.c1 _ _ _ HA0.out.c2 _ HA0.out.c3 letters HA1.out.c0 HA1.out.c1 _ _ _ HA1.out.c2 _ HA1.out.c3).mono ?_
  rintro e w5 ⟨rfl, hb5⟩
  have HB5 := Lib.hid (HB4.out.trans (hb5.mono HB4.out.size))
  have hc5 : w5.cell? ⟨c0, 0, none⟩ = some (.func (.func 43) #[.pointer (some ⟨s, 0, none⟩)] #[]) := (hb5.cell hcl4).trans HC4.out
  have H65 := Lib.hid (H6.out.below hb5 hgl)
  have HA05 := Lib.hid (HA0.out.below hb5 hrl)
  have HA15 := Lib.hid (HA1.out.below hb5 hrl)
  have hgl5 := Nat.lt_of_lt_of_le hgl hb5.size
  clear hb5 HC4 H6 HA0 HA1
  go_wp2_with fail
  refine (file_six s m es ks nm 1 0 none 0 0 rb rc g6 cap6 w5 (HA.out.below HB5.out) HM.out HA05.out.c0 HA05.out.c1 HA05.out.c2 HA05.out.c3 HA15.out.c2).mono ?_
  rintro e w6 ⟨r, hr, rfl, hrc, hat, hk⟩
  have HRC := Lib.hid hrc; have HAT := Lib.hid hat; have HKK := Lib.hid hk
  clear hrc hat hk
  have hml : m < w.heap.size := (Array.getElem?_eq_some_iff.1 HA.out.map).1
  go_wp2
  go_ret2
  have hs5 := HB5.out.size
  refine ⟨r, g6, cap6, by omega, by omega, rfl, HRC.out, ?_, HAT.out, (Keep.of_below HB5.out).trans HKK.out⟩
  intro j x hx
  rw [HKK.out.cell (p := ⟨g6, j, none⟩) hgl5 (by show g6 ≠ m; omega)]
  exact H65.out j x hx
end Go.Proofs.Sh
