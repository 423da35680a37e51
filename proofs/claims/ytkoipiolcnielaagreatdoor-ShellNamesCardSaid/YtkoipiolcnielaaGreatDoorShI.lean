/- One code of the shell (function 69), its walk. Over the whole program of the cut; no condition beyond those that each theorem names. -/
import Derived.Test.YtkoipiolcnielaaGreatDoorShF
import Derived.Test.YtkoipiolcnielaaGreatDoorShG
import Derived.Test.YtkoipiolcnielaaGreatDoorShH
namespace Go.Proofs.Sh
open Go.RowKit

/-- What (want).one hands back where it takes the word. -/
def OneRet (B : Nat) (k : Int) (s : ByteArray) (bs : List Int) (W : World) (e : Ending) (w' : World) : Prop :=
  ∃ v, e = .returned (.tuple #[.agg #[.int .u8 k, .string s, v, .int .i64 0], .bool true]) ∧ w'.ownsRow B 5 1 v bs.length (bs.map (Value.int .u8)) ∧ Below B W w'

theorem one_name' (k : Int) (hk : 1 ≤ k) (hk2 : k ≤ 6) (s : ByteArray) (hn : ∀ w : World, Calls Tryz.prog 138 #[.string s] w fun e w' => e = .returned (.bool true) ∧ w = w') (w : World) :
    Calls Tryz.prog 69 #[.int .u8 k, .string s] w (OneRet w.heap.size k s [] w) :=
  (one_name k hk hk2 s w hn).mono fun _ _ ⟨h1, h2⟩ => ⟨.slice none 0 0, h1, World.ownsRow_nil _ _ _ _, h2⟩
theorem one_code' (s : ByteArray) (bs : List Int) (hs : (s.toList == [45]) = false) (h1 : 1 ≤ bs.length)
    (hb : ∀ w : World, Calls Tryz.prog 135 #[.string s] w (BytesRet w.heap.size bs w)) (w : World) :
    Calls Tryz.prog 69 #[.int .u8 11, .string s] w (OneRet w.heap.size 11 s bs w) :=
  (one_code s bs w hs h1 hb).mono fun _ _ h => h

theorem ownsRow_slice {w : World} {B : Nat} {t : TypeId} {n m : Nat} {v : Value} {xs : List Value} (h : w.ownsRow B t m v n xs) : ∃ p cap, v = .slice p n cap := by
  rcases h.2 with ⟨h1, h0⟩ | ⟨g, cap, cur, hv, hg, _⟩
  · exact ⟨none, 0, by rw [h1, h0]⟩
  · exact ⟨_, cap, hv⟩

theorem ownsRow_below {w w' : World} {B B' : Nat} {t : TypeId} {n m : Nat} {v : Value} {xs : List Value} (h : w.ownsRow B t m v n xs) (hb : Below B' w w') (hB : ∀ k, v.ownBlock = some k → k < B') : w'.ownsRow B t m v n xs := by
  obtain ⟨h1, h2⟩ := h
  refine ⟨h1, ?_⟩
  rcases h2 with h2 | ⟨g, cap, cur, hv, hg, hh, r⟩
  · exact .inl h2
  · exact .inr ⟨g, cap, cur, hv, hg, by rw [hb.block g (hB g (by rw [hv]; rfl))]; exact hh, r⟩

theorem info95 : Tryz.prog.info? 95 = some Tryz.t95 := by kernel_rfl

/-- What read hands back of one word. -/
def Read1Ret (B : Nat) (k : Int) (s : ByteArray) (bs : List Int) (W : World) (e : Ending) (w' : World) : Prop :=
  ∃ v vr, e = .returned (.tuple #[vr, .bool true]) ∧ w'.ownsRow B 5 1 v bs.length (bs.map (Value.int .u8)) ∧ w'.ownsRow B 95 4 vr 1 [.int .u8 k, .string s, v, .int .i64 0] ∧ Below B W w'

set_option maxRecDepth 100000 in
set_option maxHeartbeats 2000000 in
theorem read1 (k : Int) (s : ByteArray) (bs : List Int) (b o c g c2 : Nat) (w : World)
    (hone : ∀ w : World, Calls Tryz.prog 69 #[.int .u8 k, .string s] w (OneRet w.heap.size k s bs w))
    (hw0 : w.cell? ⟨b, o, none⟩ = some (.string s)) (hk0 : w.cell? ⟨g, 0, none⟩ = some (.int .u8 k)) :
    Calls Tryz.prog 27 #[.slice (some ⟨b, o, none⟩) 1 c, .slice (some ⟨g, 0, none⟩) 1 c2] w (Read1Ret w.heap.size k s bs w) := by
  have HN := Lib.hid hone; clear hone
  go_enter Tryz.func27, Tryz.ntmps27
  go_wp2
  refine wp_loop_rounds 2 ?_
  rw [rounds_succ]
  go_wp2_with fail
  refine (HN.out _).mono ?_
  rintro e w1 ⟨v, rfl, hown, hbel⟩
  obtain ⟨p, cap, rfl⟩ := ownsRow_slice hown
  have HO := Lib.hid hown; clear hown
  have HB := Lib.hid hbel; clear hbel
  go_wp2_with (at_builtin; refine wpList_append_own _ rfl _ _ 73 rfl w.heap.size 95 Tryz.t95 _ 4 56 Tryz.underlying73 info95 rfl rfl rfl rfl (by decide) _ 0 [] rfl (World.ownsRow_nil _ _ _ _) ⟨w1.heap.size + 1, 0, none⟩ 1 1 [.int .u8 k, .string s, .slice p bs.length cap, .int .i64 0] rfl rfl ?c2 ?c3 ?c4 ?c5 ?c6 ?_)
  case c2 =>
    intro j u hu
    match j, hu with
    | 0, hu => cases hu; rw [Addr.add_lit]; simp
    | 1, hu => cases hu; rw [Addr.add_lit]; simp
    | 2, hu => cases hu; rw [Addr.add_lit]; simp
    | 3, hu => cases hu; rw [Addr.add_lit]; simp
  case c3 => intro u hu; simp at hu; rcases hu with rfl | rfl | rfl | rfl <;> rfl
  case c4 => decide
  case c5 => decide
  case c6 => have := HB.out.size; simp; omega
  intro vr w2 hown hgrow _
  have hb2 : Below w1.heap.size w1 w2 := (((Below.refl _ _).alloc (Nat.le_refl _) _).alloc (by simp) _).grown hgrow (by simp; omega) (fun k hk => by simp [Value.ownBlock] at hk)
  have HO2 := Lib.hid hown; clear hown hgrow
  have HB2 := Lib.hid hb2; clear hb2
  obtain ⟨p2, cap2, rfl⟩ := ownsRow_slice HO2.out
  go_wp2
  rw [rounds_succ]
  go_wp2
  go_ret2
  refine ⟨_, _, rfl, ownsRow_below HO.out HB2.out ?_, HO2.out, HB.out.trans (HB2.out.mono HB.out.size)⟩
  intro k hk
  exact (HO.out.lt k hk).2
end Go.Proofs.Sh
