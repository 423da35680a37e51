/- Function 28: what its walk shows. Over the whole program of the cut; no condition beyond those that each theorem names. -/
import Derived.Test.YtkoipiolcnielaaGreatDoorShE
namespace Go.Proofs.Sh
open Go.RowKit

def OwnRet (B : Nat) (t : TypeId) (n : Nat) (xs : List Value) (W : World) (e : Ending) (w' : World) : Prop :=
  ∃ v, e = .returned v ∧ w'.ownsRow B t 1 v n xs ∧ Below B W w'

set_option maxHeartbeats 1000000 in
theorem wanted_plain (f : Value) (g c : Nat) (ks : List Int) (k : Int) (w : World) (h1 : 1 ≤ ks.length) (h9 : ks.length ≤ 100)
    (hg : w.heap[g]? = some (.cells (ks.map (Value.int .u8)).toArray 67)) (_hf : f.oneCell' = true) :
    Calls Tryz.prog 28 #[.agg #[f, .slice (some ⟨g, 0, none⟩) ks.length c, .int .u8 0], .int .i64 k] w (OwnRet w.heap.size 67 ks.length (ks.map (Value.int .u8)) w) := by
  have hlt : g < w.heap.size := (Array.getElem?_eq_some_iff.1 hg).1
  have hown0 : ∀ w' : World, w'.ownsRow w.heap.size 67 1 (.slice none 0 0) 0 [] := fun w' => World.ownsRow_nil w' _ _ _
  generalize hn : ks.length = n at *
  have HN := Lib.hid hn; clear hn
  have HG := Lib.hid hg; clear hg
  go_enter Tryz.func28, Tryz.ntmps28
  go_wp2_with (at_builtin; refine wpList_append_own _ rfl _ _ 66 rfl w.heap.size 67 Tryz.t67 (.int .u8 0) 1 1 Tryz.underlying66 info67 rfl rfl rfl rfl (by decide) _ 0 [] rfl (World.ownsRow_nil _ _ _ _) ⟨g, 0, none⟩ n c (ks.map (.int .u8)) rfl ?c1 ?c2 ?c3 ?c4 ?c5 ?c6 ?_)
  case c1 => simp [HN.out]
  case c2 =>
    intro j u hu
    rw [Addr.add_lit, Nat.zero_add, World.cell?_alloc_lt _ _ _ hlt]
    simp only [World.cell?, HG.out, Option.isSome_none, Bool.false_eq_true, if_false]
    rw [← hu]; simp
  case c3 => intro u hu; obtain ⟨x, _, rfl⟩ := List.mem_map.1 hu; rfl
  case c4 => simp [maxLen]; omega
  case c5 => omega
  case c6 => simp
  intro v1 w1 hown hgrow _
  have hc2 : w1.cell? ⟨w.heap.size, 2, none⟩ = some (.int .u8 0) := hgrow.cell (by simp) (by simp [Value.ownBlock])
  have hb : Below w.heap.size w w1 := ((Below.refl _ _).alloc (Nat.le_refl _) _).grown hgrow (by simp) (fun k hk => by simp [Value.ownBlock] at hk)
  have HO := Lib.hid hown; clear hown hgrow
  have HB := Lib.hid hb; clear hb
  go_wp2
  refine wp_loop_once ?_
  go_wp2
  go_ret
  exact ⟨v1, rfl, HO.out, HB.out⟩
end Go.Proofs.Sh
