/- A verb is met or not, a file and a name are read: the walks. Over the whole program of the cut; no condition beyond those that each theorem names. -/
import Derived.Test.YtkoipiolcnielaaGreatDoorShT
import Derived.Laws.OwnMore
namespace Go.Proofs.Sh
open Go.RowKit

theorem verb_hit {s : Value} {w w1 : World} {M kb : Nat} (hI : CmdInv w.heap.size M kb s verbs w w1) (i : Nat) (x : Verb) (hx : verbs[i]? = some (x, true)) (hix : (verbs.map (·.1.name)).findIdx? (· == x.name) = some i) :
    ∃ g c, w1.heap[g]? = some (.cells (x.wants.map (Value.int .u8)).toArray 67) ∧
      (Instr.lookup 71 (.map (some M)) (.string x.name) true).run Tryz.prog w1 = .ok (.tuple #[.agg #[.func (.func x.fid) #[s] #[], .slice (some ⟨g, 0, none⟩) x.wants.length c, .int .u8 x.more], .bool true]) w1 := by
  obtain ⟨es, h1, h2, h3⟩ := hI.map
  obtain ⟨e, he, hv⟩ := h3 i _ hx
  obtain ⟨g, c, _, hval, hg⟩ := hv rfl
  refine ⟨g, c, hg, ?_⟩
  have hl := run_lookup_ok Tryz.underlying71 Tryz.underlying9 w1 M es _ _ h1 h2 x.name i e hix he
  rw [hval] at hl
  exact hl

theorem verb_miss {s : Value} {w w1 : World} {M kb : Nat} (hI : CmdInv w.heap.size M kb s verbs w w1) (nm : ByteArray) (hix : (verbs.map (·.1.name)).findIdx? (· == nm) = none) :
    (Instr.lookup 71 (.map (some M)) (.string nm) true).run Tryz.prog w1 = .ok (.tuple #[.agg #[.nilFunc, .slice none 0 0, .int .u8 0], .bool false]) w1 := by
  obtain ⟨es, h1, h2, h3⟩ := hI.map
  exact run_lookup_miss Tryz.underlying71 Tryz.underlying9 w1 (by kernel_rfl) M es _ _ h1 h2 nm hix


theorem ownsRow_shapeM {w : World} {B m : Nat} {t : TypeId} {n : Nat} {v : Value} {xs : List Value} (h : w.ownsRow B t m v n xs) (h1 : 1 ≤ n) : ∃ g cap, v = .slice (some ⟨g, 0, none⟩) n cap := by
  rcases h.2 with ⟨_, h0⟩ | ⟨g, cap, cur, hv, hg, _⟩
  · omega
  · exact ⟨g, cap, hv⟩

theorem wanted_two (f : Value) (g c : Nat) (k1 k2 : Int) (w : World) (hg : w.heap[g]? = some (.cells #[.int .u8 k1, .int .u8 k2] 67)) (hf : f.oneCell' = true) :
    Calls Tryz.prog 28 #[.agg #[f, .slice (some ⟨g, 0, none⟩) 2 c, .int .u8 0], .int .i64 2] w (fun e w' => ∃ kg kc, e = .returned (.slice (some ⟨kg, 0, none⟩) 2 kc) ∧
      w'.cell? ⟨kg, 0, none⟩ = some (.int .u8 k1) ∧ w'.cell? ⟨kg, 1, none⟩ = some (.int .u8 k2) ∧ Below w.heap.size w w') := by
  refine (wanted_plain f g c [k1, k2] 2 w (by simp) (by simp) hg hf).mono ?_
  rintro e w' ⟨v, rfl, hown, hb⟩
  obtain ⟨kg, kc, rfl, _⟩ := ownsRow_shape hown (by simp)
  exact ⟨kg, kc, rfl, by rw [hown.cellAt 0 (by simp)]; rfl, by rw [hown.cellAt 1 (by simp)]; rfl, hb⟩
theorem wanted_one (f : Value) (g c : Nat) (k1 : Int) (w : World) (hg : w.heap[g]? = some (.cells #[.int .u8 k1] 67)) (hf : f.oneCell' = true) :
    Calls Tryz.prog 28 #[.agg #[f, .slice (some ⟨g, 0, none⟩) 1 c, .int .u8 0], .int .i64 1] w (fun e w' => ∃ kg kc, e = .returned (.slice (some ⟨kg, 0, none⟩) 1 kc) ∧
      w'.cell? ⟨kg, 0, none⟩ = some (.int .u8 k1) ∧ Below w.heap.size w w') := by
  refine (wanted_plain f g c [k1] 1 w (by simp) (by simp) hg hf).mono ?_
  rintro e w' ⟨v, rfl, hown, hb⟩
  obtain ⟨kg, kc, rfl, _⟩ := ownsRow_shape hown (by simp)
  exact ⟨kg, kc, rfl, by rw [hown.cellAt 0 (by simp)]; rfl, hb⟩

/-- The cells of one argument that was read. -/
structure ArgAt (w : World) (b i : Nat) (k : Int) (s : ByteArray) (v : Value) : Prop where
  c0 : w.cell? ⟨b, 4 * i, none⟩ = some (.int .u8 k)
  c1 : w.cell? ⟨b, 4 * i + 1, none⟩ = some (.string s)
  c2 : w.cell? ⟨b, 4 * i + 2, none⟩ = some v
  c3 : w.cell? ⟨b, 4 * i + 3, none⟩ = some (.int .i64 0)
theorem ArgAt.below {w w' : World} {b i : Nat} {k : Int} {s : ByteArray} {v : Value} {B : Nat} (h : ArgAt w b i k s v) (hb : Below B w w') (hB : b < B) : ArgAt w' b i k s v :=
  ⟨by rw [hb.cell hB]; exact h.c0, by rw [hb.cell hB]; exact h.c1, by rw [hb.cell hB]; exact h.c2, by rw [hb.cell hB]; exact h.c3⟩

/-- The six letters' bytes and a name, read. -/
def ReadFile (s : ByteArray) (W : World) (e : Ending) (w' : World) : Prop :=
  ∃ rb rc g cap, e = .returned (.tuple #[.slice (some ⟨rb, 0, none⟩) 2 rc, .bool true]) ∧ W.heap.size ≤ rb ∧ W.heap.size ≤ g ∧ SixAt g w' ∧
    ArgAt w' rb 0 1 s (.slice none 0 0) ∧ ArgAt w' rb 1 11 letters (.slice (some ⟨g, 0, none⟩) 6 cap) ∧ Below W.heap.size W w'
theorem read_file (s : ByteArray) (hne : s.toList.isEmpty = false) (hsz : s.size ≤ 32) (hall : ∀ k (h : k < s.size), plainByte s[k]) (b o c g c2 : Nat) (w : World)
    (hw0 : w.cell? ⟨b, o, none⟩ = some (.string s)) (hk0 : w.cell? ⟨g, 0, none⟩ = some (.int .u8 1))
    (hw1 : w.cell? ⟨b, o + 1, none⟩ = some (.string letters)) (hk1 : w.cell? ⟨g, 1, none⟩ = some (.int .u8 11)) :
    Calls Tryz.prog 27 #[.slice (some ⟨b, o, none⟩) 2 c, .slice (some ⟨g, 0, none⟩) 2 c2] w (ReadFile s w) := by
  refine (read2 1 s 11 letters [102, 111, 111, 98, 97, 114] b o c g c2 w (one_name 1 (by decide) (by decide) s · (named_plain s hne hsz hall)) (one_code' letters [102, 111, 111, 98, 97, 114] (by kernel_rfl) (by decide) bytes_letters) hw0 hk0 hw1 hk1).mono ?_
  rintro e w' ⟨v2, vr, rfl, ho2, hor, hb⟩
  obtain ⟨g6, cap6, rfl, hg6⟩ := ownsRow_shape ho2 (by simp)
  obtain ⟨p, rc, rfl⟩ := ownsRow_slice hor
  obtain ⟨rb, rc', hv⟩ := ownsRow_shapeM hor (by decide)
  cases hv
  have hrb := (hor.lt rb rfl).1
  refine ⟨rb, rc, g6, cap6, rfl, hrb, hg6, ?_, ?_, ?_, hb⟩
  · intro j x hx
    have hj : j < 6 := by
      have := (List.getElem?_eq_some_iff.1 hx).1; simpa using this
    rw [ho2.cellAt j (by simpa using hj), List.getElem?_map, hx]; rfl
  · exact ⟨by rw [hor.cellAt 0 (by decide)]; rfl, by rw [hor.cellAt 1 (by decide)]; rfl, by rw [hor.cellAt 2 (by decide)]; rfl, by rw [hor.cellAt 3 (by decide)]; rfl⟩
  · exact ⟨by rw [hor.cellAt 4 (by decide)]; rfl, by rw [hor.cellAt 5 (by decide)]; rfl, by rw [hor.cellAt 6 (by decide)]; rfl, by rw [hor.cellAt 7 (by decide)]; rfl⟩
/-- A name, read. -/
def ReadName (k : Int) (s : ByteArray) (W : World) (e : Ending) (w' : World) : Prop :=
  ∃ rb rc p cp, e = .returned (.tuple #[.slice (some ⟨rb, 0, none⟩) 1 rc, .bool true]) ∧ W.heap.size ≤ rb ∧ ArgAt w' rb 0 k s (.slice p 0 cp) ∧ Below W.heap.size W w'
theorem read_name (k : Int) (hk : 1 ≤ k) (hk2 : k ≤ 6) (s : ByteArray) (hne : s.toList.isEmpty = false) (hsz : s.size ≤ 32) (hall : ∀ k (h : k < s.size), plainByte s[k]) (b o c g c2 : Nat) (w : World)
    (hw0 : w.cell? ⟨b, o, none⟩ = some (.string s)) (hk0 : w.cell? ⟨g, 0, none⟩ = some (.int .u8 k)) :
    Calls Tryz.prog 27 #[.slice (some ⟨b, o, none⟩) 1 c, .slice (some ⟨g, 0, none⟩) 1 c2] w (ReadName k s w) := by
  refine (read1 k s [] b o c g c2 w (one_name' k hk hk2 s (named_plain s hne hsz hall)) hw0 hk0).mono ?_
  rintro e w' ⟨v, vr, rfl, ho, hor, hb⟩
  obtain ⟨p, cp, rfl⟩ := ownsRow_slice ho
  obtain ⟨_, rc, rfl⟩ := ownsRow_slice hor
  obtain ⟨rb, rc', hv⟩ := ownsRow_shapeM hor (by decide)
  cases hv
  exact ⟨rb, rc, p, cp, rfl, (hor.lt rb rfl).1, ⟨by rw [hor.cellAt 0 (by decide)]; rfl, by rw [hor.cellAt 1 (by decide)]; rfl, by rw [hor.cellAt 2 (by decide)]; rfl, by rw [hor.cellAt 3 (by decide)]; rfl⟩, hb⟩
end Go.Proofs.Sh
