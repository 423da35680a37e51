/- How a world may turn where one block alone, or new blocks alone, are written: the words for it and their laws. Over the whole program of the cut; no condition beyond those that each theorem names. -/
import Derived.WalkKit
import Derived.WalkLawsBesides
import Derived.WalkSpells
import Derived.Lib.Hide
import Derived.Outline
namespace Go.Proofs.Sh
open Go.RowKit

/-- Block m alone may have turned; new blocks may have come. -/
structure Keep (m : Nat) (w w' : World) : Prop where
  os : w'.os = w.os
  tape : w'.tape = w.tape
  output : w'.output = w.output
  size : w.heap.size ≤ w'.heap.size
  block : ∀ k, k < w.heap.size → k ≠ m → w'.heap[k]? = w.heap[k]?

theorem Keep.refl (m : Nat) (w : World) : Keep m w w := ⟨rfl, rfl, rfl, Nat.le_refl _, fun _ _ _ => rfl⟩
theorem Keep.trans {m : Nat} {a b c : World} (h : Keep m a b) (k : Keep m b c) : Keep m a c :=
  ⟨k.os.trans h.os, k.tape.trans h.tape, k.output.trans h.output, Nat.le_trans h.size k.size, fun i hi hm => (k.block i (Nat.lt_of_lt_of_le hi h.size) hm).trans (h.block i hi hm)⟩
theorem Keep.of_below {m : Nat} {w w' : World} (h : Below w.heap.size w w') : Keep m w w' := ⟨h.os, h.tape, h.output, h.size, fun k hk _ => h.block k hk⟩
theorem Keep.alloc {m : Nat} {a w : World} (h : Keep m a w) (o : Obj) : Keep m a (w.alloc o) :=
  h.trans ⟨rfl, rfl, rfl, by simp, fun k hk _ => Below.heap_alloc _ _ _ hk⟩
theorem Keep.drew {m : Nat} {a w : World} (h : Keep m a w) : Keep m a w.drew := ⟨h.os, h.tape, h.output, h.size, h.block⟩
theorem Keep.below {B m : Nat} {a w w' : World} (h : Below B a w) (k : Keep m w w') (hB : B ≤ m) (hs : B ≤ w.heap.size) : Below B a w' :=
  ⟨k.os.trans h.os, k.tape.trans h.tape, k.output.trans h.output, Nat.le_trans h.size k.size, fun i hi => (k.block i (by omega) (by omega)).trans (h.block i hi)⟩
theorem Keep.cell {m : Nat} {w w' : World} (h : Keep m w w') {p : Addr} (hp : p.block < w.heap.size) (hm : p.block ≠ m) : w'.cell? p = w.cell? p :=
  World.cell?_of_block (w := w) (h.block p.block hp hm)
theorem Keep.frozen {m : Nat} {w w' : World} (h : Keep m w w') {p : Addr} (hp : p.block < w.heap.size) (hm : p.block ≠ m) : w'.frozen? p = w.frozen? p :=
  World.frozen?_of_block (w := w) (h.block p.block hp hm)

/-- The keys of a map's entries. -/
def keysOf (es : List MapEntry) (ks : List ByteArray) : Prop := es.map (·.key) = ks.map Value.string

theorem beq_self_ba (a : ByteArray) : (a == a) = true := by show (a.data == a.data) = true; simp
theorem beq_ne_ba {a b : ByteArray} (h : a ≠ b) : (a == b) = false := by
  show (a.data == b.data) = false
  simp only [beq_eq_false_iff_ne, ne_eq]
  exact fun e => h (by cases a; cases b; simp_all)

/-- How a map keyed by strings is searched. -/
theorem findNow_keys (k : ByteArray) : ∀ (es : List MapEntry) (ks : List ByteArray) (i : Nat), keysOf es ks →
    Instr.findNow .string (.string k) es i = some (match ks.findIdx? (· == k) with | some j => (es[j]?).map (fun e => (i + j, e.val)) | none => none)
  | [], [], _, _ => by simp [Instr.findNow]
  | [], _ :: _, _, h => by simp [keysOf] at h
  | _ :: _, [], _, h => by simp [keysOf] at h
  | e :: es, k0 :: ks, i, h => by
    simp only [keysOf, List.map_cons, List.cons.injEq] at h
    have ih := findNow_keys k es ks (i + 1) h.2
    simp only [Instr.findNow, h.1, Instr.sameNow]
    by_cases hk : k = k0
    · subst hk; simp [List.findIdx?_cons, beq_self_ba]
    · have e1 : (k == k0) = false := beq_ne_ba hk
      have e2 : (k0 == k) = false := beq_ne_ba (fun e => hk e.symm)
      simp only [e1, ih, List.findIdx?_cons, e2]
      cases hf : List.findIdx? (fun x => x == k) ks with
      | none => simp
      | some j =>
        simp only [Option.map_some]
        congr 2
        funext e
        simp; omega

end Go.Proofs.Sh
