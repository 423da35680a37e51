/- General laws for asking closed facts of a great program cheaply: one scan over a list in the place of a lookup by index at each place; the walk over all callees with a mask of bits in the place of a list of what was seen. No program in sight. -/
import Derived.JoinedOf
import Derived.KernelRfl
import Derived.LaidOnce
import Derived.LaidByTextLater
import Derived.Conc.Holds
import GoSem.ClaimSeven
namespace Go.Proofs.Tab
open Go

/-- A place of a list, by bare recursors: what the kernel unfolds quickest. -/
noncomputable def idx {α : Type} (l : List α) : Nat → Option α :=
  List.rec (motive := fun _ => Nat → Option α) (fun _ => none) (fun a _ ih i => Nat.rec (motive := fun _ => Option α) (some a) (fun n _ => ih n) i) l

theorem idx_eq {α : Type} (l : List α) (i : Nat) : idx l i = l[i]? := by
  induction l generalizing i with
  | nil => rfl
  | cons a r ih =>
    cases i with
    | zero => rfl
    | succ n => rw [List.getElem?_cons_succ, ← ih n]; rfl

theorem arr_at {α : Type} (a : Array α) (i : Nat) : a[i]? = idx a.toList i := by
  rw [idx_eq, Array.getElem?_toList]

/-- The places of a list at which it holds. -/
noncomputable def places {α : Type} (q : α → Bool) : List α → Nat → List Nat :=
  fun l => List.rec (motive := fun _ => Nat → List Nat) (fun _ => []) (fun a _ ih k => Bool.rec (ih (k + 1)) (k :: ih (k + 1)) (q a)) l

theorem filter_places {α : Type} (q : α → Bool) : ∀ (l : List α) (k : Nat), (List.range' k l.length).filter (fun i => (l[i - k]?).any q) = places q l k
  | [], k => rfl
  | a :: r, k => by
    have ih := filter_places q r (k + 1)
    have e : (List.range' (k + 1) r.length).filter (fun i => ((a :: r)[i - k]?).any q) = (List.range' (k + 1) r.length).filter (fun i => (r[i - (k + 1)]?).any q) := by
      apply List.filter_congr
      intro i hi
      have h1 := (List.mem_range'_1.1 hi).1
      rw [show i - k = (i - (k + 1)) + 1 by omega, List.getElem?_cons_succ]
    show (List.range' k (r.length + 1)).filter _ = _
    rw [List.range'_succ, List.filter_cons, e, ih]
    simp only [Nat.sub_self, List.getElem?_cons_zero, Option.any_some]
    cases h : q a with
    | true => simp [places, h]
    | false => simp [places, h]

theorem funcNamed_of {P : Program} {name : String} {f : Nat} (h : places (fun fn : Func => fn.name == name) P.funcs.toList 0 = [f]) : P.funcNamed name = some f := by
  have e : (List.range P.funcs.size).filter (fun i => (P.funcs[i]?).any (·.name == name)) = [f] := by
    rw [← h, ← filter_places, ← Array.length_toList, List.range_eq_range']
    simp
  unfold Program.funcNamed
  rw [e]

theorem worded_list (P : Program) (w : String) : P.worded w = P.funcs.toList.any fun fn => fn.body.isNone && fn.name == w := by
  unfold Program.worded
  rw [Array.any_toList]

/-- Many chunks for one range. -/
theorem all_chunks {p : Nat → Bool} {n : Nat} (L : List (List Nat)) (hL : L.flatten = List.range n) (h : ∀ l ∈ L, l.all p = true) : (List.range n).all p = true := by
  rw [← hL, List.all_flatten]
  exact List.all_eq_true.2 h

/-! The walk over all callees. -/

/-- What was seen stands in a mask of bits. -/
noncomputable def viaM (lt : Nat → List Nat) (n : Nat) : List Nat → Nat → List Nat → List Nat :=
  Nat.rec (motive := fun _ => List Nat → Nat → List Nat → List Nat) (fun _ _ acc => acc)
    (fun _ ih todo mask acc => List.rec (motive := fun _ => List Nat) acc (fun f todo' _ =>
      Bool.rec (ih (lt f ++ todo') (Nat.lor mask (Nat.shiftLeft 1 f)) (f :: acc)) (ih todo' mask acc) (Nat.testBit mask f)) todo) n

theorem mask_step {mask : Nat} {seen : List Nat} (h : ∀ g, mask.testBit g = seen.contains g) (f g : Nat) : (Nat.lor mask (Nat.shiftLeft 1 f)).testBit g = (f :: seen).contains g := by
  show (mask ||| 1 <<< f).testBit g = _
  rw [Nat.testBit_or, h g, Nat.one_shiftLeft, Nat.testBit_two_pow, List.contains_cons, Bool.or_comm]
  congr 1
  cases hd : decide (f = g) with
  | true => rw [of_decide_eq_true hd]; simp
  | false =>
    have : ¬ f = g := of_decide_eq_false hd
    symm
    rw [beq_eq_false_iff_ne]
    exact fun h => this h.symm

theorem via_eq {P : Program} : ∀ (n : Nat) (todo : List Nat) (mask : Nat) (seen : List Nat), (∀ g, mask.testBit g = seen.contains g) →
    P.closureVia n todo seen = (viaM (fun f => (idx P.funcs.toList f).elim [] P.leadsTo) n todo mask seen).reverse
  | 0, todo, mask, seen, _ => by unfold Program.closureVia; rfl
  | n + 1, [], mask, seen, _ => by unfold Program.closureVia; rfl
  | n + 1, f :: todo, mask, seen, h => by
    unfold Program.closureVia
    have hm := h f
    cases hs : seen.contains f with
    | true =>
      rw [hs] at hm
      rw [if_pos rfl, via_eq n todo mask seen h]
      show _ = (Bool.rec _ _ (Nat.testBit mask f) : List Nat).reverse
      rw [hm]
      rfl
    | false =>
      rw [hs] at hm
      rw [if_neg (by simp), via_eq n _ _ (f :: seen) (mask_step h f), arr_at]
      show _ = (Bool.rec _ _ (Nat.testBit mask f) : List Nat).reverse
      rw [hm]
      rfl

/-- The whole set of callees, out of one sum and one walk. -/
theorem closure_of {P : Program} {S f : Nat} {C : List Nat} (hS : (P.funcs.toList.map fun g => (P.leadsTo g).length + 1).sum = S)
    (h : (viaM (fun f => (idx P.funcs.toList f).elim [] P.leadsTo) (1 + S) [f] 0 []).reverse = C) : P.closure f = C := by
  unfold Program.closure
  rw [hS, via_eq (1 + S) [f] 0 [] (fun g => by simp), h]

#print axioms closure_of
#print axioms funcNamed_of
end Go.Proofs.Tab
