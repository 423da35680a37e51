/- Which row of types is named error: one scan. Over the whole program of the cut; no condition beyond those that each theorem names. -/
import Derived.Test.YtkoipiolcnielaaGreatDoorProg
import Derived.KernelRfl
import GoSem.ClaimJoined
namespace Go.Proofs.Sh
open Go

/-- Is this row of the table of types the one of that name? -/
def namedB (name : List UInt8) (i : TypeInfo) : Bool :=
  match i.desc with
  | .named m _ => m.toUTF8.data.toList == name
  | _ => false
/-- The places in a list where it holds. -/
def placesOf (p : TypeInfo → Bool) : List TypeInfo → Nat → List Nat
  | [], _ => []
  | i :: r, k => match p i with
    | true => k :: placesOf p r (k + 1)
    | false => placesOf p r (k + 1)
theorem placesOf_mem {p : TypeInfo → Bool} : ∀ {l : List TypeInfo} {k t : Nat} {i : TypeInfo}, l[t]? = some i → p i = true → k + t ∈ placesOf p l k
  | [], _, _, _, h, _ => by simp at h
  | j :: r, k, 0, i, h, hp => by
    simp only [List.getElem?_cons_zero, Option.some.injEq] at h
    subst h
    simp [placesOf, hp]
  | j :: r, k, t + 1, i, h, hp => by
    simp only [List.getElem?_cons_succ] at h
    have ih := placesOf_mem (k := k + 1) h hp
    rw [show k + (t + 1) = k + 1 + t by omega]
    unfold placesOf
    cases p j with
    | true => exact List.mem_cons_of_mem _ ih
    | false => exact ih

theorem one_row_of {P : Program} {name : List UInt8} {r : Nat} (h0 : placesOf (namedB name) P.types.toList 0 = [r]) {t : Nat} (h : P.rowNamed t name = true) : t = r := by
  unfold Program.rowNamed at h
  cases hi : P.types[t]? with
  | none => simp [hi] at h
  | some i =>
    have hi' : P.types.toList[t]? = some i := by simpa using hi
    have hb : namedB name i = true := by
      rw [hi] at h
      unfold namedB
      simp only [Option.map_some] at h
      cases hd : i.desc <;> rw [hd] at h <;> first | exact h | cases h
    have := placesOf_mem (k := 0) hi' hb
    rw [h0] at this
    simpa using this

theorem errorRows : placesOf (namedB [101, 114, 114, 111, 114]) Tryz.prog.types.toList 0 = [45] := by kernel_rfl
theorem one_error {t : Nat} (h : Tryz.prog.rowNamed t [101, 114, 114, 111, 114] = true) : t = 45 := one_row_of errorRows h
end Go.Proofs.Sh
