/- ShellNames: the law on the shell's numbers, limits and kinds returns true. The row holds, and so does its tied card: what the eight listed variables hold is what start-up lays. No other condition. -/
import Derived.Test.YtkoipiolcnielaaGreatDoorShCard
import Derived.Test.YtkoipiolcnielaaGreatDoorShLd
import Derived.Test.YtkoipiolcnielaaGreatDoorShLm
import Derived.Test.YtkoipiolcnielaaGreatDoorShFc
import Derived.Test.YtkoipiolcnielaaGreatDoorShFt
import Derived.ChangeSame
import Derived.ChangeVars
import Derived.JoinedOf
import Derived.RowKit
import Derived.RowKitTokens
import Derived.LaidLaws
import Derived.LaidHandle
import Derived.Stop.Joined
import Derived.ChangeMaps5
namespace Go.Proofs.YtkoipiolcnielaaGreatDoor
open Go.ChangeShapes Go.WideShapes Go.ChangeMaps Go.RowKit Go.Proofs.Tab

set_option maxRecDepth 100000 in
theorem shellNames_lifted (os : Os) (started : os.Started) (H : Type) (enc : TypeId × Value → H) :
    ReturnsInHanded {} Tryz.checked os 5 .any (fun w args => (Rows.shellNamesSpec.pre enc Tryz.prog Tryz.f5 [] false w args ∧ laidMetH Tryz.prog laid w) ∧ sizedMet enc Tryz.prog Tryz.f5 (OpenSpec.ofChange Rows.shellNamesSpec) false w args)
      (Rows.shellNamesSpec.post enc Tryz.prog Tryz.f5 false true false false) := by
  refine returnsInHanded_of_change_and (C := Tryz.checked) (X := fun w _ => laidMetH Tryz.prog laid w) (fun _ _ _ hh h => h.of_heap hh) own started (by kernel_rfl) Tryz.func5
    (ChangeSpec.witness_at (enc := enc) (C := Tryz.checked) (os := os) (X := fun w _ => laidMetH Tryz.prog laid w) false (laidWorld os) #[] 8 rfl (by kernel_rfl) (by kernel_rfl) (by kernel_rfl) (by kernel_rfl) (by kernel_rfl) (laidWorld_met os _)) ?_
  intro W base args ds gs before hval0 hW _ _ hL _
  have hW' := hW
  obtain ⟨p, q, hA0, hV0, rfl, hfz⟩ := hW
  have hA : DataW.TrodAll enc Tryz.prog W 0 (fun _ => true) true Tryz.f5.params.toList args.toList ds p := hA0
  have hV : DataW.TrodVars enc Tryz.prog W (fun _ => true) [] gs q := hV0
  rw [Tryz.params5] at hA
  obtain ⟨hargs, rfl, rfl⟩ := trodAll_nil hA
  obtain rfl : args = #[] := by simpa using hargs
  have hg := handle_of_laid hL
  obtain ⟨rfl, rfl⟩ : gs = [] ∧ q = [] := by
    cases gs with
    | nil => exact ⟨rfl, hV⟩
    | cons g r => exact absurd hV (by intro h; cases h)
  refine (Sh.shellNames_any W hg).mono fun e W' ⟨he, hb⟩ => ?_
  subst he
  have e1 : Rows.shellNamesSpec.fn H ([] ++ []) = { results := [.lit (.bool true)], args := [] } := by simp [Rows.shellNamesSpec]
  refine ⟨_, rfl, _, _, _, [], [], [], hW', ?_, ?_, ?_, hb.frame _, fun h => by cases h⟩
  · rw [e1]; exact trodAll_mk1 (shut_bool Tryz.underlying4 true)
  · rw [e1]; rfl
  · rw [e1]; rfl

set_option maxRecDepth 100000 in
theorem shellNames_facts : joinedFacts Tryz.prog 5 Tryz.f5 Rows.shellNamesSpec Rows.shellNamesRow = true := by
  unfold joinedFacts
  rw [Ft.laidOut, Ft.rowed, Fb.stopsNone, Fb.knobsNone, Fc.inPlace5, Fc.unfollowed5, Fc.recurses5, Fc.variables5, Ft.keysNot, Fb.heard, Fb.enters, Fb.liftsNot, Fb.makeIs]
  kernel_rfl

set_option maxRecDepth 100000 in
theorem shellNames_holds : Rows.ShellNamesSaid :=
  OpenClaim.holds_of_wide_leaving 5 Tryz.f5 rfl rfl rfl rfl rfl rfl rfl ⟨rfl, rfl, rfl, rfl, rfl⟩ rfl rfl rfl rfl rfl Fb.named5 Tryz.func5 shellNames_facts
    (of_decide_eq_true (by kernel_rfl)) (by unfold Func.isWrapper; rw [if_neg (of_decide_eq_false (by kernel_rfl))]; exact ⟨rfl, rfl⟩)
    (fun os started H enc _ => Sh.leaving_of_handed (shellNames_lifted os started H enc))

set_option maxRecDepth 100000 in
theorem shellNames_card : Rows.ShellNamesCardSaid :=
  tied_goes .later [.pinned, .data, .data, .data, .data, .sentinel, .sentinel, .handle] true (true, "a29c836b25a5be57718d333032336b9ed1b427d54b036514267cb8d65119ae69") true
    shellNames_holds (by kernel_rfl) (row_tie rfl rfl rfl) rfl ⟨rfl, rfl⟩ mainIs rfl
    (fun f fn hf hfn => by
      obtain rfl : f = 5 := (Option.some.inj (Fb.named5.symm.trans hf)).symm
      obtain rfl : fn = Tryz.f5 := (Option.some.inj (Tryz.func5.symm.trans hfn)).symm
      exact ⟨Fb.looksTrue.symm, fun j t ht => by
        rw [Tryz.params5] at ht
        simp at ht⟩)
    (goesBy_of Fb.named5 Fc.goes5)
#print axioms shellNames_card

end Go.Proofs.YtkoipiolcnielaaGreatDoor
