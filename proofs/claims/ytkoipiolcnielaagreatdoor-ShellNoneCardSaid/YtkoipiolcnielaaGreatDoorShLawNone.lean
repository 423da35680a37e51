/- ShellNone: for every text the law on shells that are none returns true, and its argument reads as it read. The row holds, and so does its tied card: what the eight listed variables hold is what start-up lays. No other condition. -/
import Derived.Test.YtkoipiolcnielaaGreatDoorShCard
import Derived.Test.YtkoipiolcnielaaGreatDoorShLd
import Derived.Test.YtkoipiolcnielaaGreatDoorShLm
import Derived.Test.YtkoipiolcnielaaGreatDoorShFc
import Derived.Test.YtkoipiolcnielaaGreatDoorShFt
import Derived.ChangeSame
import Derived.ChangeVars
import Derived.JoinedOf
import Derived.RowKit
import Derived.RowKitTokens
import Derived.LaidLaws
import Derived.LaidHandle
import Derived.Stop.Joined
import Derived.ChangeMaps5
namespace Go.Proofs.YtkoipiolcnielaaGreatDoor
open Go.ChangeShapes Go.WideShapes Go.ChangeMaps Go.RowKit Go.Proofs.Tab

set_option maxRecDepth 100000 in
theorem shellNone_lifted (os : Os) (started : os.Started) (H : Type) (enc : TypeId × Value → H) :
    ReturnsInHanded {} Tryz.checked os 4 .any (fun w args => (Rows.shellNoneSpec.pre enc Tryz.prog Tryz.f4 [] false w args ∧ laidMetH Tryz.prog laid w) ∧ sizedMet enc Tryz.prog Tryz.f4 (OpenSpec.ofChange Rows.shellNoneSpec) false w args)
      (Rows.shellNoneSpec.post enc Tryz.prog Tryz.f4 false true false false) := by
  refine returnsInHanded_of_change_and (C := Tryz.checked) (X := fun w _ => laidMetH Tryz.prog laid w) (fun _ _ _ hh h => h.of_heap hh) own started (by kernel_rfl) Tryz.func4
    (ChangeSpec.witness_at (enc := enc) (C := Tryz.checked) (os := os) (X := fun w _ => laidMetH Tryz.prog laid w) false (laidWorld os) #[.string ⟨#[]⟩] 8 rfl (by kernel_rfl) (by kernel_rfl) (by kernel_rfl) (by kernel_rfl) (by kernel_rfl) (laidWorld_met os _)) ?_
  intro W base args ds gs before hval0 hW _ _ hL _
  have hval : ∀ (j : Nat) t v, Tryz.f4.params[j]? = some t → args[j]? = some v → Value.okWide Tryz.prog W .any base t v := hval0
  have hW' := hW
  obtain ⟨p, q, hA0, hV0, rfl, hfz⟩ := hW
  have hA : DataW.TrodAll enc Tryz.prog W 0 (fun _ => true) true Tryz.f4.params.toList args.toList ds p := hA0
  have hV : DataW.TrodVars enc Tryz.prog W (fun _ => true) [] gs q := hV0
  rw [Tryz.params4] at hA hval
  obtain ⟨v0, d0, rfl, rfl, h0⟩ := trodAll_one hA
  obtain ⟨n, rfl, rfl, rfl, hwn⟩ := open_string Tryz.underlying9 (hval 0 9 v0 rfl rfl) h0
  have hg := handle_of_laid hL
  obtain ⟨rfl, rfl⟩ : gs = [] ∧ q = [] := by
    cases gs with
    | nil => exact ⟨rfl, hV⟩
    | cons g r => exact absurd hV (by intro h; cases h)
  refine (Sh.shellNone_any n W hg).mono fun e W' ⟨he, hb⟩ => ?_
  subst he
  have e1 : Rows.shellNoneSpec.fn H ([.lit (.string n.data.toList)] ++ []) = { results := [.lit (.bool true)], args := [.lit (.string n.data.toList)] } := by simp [Rows.shellNoneSpec]
  refine ⟨_, rfl, _, _, _, [], [], [], hW', ?_, ?_, ?_, hb.frame _, fun h => by cases h⟩
  · rw [e1]; exact trodAll_mk1 (shut_bool Tryz.underlying4 true)
  · rw [e1]; exact trodAll_mk1 (shut_string Tryz.underlying9 hwn)
  · rw [e1]; rfl

set_option maxRecDepth 100000 in
theorem shellNone_facts : joinedFacts Tryz.prog 4 Tryz.f4 Rows.shellNoneSpec Rows.shellNoneRow = true := by
  unfold joinedFacts
  rw [Ft.laidOut, Ft.rowed, Fb.stopsNone, Fb.knobsNone, Fc.inPlace4, Fc.unfollowed4, Fc.recurses4, Fc.variables4, Ft.keysNot, Fb.heard, Fb.enters, Fb.liftsNot, Fb.makeIs]
  kernel_rfl

set_option maxRecDepth 100000 in
theorem shellNone_holds : Rows.ShellNoneSaid :=
  OpenClaim.holds_of_wide_leaving 4 Tryz.f4 rfl rfl rfl rfl rfl rfl rfl ⟨rfl, rfl, rfl, rfl, rfl⟩ rfl rfl rfl rfl rfl Fb.named4 Tryz.func4 shellNone_facts
    (of_decide_eq_true (by kernel_rfl)) (by unfold Func.isWrapper; rw [if_neg (of_decide_eq_false (by kernel_rfl))]; exact ⟨rfl, rfl⟩)
    (fun os started H enc _ => Sh.leaving_of_handed (shellNone_lifted os started H enc))

set_option maxRecDepth 100000 in
theorem shellNone_card : Rows.ShellNoneCardSaid :=
  tied_goes .later [.pinned, .data, .data, .data, .data, .sentinel, .sentinel, .handle] true (true, "a29c836b25a5be57718d333032336b9ed1b427d54b036514267cb8d65119ae69") true
    shellNone_holds (by kernel_rfl) (row_tie rfl rfl rfl) rfl ⟨rfl, rfl⟩ mainIs rfl
    (fun f fn hf hfn => by
      obtain rfl : f = 4 := (Option.some.inj (Fb.named4.symm.trans hf)).symm
      obtain rfl : fn = Tryz.f4 := (Option.some.inj (Tryz.func4.symm.trans hfn)).symm
      exact ⟨Fb.looksTrue.symm, fun j t ht => by
        rw [Tryz.params4] at ht
        have h : t = 9 := by
          rcases j with _ | j
          · simpa using ht.symm
          · simp at ht
        subst h
        exact (show Tryz.prog.wantsStandIn 9 = false by kernel_rfl)⟩)
    (goesBy_of Fb.named4 Fc.goes4)
#print axioms shellNone_card

end Go.Proofs.YtkoipiolcnielaaGreatDoor
