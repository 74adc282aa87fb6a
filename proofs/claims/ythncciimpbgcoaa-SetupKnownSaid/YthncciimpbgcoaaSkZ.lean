/- hailer's law SetupKnown returns true whatever it is handed, and what it was handed reads as it did. No condition. -/
import Derived.Test.YthncciimpbgcoaaSk5
namespace Go.Proofs.Ythncciimpbgcoaa
open Go.ChangeShapes Go.WideShapes Go.ChangeAt Go.RowKit Go.Sh
set_option maxRecDepth 100000
set_option linter.unusedVariables false

theorem Try.ownSetupKnown : ownKnob Try.prog.godebug = none := by kernel_rfl
theorem Try.laidOutSetupKnown : laidOutB Try.prog = true := by kernel_rfl

theorem setupKnown_lifted (os : Os) (started : os.Started) (H : Type) (enc : TypeId × Value → H) :
    ReturnsInHanded {} Try.checked os 3 .any (Rows.setupKnownSpec.pre6 enc Try.prog Try.f3 Rows.setupKnownRow.domain false) (Rows.setupKnownSpec.post enc Try.prog Try.f3 false true false false) := by
  refine returnsInHanded_of_change (C := Try.checked) Try.ownSetupKnown started (by kernel_rfl) Try.func3
    (ChangeSpec.witness6 (enc := enc) (C := Try.checked) false ⟨#[], #[], []⟩ 8 (by kernel_rfl) (by kernel_rfl) (by kernel_rfl) (by kernel_rfl)) ?_
  intro W base args ds gs before hval0 hW hcnd hcn2
  have hval : ∀ (j : Nat) t v, Try.f3.params[j]? = some t → args[j]? = some v → Value.okWide Try.prog W .any base t v := hval0
  have hW' := hW
  obtain ⟨p, q, hA0, hV, rfl, hfz, hnd⟩ := hW
  have hA : DataW.TrodAll enc Try.prog W 0 (fun _ => true) true Try.f3.params.toList args.toList ds p := hA0
  rw [Try.params3] at hA hval
  obtain ⟨rfl, rfl, rfl⟩ := trodAll_none hA
  obtain ⟨rfl, rfl⟩ := trodVars_none hV
  have hc := calls_of_scall (s3) (ρ := fun id => none) (vs := []) (W := W) (fun id bb h => by simp [hg] at h)
    (Rels.nil_iff.2 rfl)
    (fun id bb h => by simp [hg] at h)
    (fun id h => rfl)
  refine hc.mono fun e W' ⟨he, hb⟩ => ?_
  subst he
  exact ⟨_, rfl, same_post (bt := 4) Try.laidOutSetupKnown (by decide +kernel) Try.underlying4 (by kernel_rfl) rfl hW' rfl hb⟩

theorem setupKnown_holds : Rows.SetupKnownSaid :=
  OpenClaim.holds_of_wide 3 Try.f3 rfl rfl rfl rfl rfl rfl rfl ⟨rfl, rfl, rfl, rfl, rfl⟩ rfl rfl rfl rfl rfl (by kernel_rfl) Try.func3 (by kernel_rfl)
    (of_decide_eq_true (by kernel_rfl)) (by unfold Func.isWrapper; first | (rw [if_pos (by decide +kernel)]; kernel_rfl) | (rw [if_neg (by decide +kernel)]; exact ⟨rfl, rfl⟩))
    (fun os started H enc hx => setupKnown_lifted os started H enc)
end Go.Proofs.Ythncciimpbgcoaa
#print axioms Go.Proofs.Ythncciimpbgcoaa.setupKnown_holds
