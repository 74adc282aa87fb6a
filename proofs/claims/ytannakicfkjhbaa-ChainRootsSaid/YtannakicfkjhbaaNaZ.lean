/- hailer's law ChainRoots returns true whatever it is handed, and what it was handed reads as it did. No condition. -/
import Derived.Test.YtannakicfkjhbaaNa6
namespace Go.Proofs.Ytannakicfkjhbaa
open Go.ChangeShapes Go.WideShapes Go.ChangeAt Go.RowKit Go.Sh
set_option maxRecDepth 100000
set_option linter.unusedVariables false

theorem Try.ownChainRoots : ownKnob Try.prog.godebug = none := by kernel_rfl
theorem Try.laidOutChainRoots : laidOutB Try.prog = true := by kernel_rfl

theorem chainRoots_lifted (os : Os) (started : os.Started) (H : Type) (enc : TypeId × Value → H) :
    ReturnsInHanded {} Try.checked os 16 .any (Rows.chainRootsSpec.pre6 enc Try.prog Try.f16 Rows.chainRootsRow.domain false) (Rows.chainRootsSpec.post enc Try.prog Try.f16 false true false false) := by
  refine returnsInHanded_of_change (C := Try.checked) Try.ownChainRoots started (by kernel_rfl) Try.func16
    (ChangeSpec.witness6 (enc := enc) (C := Try.checked) false ⟨#[], #[.agg #[.int .u8 0, .int .u8 0, .int .u8 0, .int .u8 0, .int .u8 0, .int .u8 0, .int .u8 0, .int .u8 0, .int .u8 0, .int .u8 0, .int .u8 0, .int .u8 0, .int .u8 0, .int .u8 0, .int .u8 0, .int .u8 0, .int .u8 0, .int .u8 0, .int .u8 0, .int .u8 0, .int .u8 0, .int .u8 0, .int .u8 0, .int .u8 0, .int .u8 0, .int .u8 0, .int .u8 0, .int .u8 0, .int .u8 0, .int .u8 0, .int .u8 0, .int .u8 0], .agg #[.int .u8 0, .int .u8 0, .int .u8 0, .int .u8 0, .int .u8 0, .int .u8 0, .int .u8 0, .int .u8 0, .int .u8 0, .int .u8 0, .int .u8 0, .int .u8 0, .int .u8 0, .int .u8 0, .int .u8 0, .int .u8 0, .int .u8 0, .int .u8 0, .int .u8 0, .int .u8 0, .int .u8 0, .int .u8 0, .int .u8 0, .int .u8 0, .int .u8 0, .int .u8 0, .int .u8 0, .int .u8 0, .int .u8 0, .int .u8 0, .int .u8 0, .int .u8 0]], []⟩ 8 (by kernel_rfl) (by kernel_rfl) (by kernel_rfl) (by kernel_rfl)) ?_
  intro W base args ds gs before hval0 hW hcnd hcn2
  have hval : ∀ (j : Nat) t v, Try.f16.params[j]? = some t → args[j]? = some v → Value.okWide Try.prog W .any base t v := hval0
  have hW' := hW
  obtain ⟨p, q, hA0, hV, rfl, hfz, hnd⟩ := hW
  have hA : DataW.TrodAll enc Try.prog W 0 (fun _ => true) true Try.f16.params.toList args.toList ds p := hA0
  rw [Try.params16] at hA hval
  obtain ⟨v0, r0, d0, e0, p0, q0, ha, rfl, rfl, h0, hr0⟩ := trodAll_cons hA
  obtain ⟨v1, r1, d1, e1, p1, q1, rfl, rfl, rfl, h1, hr1⟩ := trodAll_cons hr0
  obtain ⟨rfl, rfl, rfl⟩ := trodAll_nil hr1
  obtain rfl : args = #[v0, v1] := by cases args; simp_all
  obtain ⟨rfl, rfl⟩ := trodVars_none hV
  obtain ⟨y0, hy0, hr0⟩ := open_agg_k (P := Try.prog) (d := 12) (ks := List.replicate 32 1) (by kernel_rfl) (by kernel_rfl) (hval 0 55 v0 rfl rfl) h0
  obtain ⟨l0, rfl, hl0⟩ := kd_rep (f := SV.u8) (fun _ => kd_1) hy0
  obtain ⟨y1, hy1, hr1⟩ := open_agg_k (P := Try.prog) (d := 12) (ks := List.replicate 32 1) (by kernel_rfl) (by kernel_rfl) (hval 1 55 v1 rfl rfl) h1
  obtain ⟨l1, rfl, hl1⟩ := kd_rep (f := SV.u8) (fun _ => kd_1) hy1
  have hc := calls_of_scall (f16 l0 l1 hl0 hl1) (ρ := fun id => none) (vs := [v0, v1]) (W := W) (fun id bb h => by simp [hg] at h)
    (Rels.cons (hr0 _) (Rels.cons (hr1 _) (Rels.nil_iff.2 rfl)))
    (fun id bb h => by simp [hg] at h)
    (fun id h => rfl)
  refine hc.mono fun e W' ⟨he, hb⟩ => ?_
  subst he
  exact ⟨_, rfl, same_post (bt := 4) Try.laidOutChainRoots (by decide +kernel) Try.underlying4 (by kernel_rfl) rfl hW' rfl hb⟩

theorem chainRoots_holds : Rows.ChainRootsSaid :=
  OpenClaim.holds_of_wide 16 Try.f16 rfl rfl rfl rfl rfl rfl rfl ⟨rfl, rfl, rfl, rfl, rfl⟩ rfl rfl rfl rfl rfl (by kernel_rfl) Try.func16 (by kernel_rfl)
    (of_decide_eq_true (by kernel_rfl)) (by unfold Func.isWrapper; first | (rw [if_pos (by decide +kernel)]; kernel_rfl) | (rw [if_neg (by decide +kernel)]; exact ⟨rfl, rfl⟩))
    (fun os started H enc hx => chainRoots_lifted os started H enc)
end Go.Proofs.Ytannakicfkjhbaa
#print axioms Go.Proofs.Ytannakicfkjhbaa.chainRoots_holds
