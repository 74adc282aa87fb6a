/- hailer's law AesApart returns true whatever it is handed, and what it was handed reads as it did. No condition. -/
import Derived.Test.YtaknbogocnkmnaaE15
import Derived.Test.YtaknbogocnkmnaaSh20
namespace Go.Proofs.Ytaknbogocnkmnaa
open Go.ChangeShapes Go.WideShapes Go.ChangeAt Go.RowKit Go.Sh
set_option maxRecDepth 100000
set_option linter.unusedVariables false

theorem Try.ownAesApart : ownKnob Try.prog.godebug = none := by kernel_rfl
theorem Try.laidOutAesApart : laidOutB Try.prog = true := by kernel_rfl

theorem aesApart_lifted (os : Os) (started : os.Started) (H : Type) (enc : TypeId × Value → H) :
    ReturnsInHanded {} Try.checked os 10 .any (Rows.aesApartSpec.pre6 enc Try.prog Try.f10 Rows.aesApartRow.domain false) (Rows.aesApartSpec.post enc Try.prog Try.f10 false true false false) := by
  refine returnsInHanded_of_change (C := Try.checked) Try.ownAesApart started (by kernel_rfl) Try.func10
    (ChangeSpec.witness6 (enc := enc) (C := Try.checked) false ⟨#[], #[.int .u8 0, .int .u8 0, .agg #[.int .u8 0, .int .u8 0, .int .u8 0, .int .u8 0, .int .u8 0, .int .u8 0, .int .u8 0, .int .u8 0, .int .u8 0, .int .u8 0, .int .u8 0, .int .u8 0, .int .u8 0, .int .u8 0, .int .u8 0, .int .u8 0, .int .u8 0, .int .u8 0, .int .u8 0, .int .u8 0, .int .u8 0, .int .u8 0, .int .u8 0, .int .u8 0, .int .u8 0, .int .u8 0, .int .u8 0, .int .u8 0, .int .u8 0, .int .u8 0, .int .u8 0, .int .u8 0], .bool false, .agg #[.int .u8 0, .int .u8 0, .int .u8 0, .int .u8 0, .int .u8 0, .int .u8 0, .int .u8 0, .int .u8 0, .int .u8 0, .int .u8 0, .int .u8 0, .int .u8 0, .int .u8 0, .int .u8 0, .int .u8 0, .int .u8 0], .agg #[.int .u8 0, .int .u8 0, .int .u8 0, .int .u8 0, .int .u8 0, .int .u8 0, .int .u8 0, .int .u8 0, .int .u8 0, .int .u8 0, .int .u8 0, .int .u8 0, .int .u8 0, .int .u8 0, .int .u8 0, .int .u8 0]], []⟩ 8 (by kernel_rfl) (by kernel_rfl) (by kernel_rfl) (by kernel_rfl)) ?_
  intro W base args ds gs before hval0 hW hcnd hcn2
  have hval : ∀ (j : Nat) t v, Try.f10.params[j]? = some t → args[j]? = some v → Value.okWide Try.prog W .any base t v := hval0
  have hW' := hW
  obtain ⟨p, q, hA0, hV, rfl, hfz, hnd⟩ := hW
  have hA : DataW.TrodAll enc Try.prog W 0 (fun _ => true) true Try.f10.params.toList args.toList ds p := hA0
  rw [Try.params10] at hA hval
  obtain ⟨v0, r0, d0, e0, p0, q0, ha, rfl, rfl, h0, hr0⟩ := trodAll_cons hA
  obtain ⟨v1, r1, d1, e1, p1, q1, rfl, rfl, rfl, h1, hr1⟩ := trodAll_cons hr0
  obtain ⟨v2, r2, d2, e2, p2, q2, rfl, rfl, rfl, h2, hr2⟩ := trodAll_cons hr1
  obtain ⟨v3, r3, d3, e3, p3, q3, rfl, rfl, rfl, h3, hr3⟩ := trodAll_cons hr2
  obtain ⟨v4, r4, d4, e4, p4, q4, rfl, rfl, rfl, h4, hr4⟩ := trodAll_cons hr3
  obtain ⟨v5, r5, d5, e5, p5, q5, rfl, rfl, rfl, h5, hr5⟩ := trodAll_cons hr4
  obtain ⟨rfl, rfl, rfl⟩ := trodAll_nil hr5
  obtain rfl : args = #[v0, v1, v2, v3, v4, v5] := by cases args; simp_all
  obtain ⟨rfl, rfl⟩ := trodVars_none hV
  obtain ⟨y0, hy0, hr0⟩ := open_one_k (P := Try.prog) (k := 1) (by kernel_rfl : Try.prog.underlying 5 = some (.int .u8)) rfl (by decide) (hval 0 5 v0 rfl rfl) h0
  obtain ⟨x0, rfl⟩ := kd_1 hy0
  obtain ⟨y1, hy1, hr1⟩ := open_one_k (P := Try.prog) (k := 1) (by kernel_rfl : Try.prog.underlying 5 = some (.int .u8)) rfl (by decide) (hval 1 5 v1 rfl rfl) h1
  obtain ⟨x1, rfl⟩ := kd_1 hy1
  obtain ⟨y2, hy2, hr2⟩ := open_agg_k (P := Try.prog) (d := 12) (ks := List.replicate 32 1) (by kernel_rfl) (by kernel_rfl) (hval 2 89 v2 rfl rfl) h2
  obtain ⟨l2, rfl, hl2⟩ := kd_rep (f := SV.u8) (fun _ => kd_1) hy2
  obtain ⟨y3, hy3, hr3⟩ := open_one_k (P := Try.prog) (k := 5) (by kernel_rfl : Try.prog.underlying 4 = some (.bool)) rfl (by decide) (hval 3 4 v3 rfl rfl) h3
  obtain ⟨x3, rfl⟩ := kd_5 hy3
  obtain ⟨y4, hy4, hr4⟩ := open_agg_k (P := Try.prog) (d := 12) (ks := List.replicate 16 1) (by kernel_rfl) (by kernel_rfl) (hval 4 79 v4 rfl rfl) h4
  obtain ⟨l4, rfl, hl4⟩ := kd_rep (f := SV.u8) (fun _ => kd_1) hy4
  obtain ⟨y5, hy5, hr5⟩ := open_agg_k (P := Try.prog) (d := 12) (ks := List.replicate 16 1) (by kernel_rfl) (by kernel_rfl) (hval 5 79 v5 rfl rfl) h5
  obtain ⟨l5, rfl, hl5⟩ := kd_rep (f := SV.u8) (fun _ => kd_1) hy5
  have hc := calls_of_scall (f10 x0 x1 l2 l4 l5 x3 hl2 hl4 hl5) (ρ := fun id => none) (vs := [v0, v1, v2, v3, v4, v5]) (W := W) (fun id bb h => by simp [hg] at h)
    (Rels.cons (hr0 _) (Rels.cons (hr1 _) (Rels.cons (hr2 _) (Rels.cons (hr3 _) (Rels.cons (hr4 _) (Rels.cons (hr5 _) (Rels.nil_iff.2 rfl)))))))
    (fun id bb h => by simp [hg] at h)
    (fun id h => rfl)
  refine hc.mono fun e W' ⟨he, hb⟩ => ?_
  subst he
  exact ⟨_, rfl, same_post (bt := 4) Try.laidOutAesApart (by decide +kernel) Try.underlying4 (by kernel_rfl) rfl hW' rfl hb⟩

theorem aesApart_holds : Rows.AesApartSaid :=
  OpenClaim.holds_of_wide 10 Try.f10 rfl rfl rfl rfl rfl rfl rfl ⟨rfl, rfl, rfl, rfl, rfl⟩ rfl rfl rfl rfl rfl (by kernel_rfl) Try.func10 (by kernel_rfl)
    (of_decide_eq_true (by kernel_rfl)) (by unfold Func.isWrapper; first | (rw [if_pos (by decide +kernel)]; kernel_rfl) | (rw [if_neg (by decide +kernel)]; exact ⟨rfl, rfl⟩))
    (fun os started H enc hx => aesApart_lifted os started H enc)
end Go.Proofs.Ytaknbogocnkmnaa
#print axioms Go.Proofs.Ytaknbogocnkmnaa.aesApart_holds
