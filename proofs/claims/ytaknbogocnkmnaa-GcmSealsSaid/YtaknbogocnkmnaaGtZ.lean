/- hailer's law GcmSeals returns true whatever it is handed, and what it was handed reads as it did. No condition. -/
import Derived.Test.YtaknbogocnkmnaaGt1
namespace Go.Proofs.Ytaknbogocnkmnaa
open Go.ChangeShapes Go.WideShapes Go.ChangeAt Go.RowKit Go.Sh
set_option maxRecDepth 100000
set_option linter.unusedVariables false

theorem Try.ownGcmSeals : ownKnob Try.prog.godebug = none := by kernel_rfl
theorem Try.laidOutGcmSeals : laidOutB Try.prog = true := by kernel_rfl

theorem gcmSeals_lifted (os : Os) (started : os.Started) (H : Type) (enc : TypeId × Value → H) :
    ReturnsInHanded {} Try.checked os 13 .any (Rows.gcmSealsSpec.pre6 enc Try.prog Try.f13 Rows.gcmSealsRow.domain false) (Rows.gcmSealsSpec.post enc Try.prog Try.f13 false true false false) := by
  refine returnsInHanded_of_change (C := Try.checked) Try.ownGcmSeals started (by kernel_rfl) Try.func13
    (ChangeSpec.witness6 (enc := enc) (C := Try.checked) false ⟨#[], #[.slice none 0 0, .agg #[.int .u8 0, .int .u8 0, .int .u8 0, .int .u8 0, .int .u8 0, .int .u8 0, .int .u8 0, .int .u8 0, .int .u8 0, .int .u8 0, .int .u8 0, .int .u8 0], .slice none 0 0, .slice none 0 0, .agg #[.int .u8 0, .int .u8 0, .int .u8 0, .int .u8 0, .int .u8 0, .int .u8 0, .int .u8 0, .int .u8 0, .int .u8 0, .int .u8 0, .int .u8 0, .int .u8 0, .int .u8 0, .int .u8 0, .int .u8 0, .int .u8 0]], []⟩ 8 (by kernel_rfl) (by kernel_rfl) (by kernel_rfl) (by kernel_rfl)) ?_
  intro W base args ds gs before hval0 hW hcnd hcn2
  have hval : ∀ (j : Nat) t v, Try.f13.params[j]? = some t → args[j]? = some v → Value.okWide Try.prog W .any base t v := hval0
  have hW' := hW
  obtain ⟨p, q, hA0, hV, rfl, hfz, hnd⟩ := hW
  have hA : DataW.TrodAll enc Try.prog W 0 (fun _ => true) true Try.f13.params.toList args.toList ds p := hA0
  rw [Try.params13] at hA hval
  obtain ⟨v0, r0, d0, e0, p0, q0, ha, rfl, rfl, h0, hr0⟩ := trodAll_cons hA
  obtain ⟨v1, r1, d1, e1, p1, q1, rfl, rfl, rfl, h1, hr1⟩ := trodAll_cons hr0
  obtain ⟨v2, r2, d2, e2, p2, q2, rfl, rfl, rfl, h2, hr2⟩ := trodAll_cons hr1
  obtain ⟨v3, r3, d3, e3, p3, q3, rfl, rfl, rfl, h3, hr3⟩ := trodAll_cons hr2
  obtain ⟨v4, r4, d4, e4, p4, q4, rfl, rfl, rfl, h4, hr4⟩ := trodAll_cons hr3
  obtain ⟨rfl, rfl, rfl⟩ := trodAll_nil hr4
  obtain rfl : args = #[v0, v1, v2, v3, v4] := by cases args; simp_all
  obtain ⟨rfl, rfl⟩ := trodVars_none hV
  obtain ⟨l0, rb0, hl0, hbr0, hbb0⟩ := open_row1 (P := Try.prog) (d := 12) (k := 1) (by kernel_rfl : Try.prog.underlying 25 = some (.slice 5)) (by kernel_rfl) (fun _ => kd_1) (hval 0 25 v0 rfl rfl) h0
  obtain ⟨y1, hy1, hr1⟩ := open_agg_k (P := Try.prog) (d := 12) (ks := List.replicate 12 1) (by kernel_rfl) (by kernel_rfl) (hval 1 101 v1 rfl rfl) h1
  obtain ⟨l1, rfl, hl1⟩ := kd_rep (f := SV.u8) (fun _ => kd_1) hy1
  obtain ⟨l2, rb2, hl2, hbr2, hbb2⟩ := open_row1 (P := Try.prog) (d := 12) (k := 1) (by kernel_rfl : Try.prog.underlying 25 = some (.slice 5)) (by kernel_rfl) (fun _ => kd_1) (hval 2 25 v2 rfl rfl) h2
  obtain ⟨l3, rb3, hl3, hbr3, hbb3⟩ := open_row1 (P := Try.prog) (d := 12) (k := 1) (by kernel_rfl : Try.prog.underlying 25 = some (.slice 5)) (by kernel_rfl) (fun _ => kd_1) (hval 3 25 v3 rfl rfl) h3
  obtain ⟨y4, hy4, hr4⟩ := open_agg_k (P := Try.prog) (d := 12) (ks := List.replicate 16 1) (by kernel_rfl) (by kernel_rfl) (hval 4 79 v4 rfl rfl) h4
  obtain ⟨l4, rfl, hl4⟩ := kd_rep (f := SV.u8) (fun _ => kd_1) hy4
  have hc := calls_of_scall (f13 l0 l1 l2 l3 l4 hl1 hl4) (ρ := fun id => if id = 0 then some rb0 else if id = 1 then some rb2 else if id = 2 then some rb3 else none) (vs := [v0, v1, v2, v3, v4]) (W := W) (fun id bb h => by
      match id, h with
      | 0, h => cases h; rfl
      | 1, h => cases h; rfl
      | 2, h => cases h; rfl
      | _ + 3, h => simp [hg] at h)
    (Rels.cons (hbr0 _ 0 rfl) (Rels.cons (hr1 _) (Rels.cons (hbr2 _ 1 rfl) (Rels.cons (hbr3 _ 2 rfl) (Rels.cons (hr4 _) (Rels.nil_iff.2 rfl))))))
    (fun id bb h => by
      match id, h with
      | 0, h => cases h; exact ⟨rb0, rfl, hbb0 _⟩
      | 1, h => cases h; exact ⟨rb2, rfl, hbb2 _⟩
      | 2, h => cases h; exact ⟨rb3, rfl, hbb3 _⟩
      | _ + 3, h => simp [hg] at h)
    (fun id h => by
      have h2 : 3 ≤ id := by simpa using h
      rw [if_neg (by omega), if_neg (by omega), if_neg (by omega)])
  refine hc.mono fun e W' ⟨he, hb⟩ => ?_
  subst he
  exact ⟨_, rfl, same_post (bt := 4) Try.laidOutGcmSeals (by decide +kernel) Try.underlying4 (by kernel_rfl) rfl hW' rfl hb⟩

theorem gcmSeals_holds : Rows.GcmSealsSaid :=
  OpenClaim.holds_of_wide 13 Try.f13 rfl rfl rfl rfl rfl rfl rfl ⟨rfl, rfl, rfl, rfl, rfl⟩ rfl rfl rfl rfl rfl (by kernel_rfl) Try.func13 (by kernel_rfl)
    (of_decide_eq_true (by kernel_rfl)) (by unfold Func.isWrapper; first | (rw [if_pos (by decide +kernel)]; kernel_rfl) | (rw [if_neg (by decide +kernel)]; exact ⟨rfl, rfl⟩))
    (fun os started H enc hx => gcmSeals_lifted os started H enc)
end Go.Proofs.Ytaknbogocnkmnaa
#print axioms Go.Proofs.Ytaknbogocnkmnaa.gcmSeals_holds
