/- hailer's law TopMedia returns true whatever it is handed, and what it was handed reads as it did. No condition. -/
import Derived.Test.YtkahaemiigimcaaGreatFm23
namespace Go.Proofs.YtkahaemiigimcaaGreat
open Go.ChangeShapes Go.WideShapes Go.ChangeAt Go.RowKit Go.Sh
set_option maxRecDepth 100000
set_option linter.unusedVariables false

theorem Tryz.ownTopMedia : ownKnob Tryz.prog.godebug = none := by kernel_rfl
theorem Tryz.laidOutTopMedia : laidOutB Tryz.prog = true := by kernel_rfl

theorem ajT (os : Os) (started : os.Started) (H : Type) (enc : TypeId × Value → H) :
    ReturnsInHanded {} Tryz.checked os 3 .any (Rows.topMediaSpec.pre6 enc Tryz.prog Tryz.f3 Rows.topMediaRow.domain false) (Rows.topMediaSpec.post enc Tryz.prog Tryz.f3 false true false false) := by
  refine returnsInHanded_of_change (C := Tryz.checked) Tryz.ownTopMedia started (by kernel_rfl) Tryz.func3
    (ChangeSpec.witness6 (enc := enc) (C := Tryz.checked) false ⟨#[], #[.int .u16 0, .slice none 0 0, .int .u64 0, .int .u64 0, .slice none 0 0, .slice none 0 0, .int .i64 0, .int .u8 0, .slice none 0 0], []⟩ 8 (by kernel_rfl) (by kernel_rfl) (by kernel_rfl) (by kernel_rfl)) ?_
  intro W base args ds gs before hval0 hW hcnd hcn2
  have hval : ∀ (j : Nat) t v, Tryz.f3.params[j]? = some t → args[j]? = some v → Value.okWide Tryz.prog W .any base t v := hval0
  have hW' := hW
  obtain ⟨p, q, hA0, hV, rfl, hfz, hnd⟩ := hW
  have hA : DataW.TrodAll enc Tryz.prog W 0 (fun _ => true) true Tryz.f3.params.toList args.toList ds p := hA0
  rw [Tryz.params3] at hA hval
  obtain ⟨v0, r0, d0, e0, p0, q0, ha, rfl, rfl, h0, hr0⟩ := trodAll_cons hA
  obtain ⟨v1, r1, d1, e1, p1, q1, rfl, rfl, rfl, h1, hr1⟩ := trodAll_cons hr0
  obtain ⟨v2, r2, d2, e2, p2, q2, rfl, rfl, rfl, h2, hr2⟩ := trodAll_cons hr1
  obtain ⟨v3, r3, d3, e3, p3, q3, rfl, rfl, rfl, h3, hr3⟩ := trodAll_cons hr2
  obtain ⟨v4, r4, d4, e4, p4, q4, rfl, rfl, rfl, h4, hr4⟩ := trodAll_cons hr3
  obtain ⟨v5, r5, d5, e5, p5, q5, rfl, rfl, rfl, h5, hr5⟩ := trodAll_cons hr4
  obtain ⟨v6, r6, d6, e6, p6, q6, rfl, rfl, rfl, h6, hr6⟩ := trodAll_cons hr5
  obtain ⟨v7, r7, d7, e7, p7, q7, rfl, rfl, rfl, h7, hr7⟩ := trodAll_cons hr6
  obtain ⟨v8, r8, d8, e8, p8, q8, rfl, rfl, rfl, h8, hr8⟩ := trodAll_cons hr7
  obtain ⟨rfl, rfl, rfl⟩ := trodAll_nil hr8
  obtain rfl : args = #[v0, v1, v2, v3, v4, v5, v6, v7, v8] := by cases args; simp_all
  obtain ⟨rfl, rfl⟩ := trodVars_none hV
  obtain ⟨y0, hy0, hr0⟩ := DF (P := Tryz.prog) (k := 2) (by kernel_rfl : Tryz.prog.underlying 22 = some (.int .u16)) rfl (by decide) (hval 0 22 v0 rfl rfl) h0
  obtain ⟨x0, rfl⟩ := adg hy0
  obtain ⟨l1, rb1, hl1, hbr1, hbb1⟩ := Lm (P := Tryz.prog) (d := 12) (k := 1) (by kernel_rfl : Tryz.prog.underlying 23 = some (.slice 5)) (by kernel_rfl) (fun _ => An) (hval 1 23 v1 rfl rfl) h1
  obtain ⟨y2, hy2, hr2⟩ := DF (P := Tryz.prog) (k := 4) (by kernel_rfl : Tryz.prog.underlying 24 = some (.int .u64)) rfl (by decide) (hval 2 24 v2 rfl rfl) h2
  obtain ⟨x2, rfl⟩ := QO hy2
  obtain ⟨y3, hy3, hr3⟩ := DF (P := Tryz.prog) (k := 4) (by kernel_rfl : Tryz.prog.underlying 24 = some (.int .u64)) rfl (by decide) (hval 3 24 v3 rfl rfl) h3
  obtain ⟨x3, rfl⟩ := QO hy3
  obtain ⟨l4, rb4, hl4, hbr4, hbb4⟩ := Lm (P := Tryz.prog) (d := 12) (k := 1) (by kernel_rfl : Tryz.prog.underlying 23 = some (.slice 5)) (by kernel_rfl) (fun _ => An) (hval 4 23 v4 rfl rfl) h4
  obtain ⟨l5, rb5, hl5, hbr5, hbb5⟩ := Lm (P := Tryz.prog) (d := 12) (k := 1) (by kernel_rfl : Tryz.prog.underlying 23 = some (.slice 5)) (by kernel_rfl) (fun _ => An) (hval 5 23 v5 rfl rfl) h5
  obtain ⟨y6, hy6, hr6⟩ := DF (P := Tryz.prog) (k := 0) (by kernel_rfl : Tryz.prog.underlying 3 = some (.int .i64)) rfl (by decide) (hval 6 3 v6 rfl rfl) h6
  obtain ⟨x6, rfl⟩ := adf hy6
  obtain ⟨y7, hy7, hr7⟩ := DF (P := Tryz.prog) (k := 1) (by kernel_rfl : Tryz.prog.underlying 5 = some (.int .u8)) rfl (by decide) (hval 7 5 v7 rfl rfl) h7
  obtain ⟨x7, rfl⟩ := An hy7
  obtain ⟨ds8, rb8, hbt8, hbr8, hbb8, hbf8⟩ := agf (P := Tryz.prog) (d := 12) (e := 42) (e2 := 5) (t0 := 5) (t2 := 3) (t4 := 23) (by kernel_rfl : Tryz.prog.underlying 25 = some (.slice 42)) (by kernel_rfl) (by kernel_rfl) (by kernel_rfl) (by kernel_rfl) (by kernel_rfl) (by kernel_rfl : Tryz.prog.underlying 23 = some (.slice 5)) (by kernel_rfl) (by kernel_rfl) (hval 8 25 v8 rfl rfl) h8
  have hc := YD (ajS x0 l1 x2 x3 l4 l5 x6 x7 ds8 hbt8 rfl) (ρ := fun id => if id = 0 then some rb1 else if id = 1 then some rb4 else if id = 2 then some rb5 else if id = 3 then some rb8 else if id = 4 then some rb8 else none) (vs := [v0, v1, v2, v3, v4, v5, v6, v7, v8]) (W := W) (fun id bb h => by
      match id, h with
      | 0, h => cases h; rfl
      | 1, h => cases h; rfl
      | 2, h => cases h; rfl
      | 3, h => cases h; rfl
      | 4, h => cases h; rfl
      | _ + 5, h => simp [hg] at h)
    (aD.cons (hr0 _) (aD.cons (hbr1 _ 0 rfl) (aD.cons (hr2 _) (aD.cons (hr3 _) (aD.cons (hbr4 _ 1 rfl) (aD.cons (hbr5 _ 2 rfl) (aD.cons (hr6 _) (aD.cons (hr7 _) (aD.cons (hbr8 _ 3 rfl) (aD.nil_iff.2 rfl))))))))))
    (fun id bb h => by
      match id, h with
      | 0, h => cases h; exact ⟨rb1, rfl, hbb1 _⟩
      | 1, h => cases h; exact ⟨rb4, rfl, hbb4 _⟩
      | 2, h => cases h; exact ⟨rb5, rfl, hbb5 _⟩
      | 3, h => cases h; exact ⟨rb8, rfl, hbb8 _⟩
      | 4, h => cases h; exact ⟨rb8, rfl, hbf8 _ _⟩
      | _ + 5, h => simp [hg] at h)
    (fun id h => by
      have h2 : 5 ≤ id := by simpa using h
      rw [if_neg (by omega), if_neg (by omega), if_neg (by omega), if_neg (by omega), if_neg (by omega)])
  refine hc.mono fun e W' ⟨he, hb⟩ => ?_
  subst he
  exact ⟨_, rfl, ait (bt := 4) Tryz.laidOutTopMedia (by decide +kernel) Tryz.underlying4 (by kernel_rfl) rfl hW' rfl hb⟩

theorem topMedia_holds : Rows.TopMediaSaid :=
  OpenClaim.holds_of_wide 3 Tryz.f3 rfl rfl rfl rfl rfl rfl rfl ⟨rfl, rfl, rfl, rfl, rfl⟩ rfl rfl rfl rfl rfl (by kernel_rfl) Tryz.func3 (by kernel_rfl)
    (of_decide_eq_true (by kernel_rfl)) (by unfold Func.isWrapper; first | (rw [if_pos (by decide +kernel)]; kernel_rfl) | (rw [if_neg (by decide +kernel)]; exact ⟨rfl, rfl⟩))
    (fun os started H enc hx => ajT os started H enc)
end Go.Proofs.YtkahaemiigimcaaGreat
#print axioms Go.Proofs.YtkahaemiigimcaaGreat.topMedia_holds
