/- hailer's law SetupMeets returns true whatever it is handed, and what it was handed reads as it did. No condition. -/
import Derived.Test.YthncciimpbgcoaaGreatSm7
namespace Go.Proofs.YthncciimpbgcoaaGreat
open Go.ChangeShapes Go.WideShapes Go.ChangeAt Go.RowKit Go.Sh
set_option maxRecDepth 100000
set_option linter.unusedVariables false

theorem Tryz.ownSetupMeets : ownKnob Tryz.prog.godebug = none := by kernel_rfl
theorem Tryz.laidOutSetupMeets : laidOutB Tryz.prog = true := by kernel_rfl

theorem setupMeets_lifted (os : Os) (started : os.Started) (H : Type) (enc : TypeId × Value → H) :
    ReturnsInHanded {} Tryz.checked os 4 .any (Rows.setupMeetsSpec.pre6 enc Tryz.prog Tryz.f4 Rows.setupMeetsRow.domain false) (Rows.setupMeetsSpec.post enc Tryz.prog Tryz.f4 false true false false) := by
  refine returnsInHanded_of_change (C := Tryz.checked) Tryz.ownSetupMeets started (by kernel_rfl) Tryz.func4
    (ChangeSpec.witness6 (enc := enc) (C := Tryz.checked) false ⟨#[], #[.agg #[.int .u8 0, .int .u8 0, .int .u8 0, .int .u8 0, .int .u8 0, .int .u8 0, .int .u8 0, .int .u8 0, .int .u8 0, .int .u8 0, .int .u8 0, .int .u8 0, .int .u8 0, .int .u8 0, .int .u8 0, .int .u8 0, .int .u8 0, .int .u8 0, .int .u8 0, .int .u8 0, .int .u8 0, .int .u8 0, .int .u8 0, .int .u8 0, .int .u8 0, .int .u8 0, .int .u8 0, .int .u8 0, .int .u8 0, .int .u8 0, .int .u8 0, .int .u8 0, .int .u8 0, .int .u8 0, .int .u8 0, .int .u8 0, .int .u8 0, .int .u8 0, .int .u8 0, .int .u8 0, .int .u8 0, .int .u8 0, .int .u8 0, .int .u8 0, .int .u8 0, .int .u8 0, .int .u8 0, .int .u8 0, .int .u8 0, .int .u8 0, .int .u8 0, .int .u8 0, .int .u8 0, .int .u8 0, .int .u8 0, .int .u8 0, .int .u8 0, .int .u8 0, .int .u8 0, .int .u8 0, .int .u8 0, .int .u8 0, .int .u8 0, .int .u8 0, .int .u8 0, .int .u8 0, .slice none 0 0], .agg #[.int .u8 0, .int .u8 0, .int .u8 0, .int .u8 0, .int .u8 0, .int .u8 0, .int .u8 0, .int .u8 0, .int .u8 0, .int .u8 0, .int .u8 0, .int .u8 0, .int .u8 0, .int .u8 0, .int .u8 0, .int .u8 0, .int .u8 0, .int .u8 0, .int .u8 0, .int .u8 0, .int .u8 0, .int .u8 0, .int .u8 0, .int .u8 0, .int .u8 0, .int .u8 0, .int .u8 0, .int .u8 0, .int .u8 0, .int .u8 0, .int .u8 0, .int .u8 0, .int .u8 0, .int .u8 0, .int .u8 0, .int .u8 0, .int .u8 0, .int .u8 0, .int .u8 0, .int .u8 0, .int .u8 0, .int .u8 0, .int .u8 0, .int .u8 0, .int .u8 0, .int .u8 0, .int .u8 0, .int .u8 0, .int .u8 0, .int .u8 0, .int .u8 0, .int .u8 0, .int .u8 0, .int .u8 0, .int .u8 0, .int .u8 0, .int .u8 0, .int .u8 0, .int .u8 0, .int .u8 0, .int .u8 0, .int .u8 0, .int .u8 0, .int .u8 0, .int .u8 0, .int .u8 0, .slice none 0 0], .agg #[.int .u8 0, .int .u8 0, .int .u8 0, .int .u8 0, .int .u8 0, .int .u8 0, .int .u8 0, .int .u8 0, .int .u8 0, .int .u8 0, .int .u8 0, .int .u8 0, .int .u8 0, .int .u8 0, .int .u8 0, .int .u8 0, .int .u8 0, .int .u8 0, .int .u8 0, .int .u8 0, .int .u8 0, .int .u8 0, .int .u8 0, .int .u8 0, .int .u8 0, .int .u8 0, .int .u8 0, .int .u8 0, .int .u8 0, .int .u8 0, .int .u8 0, .int .u8 0], .int .u32 0, .bool false], []⟩ 8 (by kernel_rfl) (by kernel_rfl) (by kernel_rfl) (by kernel_rfl)) ?_
  intro W base args ds gs before hval0 hW hcnd hcn2
  have hval : ∀ (j : Nat) t v, Tryz.f4.params[j]? = some t → args[j]? = some v → Value.okWide Tryz.prog W .any base t v := hval0
  have hW' := hW
  obtain ⟨p, q, hA0, hV, rfl, hfz, hnd⟩ := hW
  have hA : DataW.TrodAll enc Tryz.prog W 0 (fun _ => true) true Tryz.f4.params.toList args.toList ds p := hA0
  rw [Tryz.params4] at hA hval
  obtain ⟨v0, r0, d0, e0, p0, q0, ha, rfl, rfl, h0, hr0⟩ := trodAll_cons hA
  obtain ⟨v1, r1, d1, e1, p1, q1, rfl, rfl, rfl, h1, hr1⟩ := trodAll_cons hr0
  obtain ⟨v2, r2, d2, e2, p2, q2, rfl, rfl, rfl, h2, hr2⟩ := trodAll_cons hr1
  obtain ⟨v3, r3, d3, e3, p3, q3, rfl, rfl, rfl, h3, hr3⟩ := trodAll_cons hr2
  obtain ⟨v4, r4, d4, e4, p4, q4, rfl, rfl, rfl, h4, hr4⟩ := trodAll_cons hr3
  obtain ⟨rfl, rfl, rfl⟩ := trodAll_nil hr4
  obtain rfl : args = #[v0, v1, v2, v3, v4] := by cases args; simp_all
  obtain ⟨rfl, rfl⟩ := trodVars_none hV
  obtain ⟨DA, A, SA, KA, rbA, hDA, hA2, hSA, hKA, hr0, hbbA⟩ := open_keys (P := Tryz.prog) (d := 12) (e := 52) (by kernel_rfl : structF Tryz.prog 28 = some [(23, 0), (25, 2), (25, 34), (26, 66)]) (by kernel_rfl) (by kernel_rfl) (by kernel_rfl) (by kernel_rfl) (by kernel_rfl : Tryz.prog.underlying 26 = some (.slice 52)) (by kernel_rfl) (by kernel_rfl) (hval 0 28 v0 rfl rfl) h0
  obtain ⟨DB, B, SB2, KB, rbB, hDB, hB, hSB, hKB, hr1, hbbB⟩ := open_keys (P := Tryz.prog) (d := 12) (e := 52) (by kernel_rfl : structF Tryz.prog 28 = some [(23, 0), (25, 2), (25, 34), (26, 66)]) (by kernel_rfl) (by kernel_rfl) (by kernel_rfl) (by kernel_rfl) (by kernel_rfl : Tryz.prog.underlying 26 = some (.slice 52)) (by kernel_rfl) (by kernel_rfl) (hval 1 28 v1 rfl rfl) h1
  obtain ⟨y2, hy2, hr2⟩ := open_agg_k (P := Tryz.prog) (d := 12) (ks := List.replicate 32 1) (by kernel_rfl) (by kernel_rfl) (hval 2 25 v2 rfl rfl) h2
  obtain ⟨e, rfl, he⟩ := kd_rep (f := SV.u8) (fun _ => kd_1) hy2
  obtain ⟨y3, hy3, hr3⟩ := open_one_k (P := Tryz.prog) (k := 3) (by kernel_rfl : Tryz.prog.underlying 29 = some (.int .u32)) rfl (by decide) (hval 3 29 v3 rfl rfl) h3
  obtain ⟨x3, rfl⟩ := kd_3 hy3
  obtain ⟨y4, hy4, hr4⟩ := open_one_k (P := Tryz.prog) (k := 5) (by kernel_rfl : Tryz.prog.underlying 4 = some .bool) rfl (by decide) (hval 4 4 v4 rfl rfl) h4
  obtain ⟨x4, rfl⟩ := kd_5 hy4
  have hc := calls_of_scall (Go.Sh.r4 DA A SA hDA hA2 hSA KA hKA DB B SB2 hDB hB hSB KB hKB e he x3 x4) (ρ := fun id => if id = 0 then some rbA else if id = 1 then some rbB else none) (vs := [v0, v1, v2, v3, v4]) (W := W) (fun id bb h => by
      match id, h with
      | 0, h => cases h; rfl
      | 1, h => cases h; rfl
      | _ + 2, h => simp [hg] at h)
    (Rels.cons (hr0 _ 0 rfl) (Rels.cons (hr1 _ 1 rfl) (Rels.cons (hr2 _) (Rels.cons (hr3 _) (Rels.cons (hr4 _) (Rels.nil_iff.2 rfl))))))
    (fun id bb h => by
      match id, h with
      | 0, h => cases h; exact ⟨rbA, rfl, hbbA _⟩
      | 1, h => cases h; exact ⟨rbB, rfl, hbbB _⟩
      | _ + 2, h => simp [hg] at h)
    (fun id h => by
      have h2 : 2 ≤ id := by simpa using h
      rw [if_neg (by omega), if_neg (by omega)])
  refine hc.mono fun e W' ⟨he, hb⟩ => ?_
  subst he
  exact ⟨_, rfl, same_post (bt := 4) Tryz.laidOutSetupMeets (by decide +kernel) Tryz.underlying4 (by kernel_rfl) rfl hW' rfl hb⟩

theorem setupMeets_holds : Rows.SetupMeetsSaid :=
  OpenClaim.holds_of_wide 4 Tryz.f4 rfl rfl rfl rfl rfl rfl rfl ⟨rfl, rfl, rfl, rfl, rfl⟩ rfl rfl rfl rfl rfl (by kernel_rfl) Tryz.func4 (by kernel_rfl)
    (of_decide_eq_true (by kernel_rfl)) (by unfold Func.isWrapper; first | (rw [if_pos (by decide +kernel)]; kernel_rfl) | (rw [if_neg (by decide +kernel)]; exact ⟨rfl, rfl⟩))
    (fun os started H enc hx => setupMeets_lifted os started H enc)
end Go.Proofs.YthncciimpbgcoaaGreat
#print axioms Go.Proofs.YthncciimpbgcoaaGreat.setupMeets_holds
