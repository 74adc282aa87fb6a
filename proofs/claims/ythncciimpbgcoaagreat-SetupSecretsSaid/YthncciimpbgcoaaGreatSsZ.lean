/- hailer's law SetupSecrets returns true whatever it is handed, and what it was handed reads as it did. No condition. -/
import Derived.Test.YthncciimpbgcoaaGreatSs6
namespace Go.Proofs.YthncciimpbgcoaaGreat
open Go.ChangeShapes Go.WideShapes Go.ChangeAt Go.RowKit Go.Sh
set_option maxRecDepth 100000
set_option linter.unusedVariables false

theorem kd_bc {xs : List SV} (h : xs.map kd = (List.replicate 2 1 ++ (List.replicate 32 1 ++ (List.replicate 32 1 ++ (5 :: 3 :: List.replicate 32 1)))).map some) : ∃ (D A S O : List UInt8) (b : Bool) (i : UInt32), D.length = 2 ∧ A.length = 32 ∧ S.length = 32 ∧ O.length = 32 ∧ xs = bc D A S b i O := by
  obtain ⟨x1, r1, rfl, h1, g1⟩ := kd_append h
  obtain ⟨x2, r2, rfl, h2, g2⟩ := kd_append g1
  obtain ⟨x3, r3, rfl, h3, g3⟩ := kd_append g2
  obtain ⟨y, r4, rfl, h4, g4⟩ := kd_cons g3
  obtain ⟨z, r5, rfl, h5, g5⟩ := kd_cons g4
  obtain ⟨D, rfl, hD⟩ := kd_rep (f := SV.u8) (fun _ => kd_1) h1
  obtain ⟨A, rfl, hA⟩ := kd_rep (f := SV.u8) (fun _ => kd_1) h2
  obtain ⟨S, rfl, hS⟩ := kd_rep (f := SV.u8) (fun _ => kd_1) h3
  obtain ⟨b, rfl⟩ := kd_5 h4
  obtain ⟨i, rfl⟩ := kd_3 h5
  obtain ⟨O, rfl, hO⟩ := kd_rep (f := SV.u8) (fun _ => kd_1) g5
  exact ⟨D, A, S, O, b, i, hD, hA, hS, hO, rfl⟩
theorem kd_sc {xs : List SV} (h : xs.map kd = (List.replicate 32 1 ++ (List.replicate 32 1 ++ [5, 3])).map some) : ∃ (I E : List UInt8) (b : Bool) (i : UInt32), I.length = 32 ∧ E.length = 32 ∧ xs = sc I E b i := by
  obtain ⟨x1, r1, rfl, h1, g1⟩ := kd_append h
  obtain ⟨x2, r2, rfl, h2, g2⟩ := kd_append g1
  obtain ⟨y, r4, rfl, h4, g4⟩ := kd_cons g2
  obtain ⟨z, r5, rfl, h5, g5⟩ := kd_cons g4
  obtain rfl := kd_nil g5
  obtain ⟨I, rfl, hI⟩ := kd_rep (f := SV.u8) (fun _ => kd_1) h1
  obtain ⟨E, rfl, hE⟩ := kd_rep (f := SV.u8) (fun _ => kd_1) h2
  obtain ⟨b, rfl⟩ := kd_5 h4
  obtain ⟨i, rfl⟩ := kd_3 h5
  exact ⟨I, E, b, i, hI, hE, rfl⟩
theorem Tryz.ownSetupSecrets : ownKnob Tryz.prog.godebug = none := by kernel_rfl
theorem Tryz.laidOutSetupSecrets : laidOutB Tryz.prog = true := by kernel_rfl

theorem setupSecrets_lifted (os : Os) (started : os.Started) (H : Type) (enc : TypeId × Value → H) :
    ReturnsInHanded {} Tryz.checked os 3 .any (Rows.setupSecretsSpec.pre6 enc Tryz.prog Tryz.f3 Rows.setupSecretsRow.domain false) (Rows.setupSecretsSpec.post enc Tryz.prog Tryz.f3 false true false false) := by
  refine returnsInHanded_of_change (C := Tryz.checked) Tryz.ownSetupSecrets started (by kernel_rfl) Tryz.func3
    (ChangeSpec.witness6 (enc := enc) (C := Tryz.checked) false ⟨#[], #[.agg #[.int .u8 0, .int .u8 0, .int .u8 0, .int .u8 0, .int .u8 0, .int .u8 0, .int .u8 0, .int .u8 0, .int .u8 0, .int .u8 0, .int .u8 0, .int .u8 0, .int .u8 0, .int .u8 0, .int .u8 0, .int .u8 0, .int .u8 0, .int .u8 0, .int .u8 0, .int .u8 0, .int .u8 0, .int .u8 0, .int .u8 0, .int .u8 0, .int .u8 0, .int .u8 0, .int .u8 0, .int .u8 0, .int .u8 0, .int .u8 0, .int .u8 0, .int .u8 0, .int .u8 0, .int .u8 0, .int .u8 0, .int .u8 0, .int .u8 0, .int .u8 0, .int .u8 0, .int .u8 0, .int .u8 0, .int .u8 0, .int .u8 0, .int .u8 0, .int .u8 0, .int .u8 0, .int .u8 0, .int .u8 0, .int .u8 0, .int .u8 0, .int .u8 0, .int .u8 0, .int .u8 0, .int .u8 0, .int .u8 0, .int .u8 0, .int .u8 0, .int .u8 0, .int .u8 0, .int .u8 0, .int .u8 0, .int .u8 0, .int .u8 0, .int .u8 0, .int .u8 0, .int .u8 0, .slice none 0 0], .agg #[.int .u8 0, .int .u8 0, .int .u8 0, .int .u8 0, .int .u8 0, .int .u8 0, .int .u8 0, .int .u8 0, .int .u8 0, .int .u8 0, .int .u8 0, .int .u8 0, .int .u8 0, .int .u8 0, .int .u8 0, .int .u8 0, .int .u8 0, .int .u8 0, .int .u8 0, .int .u8 0, .int .u8 0, .int .u8 0, .int .u8 0, .int .u8 0, .int .u8 0, .int .u8 0, .int .u8 0, .int .u8 0, .int .u8 0, .int .u8 0, .int .u8 0, .int .u8 0, .int .u8 0, .int .u8 0, .int .u8 0, .int .u8 0, .int .u8 0, .int .u8 0, .int .u8 0, .int .u8 0, .int .u8 0, .int .u8 0, .int .u8 0, .int .u8 0, .int .u8 0, .int .u8 0, .int .u8 0, .int .u8 0, .int .u8 0, .int .u8 0, .int .u8 0, .int .u8 0, .int .u8 0, .int .u8 0, .int .u8 0, .int .u8 0, .int .u8 0, .int .u8 0, .int .u8 0, .int .u8 0, .int .u8 0, .int .u8 0, .int .u8 0, .int .u8 0, .int .u8 0, .int .u8 0, .bool false, .int .u32 0, .int .u8 0, .int .u8 0, .int .u8 0, .int .u8 0, .int .u8 0, .int .u8 0, .int .u8 0, .int .u8 0, .int .u8 0, .int .u8 0, .int .u8 0, .int .u8 0, .int .u8 0, .int .u8 0, .int .u8 0, .int .u8 0, .int .u8 0, .int .u8 0, .int .u8 0, .int .u8 0, .int .u8 0, .int .u8 0, .int .u8 0, .int .u8 0, .int .u8 0, .int .u8 0, .int .u8 0, .int .u8 0, .int .u8 0, .int .u8 0, .int .u8 0, .int .u8 0], .agg #[.int .u8 0, .int .u8 0, .int .u8 0, .int .u8 0, .int .u8 0, .int .u8 0, .int .u8 0, .int .u8 0, .int .u8 0, .int .u8 0, .int .u8 0, .int .u8 0, .int .u8 0, .int .u8 0, .int .u8 0, .int .u8 0, .int .u8 0, .int .u8 0, .int .u8 0, .int .u8 0, .int .u8 0, .int .u8 0, .int .u8 0, .int .u8 0, .int .u8 0, .int .u8 0, .int .u8 0, .int .u8 0, .int .u8 0, .int .u8 0, .int .u8 0, .int .u8 0], .agg #[.int .u8 0, .int .u8 0, .int .u8 0, .int .u8 0, .int .u8 0, .int .u8 0, .int .u8 0, .int .u8 0, .int .u8 0, .int .u8 0, .int .u8 0, .int .u8 0, .int .u8 0, .int .u8 0, .int .u8 0, .int .u8 0, .int .u8 0, .int .u8 0, .int .u8 0, .int .u8 0, .int .u8 0, .int .u8 0, .int .u8 0, .int .u8 0, .int .u8 0, .int .u8 0, .int .u8 0, .int .u8 0, .int .u8 0, .int .u8 0, .int .u8 0, .int .u8 0, .int .u8 0, .int .u8 0, .int .u8 0, .int .u8 0, .int .u8 0, .int .u8 0, .int .u8 0, .int .u8 0, .int .u8 0, .int .u8 0, .int .u8 0, .int .u8 0, .int .u8 0, .int .u8 0, .int .u8 0, .int .u8 0, .int .u8 0, .int .u8 0, .int .u8 0, .int .u8 0, .int .u8 0, .int .u8 0, .int .u8 0, .int .u8 0, .int .u8 0, .int .u8 0, .int .u8 0, .int .u8 0, .int .u8 0, .int .u8 0, .int .u8 0, .int .u8 0, .bool false, .int .u32 0]], []⟩ 8 (by kernel_rfl) (by kernel_rfl) (by kernel_rfl) (by kernel_rfl)) ?_
  intro W base args ds gs before hval0 hW hcnd hcn2
  have hval : ∀ (j : Nat) t v, Tryz.f3.params[j]? = some t → args[j]? = some v → Value.okWide Tryz.prog W .any base t v := hval0
  have hW' := hW
  obtain ⟨p, q, hA0, hV, rfl, hfz, hnd⟩ := hW
  have hA : DataW.TrodAll enc Tryz.prog W 0 (fun _ => true) true Tryz.f3.params.toList args.toList ds p := hA0
  rw [Tryz.params3] at hA hval
  obtain ⟨v0, r0, d0, e0, p0, q0, ha, rfl, rfl, h0, hr0⟩ := trodAll_cons hA
  obtain ⟨v1, r1, d1, e1, p1, q1, rfl, rfl, rfl, h1, hr1⟩ := trodAll_cons hr0
  obtain ⟨v2, r2, d2, e2, p2, q2, rfl, rfl, rfl, h2, hr2⟩ := trodAll_cons hr1
  obtain ⟨v3, r3, d3, e3, p3, q3, rfl, rfl, rfl, h3, hr3⟩ := trodAll_cons hr2
  obtain ⟨rfl, rfl, rfl⟩ := trodAll_nil hr3
  obtain rfl : args = #[v0, v1, v2, v3] := by cases args; simp_all
  obtain ⟨rfl, rfl⟩ := trodVars_none hV
  obtain ⟨D, A, S, K, rb, hD, hA2, hS, hK, hr0, hbb⟩ := open_keys (P := Tryz.prog) (d := 12) (e := 52) (by kernel_rfl : structF Tryz.prog 28 = some [(23, 0), (25, 2), (25, 34), (26, 66)]) (by kernel_rfl) (by kernel_rfl) (by kernel_rfl) (by kernel_rfl) (by kernel_rfl : Tryz.prog.underlying 26 = some (.slice 52)) (by kernel_rfl) (by kernel_rfl) (hval 0 28 v0 rfl rfl) h0
  obtain ⟨y1, hy1, hr1⟩ := open_agg_k (P := Tryz.prog) (d := 12) (ks := List.replicate 2 1 ++ (List.replicate 32 1 ++ (List.replicate 32 1 ++ (5 :: 3 :: List.replicate 32 1)))) (by kernel_rfl) (by kernel_rfl) (hval 1 31 v1 rfl rfl) h1
  obtain ⟨D2, I2, S2, O, b, i, hD2, hI2, hS2, hO, rfl⟩ := kd_bc hy1
  obtain ⟨y2, hy2, hr2⟩ := open_agg_k (P := Tryz.prog) (d := 12) (ks := List.replicate 32 1) (by kernel_rfl) (by kernel_rfl) (hval 2 25 v2 rfl rfl) h2
  obtain ⟨e, rfl, he⟩ := kd_rep (f := SV.u8) (fun _ => kd_1) hy2
  obtain ⟨y3, hy3, hr3⟩ := open_agg_k (P := Tryz.prog) (d := 12) (ks := List.replicate 32 1 ++ (List.replicate 32 1 ++ [5, 3])) (by kernel_rfl) (by kernel_rfl) (hval 3 33 v3 rfl rfl) h3
  obtain ⟨I, E, b2, j, hI, hE, rfl⟩ := kd_sc hy3
  have hc := calls_of_scall (Go.Sh.r3 D A S hD hA2 hS K hK D2 I2 S2 O e hD2 hI2 hS2 hO he b i I E hI hE b2 j) (ρ := fun id => if id = 0 then some rb else none) (vs := [v0, v1, v2, v3]) (W := W) (fun id bb h => by
      match id, h with
      | 0, h => cases h; rfl
      | _ + 1, h => simp [hg] at h)
    (Rels.cons (hr0 _ 0 rfl) (Rels.cons (hr1 _) (Rels.cons (hr2 _) (Rels.cons (hr3 _) (Rels.nil_iff.2 rfl)))))
    (fun id bb h => by
      match id, h with
      | 0, h => cases h; exact ⟨rb, rfl, hbb _⟩
      | _ + 1, h => simp [hg] at h)
    (fun id h => by
      have h2 : 1 ≤ id := by simpa using h
      rw [if_neg (by omega)])
  refine hc.mono fun e W' ⟨he, hb⟩ => ?_
  subst he
  exact ⟨_, rfl, same_post (bt := 4) Tryz.laidOutSetupSecrets (by decide +kernel) Tryz.underlying4 (by kernel_rfl) rfl hW' rfl hb⟩

theorem setupSecrets_holds : Rows.SetupSecretsSaid :=
  OpenClaim.holds_of_wide 3 Tryz.f3 rfl rfl rfl rfl rfl rfl rfl ⟨rfl, rfl, rfl, rfl, rfl⟩ rfl rfl rfl rfl rfl (by kernel_rfl) Tryz.func3 (by kernel_rfl)
    (of_decide_eq_true (by kernel_rfl)) (by unfold Func.isWrapper; first | (rw [if_pos (by decide +kernel)]; kernel_rfl) | (rw [if_neg (by decide +kernel)]; exact ⟨rfl, rfl⟩))
    (fun os started H enc hx => setupSecrets_lifted os started H enc)
end Go.Proofs.YthncciimpbgcoaaGreat
#print axioms Go.Proofs.YthncciimpbgcoaaGreat.setupSecrets_holds
