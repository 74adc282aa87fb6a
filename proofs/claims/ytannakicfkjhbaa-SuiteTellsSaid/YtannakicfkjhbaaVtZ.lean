/- hailer's law SuiteTells returns true whatever it is handed, and what it was handed reads as it did. No condition. -/
import Derived.Test.YtannakicfkjhbaaVt1
namespace Go.Proofs.Ytannakicfkjhbaa
open Go.ChangeShapes Go.WideShapes Go.ChangeAt Go.RowKit Go.Sh
set_option maxRecDepth 100000
set_option linter.unusedVariables false

theorem Try.ownSuiteTells : ownKnob Try.prog.godebug = none := by kernel_rfl
theorem Try.laidOutSuiteTells : laidOutB Try.prog = true := by kernel_rfl

theorem suiteTells_lifted (os : Os) (started : os.Started) (H : Type) (enc : TypeId × Value → H) :
    ReturnsInHanded {} Try.checked os 17 .any (Rows.suiteTellsSpec.pre6 enc Try.prog Try.f17 Rows.suiteTellsRow.domain false) (Rows.suiteTellsSpec.post enc Try.prog Try.f17 false true false false) := by
  refine returnsInHanded_of_change (C := Try.checked) Try.ownSuiteTells started (by kernel_rfl) Try.func17
    (ChangeSpec.witness6 (enc := enc) (C := Try.checked) false ⟨#[], #[.int .u16 0, .slice none 0 0, .int .u64 0, .int .u64 0], []⟩ 8 (by kernel_rfl) (by kernel_rfl) (by kernel_rfl) (by kernel_rfl)) ?_
  intro W base args ds gs before hval0 hW hcnd hcn2
  have hval : ∀ (j : Nat) t v, Try.f17.params[j]? = some t → args[j]? = some v → Value.okWide Try.prog W .any base t v := hval0
  have hW' := hW
  obtain ⟨p, q, hA0, hV, rfl, hfz, hnd⟩ := hW
  have hA : DataW.TrodAll enc Try.prog W 0 (fun _ => true) true Try.f17.params.toList args.toList ds p := hA0
  rw [Try.params17] at hA hval
  obtain ⟨v0, r0, d0, e0, p0, q0, ha, rfl, rfl, h0, hr0⟩ := trodAll_cons hA
  obtain ⟨v1, r1, d1, e1, p1, q1, rfl, rfl, rfl, h1, hr1⟩ := trodAll_cons hr0
  obtain ⟨v2, r2, d2, e2, p2, q2, rfl, rfl, rfl, h2, hr2⟩ := trodAll_cons hr1
  obtain ⟨v3, r3, d3, e3, p3, q3, rfl, rfl, rfl, h3, hr3⟩ := trodAll_cons hr2
  obtain ⟨rfl, rfl, rfl⟩ := trodAll_nil hr3
  obtain rfl : args = #[v0, v1, v2, v3] := by cases args; simp_all
  obtain ⟨rfl, rfl⟩ := trodVars_none hV
  obtain ⟨y0, hy0, hr0⟩ := open_one_k (P := Try.prog) (k := 2) (by kernel_rfl : Try.prog.underlying 98 = some (.int .u16)) rfl (by decide) (hval 0 98 v0 rfl rfl) h0
  obtain ⟨x0, rfl⟩ := kd_2 hy0
  obtain ⟨l1, rb1, hl1, hbr1, hbb1⟩ := open_row1 (P := Try.prog) (d := 12) (k := 1) (by kernel_rfl : Try.prog.underlying 34 = some (.slice 5)) (by kernel_rfl) (fun _ => kd_1) (hval 1 34 v1 rfl rfl) h1
  obtain ⟨y2, hy2, hr2⟩ := open_one_k (P := Try.prog) (k := 4) (by kernel_rfl : Try.prog.underlying 25 = some (.int .u64)) rfl (by decide) (hval 2 25 v2 rfl rfl) h2
  obtain ⟨x2, rfl⟩ := kd_4 hy2
  obtain ⟨y3, hy3, hr3⟩ := open_one_k (P := Try.prog) (k := 4) (by kernel_rfl : Try.prog.underlying 25 = some (.int .u64)) rfl (by decide) (hval 3 25 v3 rfl rfl) h3
  obtain ⟨x3, rfl⟩ := kd_4 hy3
  have hc := calls_of_scall (f17 x0 l1 x2 x3) (ρ := fun id => if id = 0 then some rb1 else none) (vs := [v0, v1, v2, v3]) (W := W) (fun id bb h => by
      match id, h with
      | 0, h => cases h; rfl
      | _ + 1, h => simp [hg] at h)
    (Rels.cons (hr0 _) (Rels.cons (hbr1 _ 0 rfl) (Rels.cons (hr2 _) (Rels.cons (hr3 _) (Rels.nil_iff.2 rfl)))))
    (fun id bb h => by
      match id, h with
      | 0, h => cases h; exact ⟨rb1, rfl, hbb1 _⟩
      | _ + 1, h => simp [hg] at h)
    (fun id h => by
      have h2 : 1 ≤ id := by simpa using h
      rw [if_neg (by omega)])
  refine hc.mono fun e W' ⟨he, hb⟩ => ?_
  subst he
  exact ⟨_, rfl, same_post (bt := 4) Try.laidOutSuiteTells (by decide +kernel) Try.underlying4 (by kernel_rfl) rfl hW' rfl hb⟩

theorem suiteTells_holds : Rows.SuiteTellsSaid :=
  OpenClaim.holds_of_wide 17 Try.f17 rfl rfl rfl rfl rfl rfl rfl ⟨rfl, rfl, rfl, rfl, rfl⟩ rfl rfl rfl rfl rfl (by kernel_rfl) Try.func17 (by kernel_rfl)
    (of_decide_eq_true (by kernel_rfl)) (by unfold Func.isWrapper; first | (rw [if_pos (by decide +kernel)]; kernel_rfl) | (rw [if_neg (by decide +kernel)]; exact ⟨rfl, rfl⟩))
    (fun os started H enc hx => suiteTells_lifted os started H enc)
end Go.Proofs.Ytannakicfkjhbaa
#print axioms Go.Proofs.Ytannakicfkjhbaa.suiteTells_holds
