/- hailer's law MacSame returns true whatever it is handed, and what it was handed reads as it did. No condition. -/
import Derived.Test.YtannakicfkjhbaaMs1
namespace Go.Proofs.Ytannakicfkjhbaa
open Go.ChangeShapes Go.WideShapes Go.ChangeAt Go.RowKit Go.Sh
set_option maxRecDepth 100000
set_option linter.unusedVariables false

theorem Try.ownMacSame : ownKnob Try.prog.godebug = none := by kernel_rfl
theorem Try.laidOutMacSame : laidOutB Try.prog = true := by kernel_rfl

theorem macSame_lifted (os : Os) (started : os.Started) (H : Type) (enc : TypeId × Value → H) :
    ReturnsInHanded {} Try.checked os 12 .any (Rows.macSameSpec.pre6 enc Try.prog Try.f12 Rows.macSameRow.domain false) (Rows.macSameSpec.post enc Try.prog Try.f12 false true false false) := by
  refine returnsInHanded_of_change (C := Try.checked) Try.ownMacSame started (by kernel_rfl) Try.func12
    (ChangeSpec.witness6 (enc := enc) (C := Try.checked) false ⟨#[], #[.slice none 0 0, .int .i64 0], []⟩ 8 (by kernel_rfl) (by kernel_rfl) (by kernel_rfl) (by kernel_rfl)) ?_
  intro W base args ds gs before hval0 hW hcnd hcn2
  have hval : ∀ (j : Nat) t v, Try.f12.params[j]? = some t → args[j]? = some v → Value.okWide Try.prog W .any base t v := hval0
  have hW' := hW
  obtain ⟨p, q, hA0, hV, rfl, hfz, hnd⟩ := hW
  have hA : DataW.TrodAll enc Try.prog W 0 (fun _ => true) true Try.f12.params.toList args.toList ds p := hA0
  rw [Try.params12] at hA hval
  obtain ⟨v0, r0, d0, e0, p0, q0, ha, rfl, rfl, h0, hr0⟩ := trodAll_cons hA
  obtain ⟨v1, r1, d1, e1, p1, q1, rfl, rfl, rfl, h1, hr1⟩ := trodAll_cons hr0
  obtain ⟨rfl, rfl, rfl⟩ := trodAll_nil hr1
  obtain rfl : args = #[v0, v1] := by cases args; simp_all
  obtain ⟨rfl, rfl⟩ := trodVars_none hV
  obtain ⟨l0, rb0, hl0, hbr0, hbb0⟩ := open_row1 (P := Try.prog) (d := 12) (k := 1) (by kernel_rfl : Try.prog.underlying 34 = some (.slice 5)) (by kernel_rfl) (fun _ => kd_1) (hval 0 34 v0 rfl rfl) h0
  obtain ⟨y1, hy1, hr1⟩ := open_one_k (P := Try.prog) (k := 0) (by kernel_rfl : Try.prog.underlying 3 = some (.int .i64)) rfl (by decide) (hval 1 3 v1 rfl rfl) h1
  obtain ⟨x1, rfl⟩ := kd_0 hy1
  have hx1 : x1 < 9223372036854775808 := by
    obtain ⟨n, hn, _, _, hw⟩ := open_int (by kernel_rfl : Try.prog.underlying 3 = some (.int .i64)) (hval 1 3 v1 rfl rfl) h1
    have hr := hr1 (fun _ => none)
    simp only [Rel] at hr
    rw [hn] at hr
    have hnx : n = x1 := by injection hr
    have hw2 : IntKind.i64.min ≤ n ∧ n ≤ 9223372036854775807 := by simpa [Lit.wf] using hw
    have hw3 := hw2.2
    omega
  have hc := calls_of_scall (f12 l0 x1 hx1) (ρ := fun id => if id = 0 then some rb0 else none) (vs := [v0, v1]) (W := W) (fun id bb h => by
      match id, h with
      | 0, h => cases h; rfl
      | _ + 1, h => simp [hg] at h)
    (Rels.cons (hbr0 _ 0 rfl) (Rels.cons (hr1 _) (Rels.nil_iff.2 rfl)))
    (fun id bb h => by
      match id, h with
      | 0, h => cases h; exact ⟨rb0, rfl, hbb0 _⟩
      | _ + 1, h => simp [hg] at h)
    (fun id h => by
      have h2 : 1 ≤ id := by simpa using h
      rw [if_neg (by omega)])
  refine hc.mono fun e W' ⟨he, hb⟩ => ?_
  subst he
  exact ⟨_, rfl, same_post (bt := 4) Try.laidOutMacSame (by decide +kernel) Try.underlying4 (by kernel_rfl) rfl hW' rfl hb⟩

theorem macSame_holds : Rows.MacSameSaid :=
  OpenClaim.holds_of_wide 12 Try.f12 rfl rfl rfl rfl rfl rfl rfl ⟨rfl, rfl, rfl, rfl, rfl⟩ rfl rfl rfl rfl rfl (by kernel_rfl) Try.func12 (by kernel_rfl)
    (of_decide_eq_true (by kernel_rfl)) (by unfold Func.isWrapper; first | (rw [if_pos (by decide +kernel)]; kernel_rfl) | (rw [if_neg (by decide +kernel)]; exact ⟨rfl, rfl⟩))
    (fun os started H enc hx => macSame_lifted os started H enc)
end Go.Proofs.Ytannakicfkjhbaa
#print axioms Go.Proofs.Ytannakicfkjhbaa.macSame_holds
