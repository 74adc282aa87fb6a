/- hailer's law NetOnce returns true whatever it is handed, and what it was handed reads as it did. No condition. -/
import Derived.Test.YtaknbogocnkmnaaBo4
namespace Go.Proofs.Ytaknbogocnkmnaa
open Go.ChangeShapes Go.WideShapes Go.ChangeAt Go.RowKit Go.Sh
set_option maxRecDepth 100000
set_option linter.unusedVariables false

theorem Try.ownNetOnce : ownKnob Try.prog.godebug = none := by kernel_rfl
theorem Try.laidOutNetOnce : laidOutB Try.prog = true := by kernel_rfl

theorem netOnce_lifted (os : Os) (started : os.Started) (H : Type) (enc : TypeId × Value → H) :
    ReturnsInHanded {} Try.checked os 6 .any (Rows.netOnceSpec.pre6 enc Try.prog Try.f6 Rows.netOnceRow.domain false) (Rows.netOnceSpec.post enc Try.prog Try.f6 false true false false) := by
  refine returnsInHanded_of_change (C := Try.checked) Try.ownNetOnce started (by kernel_rfl) Try.func6
    (ChangeSpec.witness6 (enc := enc) (C := Try.checked) false ⟨#[], #[.slice none 0 0, .slice none 0 0, .slice none 0 0, .int .u64 0], []⟩ 8 (by kernel_rfl) (by kernel_rfl) (by kernel_rfl) (by kernel_rfl)) ?_
  intro W base args ds gs before hval0 hW hcnd hcn2
  have hval : ∀ (j : Nat) t v, Try.f6.params[j]? = some t → args[j]? = some v → Value.okWide Try.prog W .any base t v := hval0
  have hW' := hW
  obtain ⟨p, q, hA0, hV, rfl, hfz, hnd⟩ := hW
  have hA : DataW.TrodAll enc Try.prog W 0 (fun _ => true) true Try.f6.params.toList args.toList ds p := hA0
  rw [Try.params6] at hA hval
  obtain ⟨v0, r0, d0, e0, p0, q0, ha, rfl, rfl, h0, hr0⟩ := trodAll_cons hA
  obtain ⟨v1, r1, d1, e1, p1, q1, rfl, rfl, rfl, h1, hr1⟩ := trodAll_cons hr0
  obtain ⟨v2, r2, d2, e2, p2, q2, rfl, rfl, rfl, h2, hr2⟩ := trodAll_cons hr1
  obtain ⟨v3, r3, d3, e3, p3, q3, rfl, rfl, rfl, h3, hr3⟩ := trodAll_cons hr2
  obtain ⟨rfl, rfl, rfl⟩ := trodAll_nil hr3
  obtain rfl : args = #[v0, v1, v2, v3] := by cases args; simp_all
  obtain ⟨rfl, rfl⟩ := trodVars_none hV
  obtain ⟨l0, rb0, hl0, hbr0, hbb0⟩ := open_row1 (P := Try.prog) (d := 12) (k := 3) (by kernel_rfl : Try.prog.underlying 45 = some (.slice 49)) (by kernel_rfl) (fun _ => kd_3) (hval 0 45 v0 rfl rfl) h0
  obtain ⟨l1, rb1, hl1, hbr1, hbb1⟩ := open_row1 (P := Try.prog) (d := 12) (k := 0) (by kernel_rfl : Try.prog.underlying 46 = some (.slice 3)) (by kernel_rfl) (fun _ => kd_0) (hval 1 46 v1 rfl rfl) h1
  obtain ⟨l2, rb2, hl2, hbr2, hbb2⟩ := open_row1 (P := Try.prog) (d := 12) (k := 1) (by kernel_rfl : Try.prog.underlying 25 = some (.slice 5)) (by kernel_rfl) (fun _ => kd_1) (hval 2 25 v2 rfl rfl) h2
  obtain ⟨y3, hy3, hr3⟩ := open_one_k (P := Try.prog) (k := 4) (by kernel_rfl : Try.prog.underlying 22 = some (.int .u64)) rfl (by decide) (hval 3 22 v3 rfl rfl) h3
  obtain ⟨x3, rfl⟩ := kd_4 hy3
  have hc := calls_of_scall (f6 l0 l1 l2 x3) (ρ := fun id => if id = 0 then some rb0 else if id = 1 then some rb1 else if id = 2 then some rb2 else none) (vs := [v0, v1, v2, v3]) (W := W) (fun id bb h => by
      match id, h with
      | 0, h => cases h; rfl
      | 1, h => cases h; rfl
      | 2, h => cases h; rfl
      | _ + 3, h => simp [hg] at h)
    (Rels.cons (hbr0 _ 0 rfl) (Rels.cons (hbr1 _ 1 rfl) (Rels.cons (hbr2 _ 2 rfl) (Rels.cons (hr3 _) (Rels.nil_iff.2 rfl)))))
    (fun id bb h => by
      match id, h with
      | 0, h => cases h; exact ⟨rb0, rfl, hbb0 _⟩
      | 1, h => cases h; exact ⟨rb1, rfl, hbb1 _⟩
      | 2, h => cases h; exact ⟨rb2, rfl, hbb2 _⟩
      | _ + 3, h => simp [hg] at h)
    (fun id h => by
      have h2 : 3 ≤ id := by simpa using h
      rw [if_neg (by omega), if_neg (by omega), if_neg (by omega)])
  refine hc.mono fun e W' ⟨he, hb⟩ => ?_
  subst he
  exact ⟨_, rfl, same_post (bt := 4) Try.laidOutNetOnce (by decide +kernel) Try.underlying4 (by kernel_rfl) rfl hW' rfl hb⟩

theorem netOnce_holds : Rows.NetOnceSaid :=
  OpenClaim.holds_of_wide 6 Try.f6 rfl rfl rfl rfl rfl rfl rfl ⟨rfl, rfl, rfl, rfl, rfl⟩ rfl rfl rfl rfl rfl (by kernel_rfl) Try.func6 (by kernel_rfl)
    (of_decide_eq_true (by kernel_rfl)) (by unfold Func.isWrapper; first | (rw [if_pos (by decide +kernel)]; kernel_rfl) | (rw [if_neg (by decide +kernel)]; exact ⟨rfl, rfl⟩))
    (fun os started H enc hx => netOnce_lifted os started H enc)
end Go.Proofs.Ytaknbogocnkmnaa
#print axioms Go.Proofs.Ytaknbogocnkmnaa.netOnce_holds
