/- hailer's law NetTurns returns true whatever it is handed, and what it was handed reads as it did. No condition. -/
import Derived.Test.YtaknbogocnkmnaaBt4
namespace Go.Proofs.Ytaknbogocnkmnaa
open Go.ChangeShapes Go.WideShapes Go.ChangeAt Go.RowKit Go.Sh
set_option maxRecDepth 100000
set_option linter.unusedVariables false

theorem Try.ownNetTurns : ownKnob Try.prog.godebug = none := by kernel_rfl
theorem Try.laidOutNetTurns : laidOutB Try.prog = true := by kernel_rfl

theorem netTurns_lifted (os : Os) (started : os.Started) (H : Type) (enc : TypeId × Value → H) :
    ReturnsInHanded {} Try.checked os 5 .any (Rows.netTurnsSpec.pre6 enc Try.prog Try.f5 Rows.netTurnsRow.domain false) (Rows.netTurnsSpec.post enc Try.prog Try.f5 false true false false) := by
  refine returnsInHanded_of_change (C := Try.checked) Try.ownNetTurns started (by kernel_rfl) Try.func5
    (ChangeSpec.witness6 (enc := enc) (C := Try.checked) false ⟨#[], #[.agg #[.int .u8 0, .int .u8 0], .slice none 0 0, .int .u64 0], []⟩ 8 (by kernel_rfl) (by kernel_rfl) (by kernel_rfl) (by kernel_rfl)) ?_
  intro W base args ds gs before hval0 hW hcnd hcn2
  have hval : ∀ (j : Nat) t v, Try.f5.params[j]? = some t → args[j]? = some v → Value.okWide Try.prog W .any base t v := hval0
  have hW' := hW
  obtain ⟨p, q, hA0, hV, rfl, hfz, hnd⟩ := hW
  have hA : DataW.TrodAll enc Try.prog W 0 (fun _ => true) true Try.f5.params.toList args.toList ds p := hA0
  rw [Try.params5] at hA hval
  obtain ⟨v0, r0, d0, e0, p0, q0, ha, rfl, rfl, h0, hr0⟩ := trodAll_cons hA
  obtain ⟨v1, r1, d1, e1, p1, q1, rfl, rfl, rfl, h1, hr1⟩ := trodAll_cons hr0
  obtain ⟨v2, r2, d2, e2, p2, q2, rfl, rfl, rfl, h2, hr2⟩ := trodAll_cons hr1
  obtain ⟨rfl, rfl, rfl⟩ := trodAll_nil hr2
  obtain rfl : args = #[v0, v1, v2] := by cases args; simp_all
  obtain ⟨rfl, rfl⟩ := trodVars_none hV
  obtain ⟨y0, hy0, hr0⟩ := open_agg_k (P := Try.prog) (d := 12) (ks := List.replicate 2 1) (by kernel_rfl) (by kernel_rfl) (hval 0 37 v0 rfl rfl) h0
  obtain ⟨l0, rfl, hl0⟩ := kd_rep (f := SV.u8) (fun _ => kd_1) hy0
  obtain ⟨l1, rb1, hl1, hbr1, hbb1⟩ := open_row1 (P := Try.prog) (d := 12) (k := 1) (by kernel_rfl : Try.prog.underlying 25 = some (.slice 5)) (by kernel_rfl) (fun _ => kd_1) (hval 1 25 v1 rfl rfl) h1
  obtain ⟨y2, hy2, hr2⟩ := open_one_k (P := Try.prog) (k := 4) (by kernel_rfl : Try.prog.underlying 22 = some (.int .u64)) rfl (by decide) (hval 2 22 v2 rfl rfl) h2
  obtain ⟨x2, rfl⟩ := kd_4 hy2
  have hc := calls_of_scall (f5 l0 l1 x2 hl0) (ρ := fun id => if id = 0 then some rb1 else none) (vs := [v0, v1, v2]) (W := W) (fun id bb h => by
      match id, h with
      | 0, h => cases h; rfl
      | _ + 1, h => simp [hg] at h)
    (Rels.cons (hr0 _) (Rels.cons (hbr1 _ 0 rfl) (Rels.cons (hr2 _) (Rels.nil_iff.2 rfl))))
    (fun id bb h => by
      match id, h with
      | 0, h => cases h; exact ⟨rb1, rfl, hbb1 _⟩
      | _ + 1, h => simp [hg] at h)
    (fun id h => by
      have h2 : 1 ≤ id := by simpa using h
      rw [if_neg (by omega)])
  refine hc.mono fun e W' ⟨he, hb⟩ => ?_
  subst he
  exact ⟨_, rfl, same_post (bt := 4) Try.laidOutNetTurns (by decide +kernel) Try.underlying4 (by kernel_rfl) rfl hW' rfl hb⟩

theorem netTurns_holds : Rows.NetTurnsSaid :=
  OpenClaim.holds_of_wide 5 Try.f5 rfl rfl rfl rfl rfl rfl rfl ⟨rfl, rfl, rfl, rfl, rfl⟩ rfl rfl rfl rfl rfl (by kernel_rfl) Try.func5 (by kernel_rfl)
    (of_decide_eq_true (by kernel_rfl)) (by unfold Func.isWrapper; first | (rw [if_pos (by decide +kernel)]; kernel_rfl) | (rw [if_neg (by decide +kernel)]; exact ⟨rfl, rfl⟩))
    (fun os started H enc hx => netTurns_lifted os started H enc)
end Go.Proofs.Ytaknbogocnkmnaa
#print axioms Go.Proofs.Ytaknbogocnkmnaa.netTurns_holds
