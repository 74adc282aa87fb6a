/- hailer's law CtrTurns returns true whatever it is handed, and what it was handed reads as it did. No condition. -/
import Derived.Test.YtaknbogocnkmnaaFt5
namespace Go.Proofs.Ytaknbogocnkmnaa
open Go.ChangeShapes Go.WideShapes Go.ChangeAt Go.RowKit Go.Sh
set_option maxRecDepth 100000
set_option linter.unusedVariables false

theorem Try.ownCtrTurns : ownKnob Try.prog.godebug = none := by kernel_rfl
theorem Try.laidOutCtrTurns : laidOutB Try.prog = true := by kernel_rfl

theorem ctrTurns_lifted (os : Os) (started : os.Started) (H : Type) (enc : TypeId × Value → H) :
    ReturnsInHanded {} Try.checked os 11 .any (Rows.ctrTurnsSpec.pre6 enc Try.prog Try.f11 Rows.ctrTurnsRow.domain false) (Rows.ctrTurnsSpec.post enc Try.prog Try.f11 false true false false) := by
  refine returnsInHanded_of_change_sized (C := Try.checked) Try.ownCtrTurns started (by kernel_rfl) Try.func11
    (ChangeSpec.witness6 (enc := enc) (C := Try.checked) false ⟨#[], #[.slice none 0 0, .agg #[.int .u8 0, .int .u8 0, .int .u8 0, .int .u8 0, .int .u8 0, .int .u8 0, .int .u8 0, .int .u8 0, .int .u8 0, .int .u8 0, .int .u8 0, .int .u8 0, .int .u8 0, .int .u8 0, .int .u8 0, .int .u8 0], .slice none 0 0], []⟩ 8 (by kernel_rfl) (by kernel_rfl) (by kernel_rfl) (by kernel_rfl)) ?_
  intro W base args ds gs before hval0 hW hcnd hwt hcn2
  have hval : ∀ (j : Nat) t v, Try.f11.params[j]? = some t → args[j]? = some v → Value.okWide Try.prog W .any base t v := hval0
  have hW' := hW
  obtain ⟨p, q, hA0, hV, rfl, hfz, hnd⟩ := hW
  have hA : DataW.TrodAll enc Try.prog W 0 (fun _ => true) true Try.f11.params.toList args.toList ds p := hA0
  rw [Try.params11] at hA hval
  obtain ⟨v0, r0, d0, e0, p0, q0, ha, rfl, rfl, h0, hr0⟩ := trodAll_cons hA
  obtain ⟨v1, r1, d1, e1, p1, q1, rfl, rfl, rfl, h1, hr1⟩ := trodAll_cons hr0
  obtain ⟨v2, r2, d2, e2, p2, q2, rfl, rfl, rfl, h2, hr2⟩ := trodAll_cons hr1
  obtain ⟨rfl, rfl, rfl⟩ := trodAll_nil hr2
  obtain rfl : args = #[v0, v1, v2] := by cases args; simp_all
  obtain ⟨rfl, rfl⟩ := trodVars_none hV
  obtain ⟨l0, rb0, hl0, hbr0, hbb0⟩ := open_row1 (P := Try.prog) (d := 12) (k := 1) (by kernel_rfl : Try.prog.underlying 25 = some (.slice 5)) (by kernel_rfl) (fun _ => kd_1) (hval 0 25 v0 rfl rfl) h0
  obtain ⟨y1, hy1, hr1⟩ := open_agg_k (P := Try.prog) (d := 12) (ks := List.replicate 16 1) (by kernel_rfl) (by kernel_rfl) (hval 1 79 v1 rfl rfl) h1
  obtain ⟨l1, rfl, hl1⟩ := kd_rep (f := SV.u8) (fun _ => kd_1) hy1
  obtain ⟨ps2, rb2, hps2, hpl2, hbr2, hbb2, hbf2⟩ := open_row_q (P := Try.prog) (d := 12) (by kernel_rfl : Try.prog.underlying 91 = some (.slice 25)) (by kernel_rfl : Try.prog.underlying 25 = some (.slice 5)) (by kernel_rfl) (by kernel_rfl) (by decide +kernel) (by decide +kernel) (hval 2 91 v2 rfl rfl) h2 (fun k hk => by have := List.all_eq_true.1 hwt k (DataW.weights_mem_each (j := 2) (t := 91) rfl rfl k hk); simpa using this)
  have hc := calls_of_scall (f11 l0 l1 ps2 hl1 (Nat.lt_of_le_of_lt hps2 (by decide)) (fun p hp => Nat.lt_of_le_of_lt (hpl2 p hp) (by decide))) (ρ := fun id => if id = 0 then some rb0 else if id = 1 then some rb2 else if id = 2 then some rb2 else none) (vs := [v0, v1, v2]) (W := W) (fun id bb h => by
      match id, h with
      | 0, h => cases h; rfl
      | 1, h => cases h; rfl
      | 2, h => cases h; rfl
      | _ + 3, h => simp [hg] at h)
    (Rels.cons (hbr0 _ 0 rfl) (Rels.cons (hr1 _) (Rels.cons (hbr2 _ 1 rfl) (Rels.nil_iff.2 rfl))))
    (fun id bb h => by
      match id, h with
      | 0, h => cases h; exact ⟨rb0, rfl, hbb0 _⟩
      | 1, h => cases h; exact ⟨rb2, rfl, hbb2 _⟩
      | 2, h => cases h; exact ⟨rb2, rfl, hbf2 _ _⟩
      | _ + 3, h => simp [hg] at h)
    (fun id h => by
      have h2 : 3 ≤ id := by simpa using h
      rw [if_neg (by omega), if_neg (by omega), if_neg (by omega)])
  refine hc.mono fun e W' ⟨he, hb⟩ => ?_
  subst he
  exact ⟨_, rfl, same_post (bt := 4) Try.laidOutCtrTurns (by decide +kernel) Try.underlying4 (by kernel_rfl) rfl hW' rfl hb⟩

theorem ctrTurns_holds : Rows.CtrTurnsSaid :=
  OpenClaim.holds_of_wide 11 Try.f11 rfl rfl rfl rfl rfl rfl rfl ⟨rfl, rfl, rfl, rfl, rfl⟩ rfl rfl rfl rfl rfl (by kernel_rfl) Try.func11 (by kernel_rfl)
    (of_decide_eq_true (by kernel_rfl)) (by unfold Func.isWrapper; first | (rw [if_pos (by decide +kernel)]; kernel_rfl) | (rw [if_neg (by decide +kernel)]; exact ⟨rfl, rfl⟩))
    (fun os started H enc hx => ctrTurns_lifted os started H enc)
end Go.Proofs.Ytaknbogocnkmnaa
#print axioms Go.Proofs.Ytaknbogocnkmnaa.ctrTurns_holds
