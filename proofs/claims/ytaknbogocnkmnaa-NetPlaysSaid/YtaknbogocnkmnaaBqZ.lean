/- hailer's law NetPlays returns true whatever it is handed, and what it was handed reads as it did. No condition. -/
import Derived.Test.YtaknbogocnkmnaaBq2
namespace Go.Proofs.Ytaknbogocnkmnaa
open Go.ChangeShapes Go.WideShapes Go.ChangeAt Go.RowKit Go.Sh
set_option maxRecDepth 100000
set_option linter.unusedVariables false

theorem Try.ownNetPlays : ownKnob Try.prog.godebug = none := by kernel_rfl
theorem Try.laidOutNetPlays : laidOutB Try.prog = true := by kernel_rfl

theorem netPlays_lifted (os : Os) (started : os.Started) (H : Type) (enc : TypeId × Value → H) :
    ReturnsInHanded {} Try.checked os 7 .any (Rows.netPlaysSpec.pre6 enc Try.prog Try.f7 Rows.netPlaysRow.domain false) (Rows.netPlaysSpec.post enc Try.prog Try.f7 false true false false) := by
  refine returnsInHanded_of_change_sized (C := Try.checked) Try.ownNetPlays started (by kernel_rfl) Try.func7
    (ChangeSpec.witness6 (enc := enc) (C := Try.checked) false ⟨#[], #[.int .i64 0, .slice none 0 0], []⟩ 8 (by kernel_rfl) (by kernel_rfl) (by kernel_rfl) (by kernel_rfl)) ?_
  intro W base args ds gs before hval0 hW hcnd hwt hcn2
  have hval : ∀ (j : Nat) t v, Try.f7.params[j]? = some t → args[j]? = some v → Value.okWide Try.prog W .any base t v := hval0
  have hW' := hW
  obtain ⟨p, q, hA0, hV, rfl, hfz, hnd⟩ := hW
  have hA : DataW.TrodAll enc Try.prog W 0 (fun _ => true) true Try.f7.params.toList args.toList ds p := hA0
  rw [Try.params7] at hA hval
  obtain ⟨v0, r0, d0, e0, p0, q0, ha, rfl, rfl, h0, hr0⟩ := trodAll_cons hA
  obtain ⟨v1, r1, d1, e1, p1, q1, rfl, rfl, rfl, h1, hr1⟩ := trodAll_cons hr0
  obtain ⟨rfl, rfl, rfl⟩ := trodAll_nil hr1
  obtain rfl : args = #[v0, v1] := by cases args; simp_all
  obtain ⟨rfl, rfl⟩ := trodVars_none hV
  obtain ⟨y0, hy0, hr0⟩ := open_one_k (P := Try.prog) (k := 0) (by kernel_rfl : Try.prog.underlying 3 = some (.int .i64)) rfl (by decide) (hval 0 3 v0 rfl rfl) h0
  obtain ⟨x0, rfl⟩ := kd_0 hy0
  have hx0 : x0 < 9223372036854775808 := by
    obtain ⟨n, hn, _, _, hw⟩ := open_int (by kernel_rfl : Try.prog.underlying 3 = some (.int .i64)) (hval 0 3 v0 rfl rfl) h0
    have hr := hr0 (fun _ => none)
    simp only [Rel] at hr
    rw [hn] at hr
    have hnx : n = x0 := by injection hr
    have hw2 : IntKind.i64.min ≤ n ∧ n ≤ 9223372036854775807 := by simpa [Lit.wf] using hw
    have hw3 := hw2.2
    omega
  obtain ⟨dd1, rb1, hps1, hpl1, hbr1, hbb1, hbf1⟩ := open_row_d (P := Try.prog) (d := 12) (e := 59) (e2 := 49) (t0 := 5) (t1 := 3) (t2 := 45) (t3 := 49) (by kernel_rfl : Try.prog.underlying 56 = some (.slice 59)) (by kernel_rfl) (by kernel_rfl) (by kernel_rfl) (by kernel_rfl) (by kernel_rfl : Try.prog.underlying 45 = some (.slice 49)) (by kernel_rfl) (by kernel_rfl) (by kernel_rfl) (by decide +kernel) (by decide +kernel) (hval 1 56 v1 rfl rfl) h1 (fun k hk => by have := List.all_eq_true.1 hwt k (DataW.weights_mem_each (j := 1) (t := 56) rfl rfl k hk); simpa using this)
  have hc := calls_of_scall (f7 x0 dd1 hx0 (Nat.lt_of_le_of_lt hps1 (by decide)) (fun d hd => Nat.lt_of_le_of_lt (hpl1 d hd) (by decide))) (ρ := fun id => if id = 0 then some rb1 else if id = 1 then some rb1 else none) (vs := [v0, v1]) (W := W) (fun id bb h => by
      match id, h with
      | 0, h => cases h; rfl
      | 1, h => cases h; rfl
      | _ + 2, h => simp [hg] at h)
    (Rels.cons (hr0 _) (Rels.cons (hbr1 _ 0 rfl) (Rels.nil_iff.2 rfl)))
    (fun id bb h => by
      match id, h with
      | 0, h => cases h; exact ⟨rb1, rfl, hbb1 _⟩
      | 1, h => cases h; exact ⟨rb1, rfl, hbf1 _ _⟩
      | _ + 2, h => simp [hg] at h)
    (fun id h => by
      have h2 : 2 ≤ id := by simpa using h
      rw [if_neg (by omega), if_neg (by omega)])
  refine hc.mono fun e W' ⟨he, hb⟩ => ?_
  subst he
  exact ⟨_, rfl, same_post (bt := 4) Try.laidOutNetPlays (by decide +kernel) Try.underlying4 (by kernel_rfl) rfl hW' rfl hb⟩

theorem netPlays_holds : Rows.NetPlaysSaid :=
  OpenClaim.holds_of_wide 7 Try.f7 rfl rfl rfl rfl rfl rfl rfl ⟨rfl, rfl, rfl, rfl, rfl⟩ rfl rfl rfl rfl rfl (by kernel_rfl) Try.func7 (by kernel_rfl)
    (of_decide_eq_true (by kernel_rfl)) (by unfold Func.isWrapper; first | (rw [if_pos (by decide +kernel)]; kernel_rfl) | (rw [if_neg (by decide +kernel)]; exact ⟨rfl, rfl⟩))
    (fun os started H enc hx => netPlays_lifted os started H enc)
end Go.Proofs.Ytaknbogocnkmnaa
#print axioms Go.Proofs.Ytaknbogocnkmnaa.netPlays_holds
