/- hailerlaw12.HeadBack returns true whatever it is handed, and what it was handed reads as it did. No condition. -/
import Derived.Test.YtaknbogocnkmnaaT13
import Derived.Test.YtaknbogocnkmnaaSh20
namespace Go.Proofs.Ytaknbogocnkmnaa
open Go.ChangeShapes Go.WideShapes Go.ChangeAt Go.RowKit Go.Sh

theorem Try.own2 : ownKnob Try.prog.godebug = none := by kernel_rfl
theorem Try.laidOut2 : laidOutB Try.prog = true := by kernel_rfl

set_option maxRecDepth 100000 in
theorem headBack_lifted (os : Os) (started : os.Started) (H : Type) (enc : TypeId × Value → H) :
    ReturnsInHanded {} Try.checked os 4 .any (Rows.headBackSpec.pre6 enc Try.prog Try.f4 Rows.headBackRow.domain false) (Rows.headBackSpec.post enc Try.prog Try.f4 false true false false) := by
  refine returnsInHanded_of_change (C := Try.checked) Try.own2 started (by kernel_rfl) Try.func4
    (ChangeSpec.witness6 (enc := enc) (C := Try.checked) false ⟨#[], #[.agg #[.int .u64 0, .int .u64 0], .agg #[.int .u64 0, .int .u64 0], .slice none 0 0], []⟩ 8 (by kernel_rfl) (by kernel_rfl) (by kernel_rfl) (by kernel_rfl)) ?_
  intro W base args ds gs before hval0 hW hcnd _
  have hval : ∀ (j : Nat) t v, Try.f4.params[j]? = some t → args[j]? = some v → Value.okWide Try.prog W .any base t v := hval0
  have hW' := hW
  obtain ⟨p, q, hA0, hV, rfl, hfz, hnd⟩ := hW
  have hA : DataW.TrodAll enc Try.prog W 0 (fun _ => true) true Try.f4.params.toList args.toList ds p := hA0
  rw [Try.params4] at hA hval
  obtain ⟨v0, v2, v1, d0, d2, d1, p0, p2, p1, rfl, rfl, rfl, h0, h2, h1⟩ := trodAll_three hA
  obtain ⟨rfl, rfl⟩ := trodVars_none hV
  obtain ⟨xs, hx, hxr⟩ := open_agg_k (d := 12) (ks := [4, 4]) (by kernel_rfl) (by kernel_rfl) (hval 0 24 v0 rfl rfl) h0
  obtain ⟨x, ys, rfl, hx1, hx⟩ := kd_cons hx
  obtain ⟨y, zs, rfl, hx2, hx⟩ := kd_cons hx
  have hz := kd_nil hx
  subst hz
  obtain ⟨k, rfl⟩ := kd_4 hx1
  obtain ⟨c, rfl⟩ := kd_4 hx2
  obtain ⟨xs, hx, hxr2⟩ := open_agg_k (d := 12) (ks := [4, 4]) (by kernel_rfl) (by kernel_rfl) (hval 1 24 v2 rfl rfl) h2
  obtain ⟨x, ys, rfl, hx1, hx⟩ := kd_cons hx
  obtain ⟨y, zs, rfl, hx2, hx⟩ := kd_cons hx
  have hz := kd_nil hx
  subst hz
  obtain ⟨k2, rfl⟩ := kd_4 hx1
  obtain ⟨c2, rfl⟩ := kd_4 hx2
  obtain ⟨b, rb, _, hbr, hbb⟩ := open_row1 (d := 12) (k := 1) (by kernel_rfl : Try.prog.underlying 25 = some (.slice 5)) (by kernel_rfl) (fun _ => kd_1) (hval 2 25 v1 rfl rfl) h1
  have hc := calls_of_scall (f4 k c k2 c2 b) (ρ := fun id => if id = 0 then some rb else none) (vs := [v0, v2, v1]) (W := W) (fun id bb h => by
      match id, h with
      | 0, h => cases h; rfl
      | _ + 1, h => simp [hg] at h)
    (Rels.cons (hxr _) (Rels.cons (hxr2 _) (Rels.cons (hbr _ 0 rfl) (Rels.nil_iff.2 rfl))))
    (fun id bb h => by
      match id, h with
      | 0, h => cases h; exact ⟨rb, rfl, hbb _⟩
      | _ + 1, h => simp [hg] at h)
    (fun id h => by simp at h; simp; omega)
  refine hc.mono fun e W' ⟨he, hb⟩ => ?_
  subst he
  exact ⟨_, rfl, same_post (bt := 4) Try.laidOut2 (by decide +kernel) Try.underlying4 (by kernel_rfl) rfl hW' rfl hb⟩

theorem headBack_holds : Rows.HeadBackSaid :=
  OpenClaim.holds_of_wide 4 Try.f4 rfl rfl rfl rfl rfl rfl rfl ⟨rfl, rfl, rfl, rfl, rfl⟩ rfl rfl rfl rfl rfl (by kernel_rfl) Try.func4 (by kernel_rfl)
    (of_decide_eq_true (by kernel_rfl)) (by unfold Func.isWrapper; first | (rw [if_pos (by decide +kernel)]; kernel_rfl) | (rw [if_neg (by decide +kernel)]; exact ⟨rfl, rfl⟩))
    (fun os started H enc _ => headBack_lifted os started H enc)
end Go.Proofs.Ytaknbogocnkmnaa
#print axioms Go.Proofs.Ytaknbogocnkmnaa.headBack_holds
