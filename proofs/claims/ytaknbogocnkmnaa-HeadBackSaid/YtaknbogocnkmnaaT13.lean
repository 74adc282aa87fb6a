/- hailerlaw12.HeadBack, walked. -/
import Derived.Test.YtaknbogocnkmnaaT11
namespace Go.Sh
open Go.Proofs
set_option maxHeartbeats 4000000
set_option linter.unusedSimpArgs false

theorem val_digs : ∀ n, val (digs n) = n := by
  intro n
  induction n using Nat.strongRecOn with
  | _ n ih =>
    by_cases h : n = 0
    · subst h; rw [digs_zero]; rfl
    · rw [digs_pos h, val_snoc, ih (n / 256) (by omega)]
      simp only [UInt8.toNat_ofNat']; omega

theorem beM_hD {k : UInt64} (h : ¬ k < 8) : beM (hD k) = k := by
  apply UInt64.toNat_inj.1
  rw [beM_val _ (hD_len k), hD_digs h, val_digs]

theorem hD_nil {k : UInt64} (h : k < 8) : hD k = [] := by unfold hD; rw [if_pos h]

theorem rTake_put (k c : UInt64) (l : List UInt8) : rTake (refPut k c ++ l) = some ((refPut k c).length, k, c) := by
  have hk := nb_lt k
  have hc := nb_lt c
  have lk := hD_len k
  have lc := hD_len c
  rw [refPut_form]
  obtain ⟨b, hb⟩ : ∃ b, b = (UInt8.ofNat (16 * nb k + nb c) :: (hD k ++ hD c)) ++ l := ⟨_, rfl⟩
  have hx : (b.getD 0 0).toNat = 16 * nb k + nb c := by
    subst hb
    show (UInt8.ofNat _).toNat = _
    simp only [UInt8.toNat_ofNat']; omega
  have d1 : b.drop 1 = hD k ++ (hD c ++ l) := by subst hb; simp
  have e1 : rnk b = (hD k).length := by
    unfold rnk; rw [hx]
    by_cases h : k < 8
    · have := n8 h
      have h2 : nb k = k.toNat := by unfold nb; rw [if_pos h]
      rw [hD_nil h, if_neg (by omega)]; rfl
    · have h2 : nb k = 7 + (hD k).length := by unfold nb; rw [if_neg h]
      have := hD_pos h
      rw [if_pos (by omega)]; omega
  have e2 : rnc b = (hD c).length := by
    unfold rnc; rw [hx]
    by_cases h : c < 8
    · have := n8 h
      have h2 : nb c = c.toNat := by unfold nb; rw [if_pos h]
      rw [hD_nil h, if_neg (by omega)]; rfl
    · have h2 : nb c = 7 + (hD c).length := by unfold nb; rw [if_neg h]
      have := hD_pos h
      rw [if_pos (by omega)]; omega
  have e3 : rk b = k := by
    unfold rk; rw [e1, d1, List.take_left']
    · by_cases h : k < 8
      · rw [hD_nil h, if_neg (by simp)]
        have := n8 h
        have h2 : nb k = k.toNat := by unfold nb; rw [if_pos h]
        apply UInt64.toNat_inj.1
        rw [UInt8.toNat_toUInt64, UInt8.toNat_div, hx]
        show (16 * nb k + nb c) / 16 = _
        omega
      · rw [if_pos (hD_pos h), beM_hD h]
    · rfl
  have d2 : b.drop (1 + rnk b) = hD c ++ l := by
    rw [← List.drop_drop, d1, e1, List.drop_left']; rfl
  have e4 : rc b = c := by
    unfold rc; rw [d2, e2, List.take_left']
    · by_cases h : c < 8
      · rw [hD_nil h, if_neg (by simp)]
        have := n8 h
        have h2 : nb c = c.toNat := by unfold nb; rw [if_pos h]
        apply UInt64.toNat_inj.1
        rw [UInt8.toNat_toUInt64, UInt8.toNat_mod, hx]
        show (16 * nb k + nb c) % 16 = _
        omega
      · rw [if_pos (hD_pos h), beM_hD h]
    · rfl
  have hl : (UInt8.ofNat (16 * nb k + nb c) :: (hD k ++ hD c)).length = 1 + rnk b + rnc b := by
    rw [e1, e2]; simp; omega
  rw [← hb]
  unfold rTake
  rw [if_neg (by subst hb; simp), if_neg (by subst hb; rw [e1, e2]; simp; omega), e3, e4, refPut_form, if_pos (by rw [hb, ← hb, ← hl, hb, List.take_left]), hl]

theorem refPut_len (k c : UInt64) : (refPut k c).length ≤ 17 ∧ 0 < (refPut k c).length := by
  rw [refPut_form]
  have lk := hD_len k
  have lc := hD_len c
  simp; omega

theorem refPut_pre (k c k2 c2 : UInt64) (h : (refPut k2 c2).take (refPut k c).length = refPut k c) : k = k2 ∧ c = c2 := by
  have h2 := rTake_put k2 c2 []
  rw [List.append_nil] at h2
  have h3 := rTake_put k c ((refPut k2 c2).drop (refPut k c).length)
  have e : refPut k c ++ (refPut k2 c2).drop (refPut k c).length = refPut k2 c2 := by
    have := List.take_append_drop (refPut k c).length (refPut k2 c2)
    rwa [h] at this
  rw [e, h2] at h3
  simp at h3
  exact ⟨h3.2.1.symm, h3.2.2.symm⟩

theorem f4 (k c k2 c2 : UInt64) (b : List UInt8) : SCall Try.prog 4 [.agg [.u64 k, .u64 c], .agg [.u64 k2, .u64 c2], .sl 0 0 b.length 1 false] [some (.ro (b.map .u8))] (.b true) [some (.ro (b.map .u8))] := by
  refine scall_of ttOk (by kernel_rfl : Try.prog.funcs[4]? = some Try.f4) rfl rfl rfl ?_
  refine sw_ok ttOk mixed (by kernel_rfl) ?_
  conv => whnf
  repeat (first | (refine Exists.intro _ (And.intro bytesOf_all ?_); conv => whnf) | (refine Exists.intro _ (And.intro (bytesOf_cut rfl) ?_); conv => whnf) | (refine Exists.intro _ (And.intro rfl ?_); conv => whnf) | (refine brT rfl ?_; conv => whnf) | (refine brF rfl ?_; conv => whnf) | (refine gdT rfl ?_; conv => whnf) | (refine gdF rfl ?_; conv => whnf) | (refine pkT rfl ?_; conv => whnf) | (refine pkF rfl ?_; conv => whnf) | (refine gdT (by first | (simp; done) | fail) ?_; conv => whnf) | (refine gdF (by first | (simp; done) | fail) ?_; conv => whnf) | (refine brT (by first | (simp; done) | fail) ?_; conv => whnf) | (refine brF (by first | (simp; done) | fail) ?_; conv => whnf) | (refine pkT (by first | (simp; done) | fail) ?_; conv => whnf) | (refine pkF (by first | (simp; done) | fail) ?_; conv => whnf) | (refine And.intro ⟨rfl, rfl⟩ ?_; conv => whnf) | (refine And.intro (by first | omega | (simp; done) | (simp; omega) | (simp [ti5]; omega)) ?_; conv => whnf) | (refine And.intro (Nat.le_of_ble_eq_true rfl) ?_; conv => whnf) | (refine And.intro ⟨rfl, Nat.le_of_ble_eq_true rfl⟩ ?_; conv => whnf) | (refine And.intro (by kernel_rfl) ?_; conv => whnf) | fail)
  refine ok1_callP [] (f15) rfl rfl ⟨⟨rfl, by first | rfl | (simp [renL, renV]; done) | (simp [renL, renV]; omega)⟩, trivial, by first | rfl | simp [plainH], ?_⟩
  conv => whnf
  repeat (first | (refine Exists.intro _ (And.intro bytesOf_all ?_); conv => whnf) | (refine Exists.intro _ (And.intro (bytesOf_cut rfl) ?_); conv => whnf) | (refine Exists.intro _ (And.intro rfl ?_); conv => whnf) | (refine brT rfl ?_; conv => whnf) | (refine brF rfl ?_; conv => whnf) | (refine gdT rfl ?_; conv => whnf) | (refine gdF rfl ?_; conv => whnf) | (refine pkT rfl ?_; conv => whnf) | (refine pkF rfl ?_; conv => whnf) | (refine gdT (by first | (simp; done) | fail) ?_; conv => whnf) | (refine gdF (by first | (simp; done) | fail) ?_; conv => whnf) | (refine brT (by first | (simp; done) | fail) ?_; conv => whnf) | (refine brF (by first | (simp; done) | fail) ?_; conv => whnf) | (refine pkT (by first | (simp; done) | fail) ?_; conv => whnf) | (refine pkF (by first | (simp; done) | fail) ?_; conv => whnf) | (refine And.intro ⟨rfl, rfl⟩ ?_; conv => whnf) | (refine And.intro (by first | omega | (simp; done) | (simp; omega) | (simp [ti5]; omega)) ?_; conv => whnf) | (refine And.intro (Nat.le_of_ble_eq_true rfl) ?_; conv => whnf) | (refine And.intro ⟨rfl, Nat.le_of_ble_eq_true rfl⟩ ?_; conv => whnf) | (refine And.intro (by kernel_rfl) ?_; conv => whnf) | fail)
  by_cases hb : b.length > 1000
  · refine brT (by simp; omega) ?_
    conv => whnf
    repeat (first | (refine Exists.intro _ (And.intro bytesOf_all ?_); conv => whnf) | (refine Exists.intro _ (And.intro (bytesOf_cut rfl) ?_); conv => whnf) | (refine Exists.intro _ (And.intro rfl ?_); conv => whnf) | (refine brT rfl ?_; conv => whnf) | (refine brF rfl ?_; conv => whnf) | (refine gdT rfl ?_; conv => whnf) | (refine gdF rfl ?_; conv => whnf) | (refine pkT rfl ?_; conv => whnf) | (refine pkF rfl ?_; conv => whnf) | (refine gdT (by first | (simp; done) | fail) ?_; conv => whnf) | (refine gdF (by first | (simp; done) | fail) ?_; conv => whnf) | (refine brT (by first | (simp; done) | fail) ?_; conv => whnf) | (refine brF (by first | (simp; done) | fail) ?_; conv => whnf) | (refine pkT (by first | (simp; done) | fail) ?_; conv => whnf) | (refine pkF (by first | (simp; done) | fail) ?_; conv => whnf) | (refine And.intro ⟨rfl, rfl⟩ ?_; conv => whnf) | (refine And.intro (by first | omega | (simp; done) | (simp; omega) | (simp [ti5]; omega)) ?_; conv => whnf) | (refine And.intro (Nat.le_of_ble_eq_true rfl) ?_; conv => whnf) | (refine And.intro ⟨rfl, Nat.le_of_ble_eq_true rfl⟩ ?_; conv => whnf) | (refine And.intro (by kernel_rfl) ?_; conv => whnf) | fail)
    refine ⟨[0], ?_, rfl, rfl, ?_, rfl⟩
    · (repeat' (first | exact trivial | refine And.intro ?_ ?_ | (refine wk_tup ?_) | (refine wk_agg ?_) | (refine wk_cons ?_ ?_))) <;> first | rfl | exact wk_i (by first | rfl | omega | (simp; done) | (simp; omega)) | exact wk_sl rfl (by first | rfl | omega | (simp; done) | (simp; omega)) (by first | rfl | omega | (simp; done) | (simp; omega)) | exact ren_eq (by first | rfl | simp) (by first | rfl | omega | (simp; done) | (simp; omega)) | exact wk_u64 (by first | rfl | omega | (simp; done) | (simp; omega)) | exact wk_u8 (by first | rfl | omega | (simp; done) | (simp; omega)) | exact wk_u32 (by first | rfl | omega | (simp; done) | (simp; omega)) | exact wk_b (by first | rfl | omega | (simp; done) | (simp; omega)) | skip
    · (repeat' (first | exact trivial | refine And.intro ?_ ?_ | (refine wk_tup ?_) | (refine wk_agg ?_) | (refine wk_cons ?_ ?_))) <;> first | rfl | exact wk_i (by first | rfl | omega | (simp; done) | (simp; omega)) | exact wk_sl rfl (by first | rfl | omega | (simp; done) | (simp; omega)) (by first | rfl | omega | (simp; done) | (simp; omega)) | exact ren_eq (by first | rfl | simp) (by first | rfl | omega | (simp; done) | (simp; omega)) | exact wk_u64 (by first | rfl | omega | (simp; done) | (simp; omega)) | exact wk_u8 (by first | rfl | omega | (simp; done) | (simp; omega)) | exact wk_u32 (by first | rfl | omega | (simp; done) | (simp; omega)) | exact wk_b (by first | rfl | omega | (simp; done) | (simp; omega)) | skip
  · refine brF (by simp; omega) ?_
    conv => whnf
    obtain ⟨fl, h19⟩ := f19e k c
    obtain ⟨fl2, h19b⟩ := f19e k2 c2
    have h20 := f20e k c
    rw [hPut_eq] at h19 h19b h20
    have hl := refPut_len k c
    have h17 := f17 (refPut k c ++ b) (by simp; omega)
    rw [hTake_eq, rTake_put] at h17
    have hpre := refPut_pre k c k2 c2
    obtain ⟨r, hr⟩ : ∃ r, r = refPut k c := ⟨_, rfl⟩
    rw [← hr] at h19 h20 hl h17 hpre
    obtain ⟨q, hq⟩ : ∃ q, q = refPut k2 c2 := ⟨_, rfl⟩
    rw [← hq] at h19b hpre
    clear hr hq
    repeat (first | (refine Exists.intro _ (And.intro bytesOf_all ?_); conv => whnf) | (refine Exists.intro _ (And.intro (bytesOf_cut rfl) ?_); conv => whnf) | (refine Exists.intro _ (And.intro rfl ?_); conv => whnf) | (refine brT rfl ?_; conv => whnf) | (refine brF rfl ?_; conv => whnf) | (refine gdT rfl ?_; conv => whnf) | (refine gdF rfl ?_; conv => whnf) | (refine pkT rfl ?_; conv => whnf) | (refine pkF rfl ?_; conv => whnf) | (refine gdT (by first | (simp; done) | fail) ?_; conv => whnf) | (refine gdF (by first | (simp; done) | fail) ?_; conv => whnf) | (refine brT (by first | (simp; done) | fail) ?_; conv => whnf) | (refine brF (by first | (simp; done) | fail) ?_; conv => whnf) | (refine pkT (by first | (simp; done) | fail) ?_; conv => whnf) | (refine pkF (by first | (simp; done) | fail) ?_; conv => whnf) | (refine And.intro ⟨rfl, rfl⟩ ?_; conv => whnf) | (refine And.intro (by first | omega | (simp; done) | (simp; omega) | (simp [ti5]; omega)) ?_; conv => whnf) | (refine And.intro (Nat.le_of_ble_eq_true rfl) ?_; conv => whnf) | (refine And.intro ⟨rfl, Nat.le_of_ble_eq_true rfl⟩ ?_; conv => whnf) | (refine And.intro (by kernel_rfl) ?_; conv => whnf) | fail)
    refine ok1_callP [] (h19) rfl rfl ⟨⟨rfl, by first | rfl | (simp [renL, renV]; done) | (simp [renL, renV]; omega)⟩, trivial, by first | rfl | simp [plainH], ?_⟩
    conv => whnf
    repeat (first | (refine Exists.intro _ (And.intro bytesOf_all ?_); conv => whnf) | (refine Exists.intro _ (And.intro (bytesOf_cut rfl) ?_); conv => whnf) | (refine Exists.intro _ (And.intro rfl ?_); conv => whnf) | (refine brT rfl ?_; conv => whnf) | (refine brF rfl ?_; conv => whnf) | (refine gdT rfl ?_; conv => whnf) | (refine gdF rfl ?_; conv => whnf) | (refine pkT rfl ?_; conv => whnf) | (refine pkF rfl ?_; conv => whnf) | (refine gdT (by first | (simp; done) | fail) ?_; conv => whnf) | (refine gdF (by first | (simp; done) | fail) ?_; conv => whnf) | (refine brT (by first | (simp; done) | fail) ?_; conv => whnf) | (refine brF (by first | (simp; done) | fail) ?_; conv => whnf) | (refine pkT (by first | (simp; done) | fail) ?_; conv => whnf) | (refine pkF (by first | (simp; done) | fail) ?_; conv => whnf) | (refine And.intro ⟨rfl, rfl⟩ ?_; conv => whnf) | (refine And.intro (by first | omega | (simp; done) | (simp; omega) | (simp [ti5]; omega)) ?_; conv => whnf) | (refine And.intro (Nat.le_of_ble_eq_true rfl) ?_; conv => whnf) | (refine And.intro ⟨rfl, Nat.le_of_ble_eq_true rfl⟩ ?_; conv => whnf) | (refine And.intro (by kernel_rfl) ?_; conv => whnf) | fail)
    refine ok1_callP [] (h19b) rfl rfl ⟨⟨rfl, by first | rfl | (simp [renL, renV]; done) | (simp [renL, renV]; omega)⟩, trivial, by first | rfl | simp [plainH], ?_⟩
    conv => whnf
    repeat (first | (refine Exists.intro _ (And.intro bytesOf_all ?_); conv => whnf) | (refine Exists.intro _ (And.intro (bytesOf_cut rfl) ?_); conv => whnf) | (refine Exists.intro _ (And.intro rfl ?_); conv => whnf) | (refine brT rfl ?_; conv => whnf) | (refine brF rfl ?_; conv => whnf) | (refine gdT rfl ?_; conv => whnf) | (refine gdF rfl ?_; conv => whnf) | (refine pkT rfl ?_; conv => whnf) | (refine pkF rfl ?_; conv => whnf) | (refine gdT (by first | (simp; done) | fail) ?_; conv => whnf) | (refine gdF (by first | (simp; done) | fail) ?_; conv => whnf) | (refine brT (by first | (simp; done) | fail) ?_; conv => whnf) | (refine brF (by first | (simp; done) | fail) ?_; conv => whnf) | (refine pkT (by first | (simp; done) | fail) ?_; conv => whnf) | (refine pkF (by first | (simp; done) | fail) ?_; conv => whnf) | (refine And.intro ⟨rfl, rfl⟩ ?_; conv => whnf) | (refine And.intro (by first | omega | (simp; done) | (simp; omega) | (simp [ti5]; omega)) ?_; conv => whnf) | (refine And.intro (Nat.le_of_ble_eq_true rfl) ?_; conv => whnf) | (refine And.intro ⟨rfl, Nat.le_of_ble_eq_true rfl⟩ ?_; conv => whnf) | (refine And.intro (by kernel_rfl) ?_; conv => whnf) | fail)
    refine ok1_callP [7] (h17) rfl rfl ⟨⟨rfl, by first | rfl | (simp [renL, renV]; done) | (simp [renL, renV]; omega)⟩, by (repeat' (first | exact trivial | refine And.intro ?_ ?_)) <;> first | rfl | exact ren_eq (by simp) (by first | rfl | (simp; done)), by first | rfl | simp [plainH], ?_⟩
    conv => whnf
    repeat (first | (refine Exists.intro _ (And.intro bytesOf_all ?_); conv => whnf) | (refine Exists.intro _ (And.intro (bytesOf_cut rfl) ?_); conv => whnf) | (refine Exists.intro _ (And.intro rfl ?_); conv => whnf) | (refine brT rfl ?_; conv => whnf) | (refine brF rfl ?_; conv => whnf) | (refine gdT rfl ?_; conv => whnf) | (refine gdF rfl ?_; conv => whnf) | (refine pkT rfl ?_; conv => whnf) | (refine pkF rfl ?_; conv => whnf) | (refine gdT (by first | (simp; done) | fail) ?_; conv => whnf) | (refine gdF (by first | (simp; done) | fail) ?_; conv => whnf) | (refine brT (by first | (simp; done) | fail) ?_; conv => whnf) | (refine brF (by first | (simp; done) | fail) ?_; conv => whnf) | (refine pkT (by first | (simp; done) | fail) ?_; conv => whnf) | (refine pkF (by first | (simp; done) | fail) ?_; conv => whnf) | (refine And.intro ⟨rfl, rfl⟩ ?_; conv => whnf) | (refine And.intro (by first | omega | (simp; done) | (simp; omega) | (simp [ti5]; omega)) ?_; conv => whnf) | (refine And.intro (Nat.le_of_ble_eq_true rfl) ?_; conv => whnf) | (refine And.intro ⟨rfl, Nat.le_of_ble_eq_true rfl⟩ ?_; conv => whnf) | (refine And.intro (by kernel_rfl) ?_; conv => whnf) | fail)
    have g1 : (!eqcs [.u64 k, .u64 c] [.u64 k, .u64 c]) = false := by simp [eqcs, eqc]
    have g2 : decide ((r.length : Int) > 17) = false := by simp; omega
    have g3 : ((r.length : Int) != (r.length : Int)) = false := by simp
    repeat (first | (refine Exists.intro _ (And.intro bytesOf_all ?_); conv => whnf) | (refine Exists.intro _ (And.intro (bytesOf_cut rfl) ?_); conv => whnf) | (refine Exists.intro _ (And.intro rfl ?_); conv => whnf) | (refine brT rfl ?_; conv => whnf) | (refine brF rfl ?_; conv => whnf) | (refine gdT rfl ?_; conv => whnf) | (refine gdF rfl ?_; conv => whnf) | (refine pkT rfl ?_; conv => whnf) | (refine pkF rfl ?_; conv => whnf) | (refine gdT g1 ?_; conv => whnf) | (refine gdF g1 ?_; conv => whnf) | (refine brT g1 ?_; conv => whnf) | (refine brF g1 ?_; conv => whnf) | (refine pkT g1 ?_; conv => whnf) | (refine pkF g1 ?_; conv => whnf) | (refine gdT g2 ?_; conv => whnf) | (refine gdF g2 ?_; conv => whnf) | (refine brT g2 ?_; conv => whnf) | (refine brF g2 ?_; conv => whnf) | (refine pkT g2 ?_; conv => whnf) | (refine pkF g2 ?_; conv => whnf) | (refine gdT g3 ?_; conv => whnf) | (refine gdF g3 ?_; conv => whnf) | (refine brT g3 ?_; conv => whnf) | (refine brF g3 ?_; conv => whnf) | (refine pkT g3 ?_; conv => whnf) | (refine pkF g3 ?_; conv => whnf) | (refine gdT (by first | (simp; done) | fail) ?_; conv => whnf) | (refine gdF (by first | (simp; done) | fail) ?_; conv => whnf) | (refine brT (by first | (simp; done) | fail) ?_; conv => whnf) | (refine brF (by first | (simp; done) | fail) ?_; conv => whnf) | (refine pkT (by first | (simp; done) | fail) ?_; conv => whnf) | (refine pkF (by first | (simp; done) | fail) ?_; conv => whnf) | (refine And.intro ⟨rfl, rfl⟩ ?_; conv => whnf) | (refine And.intro (by first | omega | (simp; done) | (simp; omega) | (simp [ti5]; omega)) ?_; conv => whnf) | (refine And.intro (Nat.le_of_ble_eq_true rfl) ?_; conv => whnf) | (refine And.intro ⟨rfl, Nat.le_of_ble_eq_true rfl⟩ ?_; conv => whnf) | (refine And.intro (by kernel_rfl) ?_; conv => whnf) | fail)
    refine ok1_callP [] (h20) rfl rfl ⟨⟨rfl, by first | rfl | (simp [renL, renV]; done) | (simp [renL, renV]; omega)⟩, trivial, by first | rfl | simp [plainH], ?_⟩
    conv => whnf
    repeat (first | (refine Exists.intro _ (And.intro bytesOf_all ?_); conv => whnf) | (refine Exists.intro _ (And.intro (bytesOf_cut rfl) ?_); conv => whnf) | (refine Exists.intro _ (And.intro rfl ?_); conv => whnf) | (refine brT rfl ?_; conv => whnf) | (refine brF rfl ?_; conv => whnf) | (refine gdT rfl ?_; conv => whnf) | (refine gdF rfl ?_; conv => whnf) | (refine pkT rfl ?_; conv => whnf) | (refine pkF rfl ?_; conv => whnf) | (refine gdT g1 ?_; conv => whnf) | (refine gdF g1 ?_; conv => whnf) | (refine brT g1 ?_; conv => whnf) | (refine brF g1 ?_; conv => whnf) | (refine pkT g1 ?_; conv => whnf) | (refine pkF g1 ?_; conv => whnf) | (refine gdT g2 ?_; conv => whnf) | (refine gdF g2 ?_; conv => whnf) | (refine brT g2 ?_; conv => whnf) | (refine brF g2 ?_; conv => whnf) | (refine pkT g2 ?_; conv => whnf) | (refine pkF g2 ?_; conv => whnf) | (refine gdT g3 ?_; conv => whnf) | (refine gdF g3 ?_; conv => whnf) | (refine brT g3 ?_; conv => whnf) | (refine brF g3 ?_; conv => whnf) | (refine pkT g3 ?_; conv => whnf) | (refine pkF g3 ?_; conv => whnf) | (refine gdT (by first | (simp; done) | fail) ?_; conv => whnf) | (refine gdF (by first | (simp; done) | fail) ?_; conv => whnf) | (refine brT (by first | (simp; done) | fail) ?_; conv => whnf) | (refine brF (by first | (simp; done) | fail) ?_; conv => whnf) | (refine pkT (by first | (simp; done) | fail) ?_; conv => whnf) | (refine pkF (by first | (simp; done) | fail) ?_; conv => whnf) | (refine And.intro ⟨rfl, rfl⟩ ?_; conv => whnf) | (refine And.intro (by first | omega | (simp; done) | (simp; omega) | (simp [ti5]; omega)) ?_; conv => whnf) | (refine And.intro (Nat.le_of_ble_eq_true rfl) ?_; conv => whnf) | (refine And.intro ⟨rfl, Nat.le_of_ble_eq_true rfl⟩ ?_; conv => whnf) | (refine And.intro (by kernel_rfl) ?_; conv => whnf) | fail)
    by_cases he : k = k2 ∧ c = c2
    · have g4 : eqcs [.u64 k, .u64 c] [.u64 k2, .u64 c2] = true := by simp [eqcs, eqc, he.1, he.2]
      repeat (first | (refine Exists.intro _ (And.intro bytesOf_all ?_); conv => whnf) | (refine Exists.intro _ (And.intro (bytesOf_cut rfl) ?_); conv => whnf) | (refine Exists.intro _ (And.intro rfl ?_); conv => whnf) | (refine brT rfl ?_; conv => whnf) | (refine brF rfl ?_; conv => whnf) | (refine gdT rfl ?_; conv => whnf) | (refine gdF rfl ?_; conv => whnf) | (refine pkT rfl ?_; conv => whnf) | (refine pkF rfl ?_; conv => whnf) | (refine gdT g4 ?_; conv => whnf) | (refine gdF g4 ?_; conv => whnf) | (refine brT g4 ?_; conv => whnf) | (refine brF g4 ?_; conv => whnf) | (refine pkT g4 ?_; conv => whnf) | (refine pkF g4 ?_; conv => whnf) | (refine gdT (by first | (simp; done) | fail) ?_; conv => whnf) | (refine gdF (by first | (simp; done) | fail) ?_; conv => whnf) | (refine brT (by first | (simp; done) | fail) ?_; conv => whnf) | (refine brF (by first | (simp; done) | fail) ?_; conv => whnf) | (refine pkT (by first | (simp; done) | fail) ?_; conv => whnf) | (refine pkF (by first | (simp; done) | fail) ?_; conv => whnf) | (refine And.intro ⟨rfl, rfl⟩ ?_; conv => whnf) | (refine And.intro (by first | omega | (simp; done) | (simp; omega) | (simp [ti5]; omega)) ?_; conv => whnf) | (refine And.intro (Nat.le_of_ble_eq_true rfl) ?_; conv => whnf) | (refine And.intro ⟨rfl, Nat.le_of_ble_eq_true rfl⟩ ?_; conv => whnf) | (refine And.intro (by kernel_rfl) ?_; conv => whnf) | fail)
      refine ⟨[0], ?_, rfl, rfl, ?_, rfl⟩
      · (repeat' (first | exact trivial | refine And.intro ?_ ?_ | (refine wk_tup ?_) | (refine wk_agg ?_) | (refine wk_cons ?_ ?_))) <;> first | rfl | exact wk_i (by first | rfl | omega | (simp; done) | (simp; omega)) | exact wk_sl rfl (by first | rfl | omega | (simp; done) | (simp; omega)) (by first | rfl | omega | (simp; done) | (simp; omega)) | exact ren_eq (by first | rfl | simp) (by first | rfl | omega | (simp; done) | (simp; omega)) | exact wk_u64 (by first | rfl | omega | (simp; done) | (simp; omega)) | exact wk_u8 (by first | rfl | omega | (simp; done) | (simp; omega)) | exact wk_u32 (by first | rfl | omega | (simp; done) | (simp; omega)) | exact wk_b (by first | rfl | omega | (simp; done) | (simp; omega)) | skip
      · (repeat' (first | exact trivial | refine And.intro ?_ ?_ | (refine wk_tup ?_) | (refine wk_agg ?_) | (refine wk_cons ?_ ?_))) <;> first | rfl | exact wk_i (by first | rfl | omega | (simp; done) | (simp; omega)) | exact wk_sl rfl (by first | rfl | omega | (simp; done) | (simp; omega)) (by first | rfl | omega | (simp; done) | (simp; omega)) | exact ren_eq (by first | rfl | simp) (by first | rfl | omega | (simp; done) | (simp; omega)) | exact wk_u64 (by first | rfl | omega | (simp; done) | (simp; omega)) | exact wk_u8 (by first | rfl | omega | (simp; done) | (simp; omega)) | exact wk_u32 (by first | rfl | omega | (simp; done) | (simp; omega)) | exact wk_b (by first | rfl | omega | (simp; done) | (simp; omega)) | skip
    · have g4 : eqcs [.u64 k, .u64 c] [.u64 k2, .u64 c2] = false := by simp [eqcs, eqc]; exact fun h => fun h2 => he ⟨h, h2⟩
      by_cases hg : r.length > q.length
      · have g5 : decide ((r.length : Int) > (q.length : Int)) = true := by simp; omega
        repeat (first | (refine Exists.intro _ (And.intro bytesOf_all ?_); conv => whnf) | (refine Exists.intro _ (And.intro (bytesOf_cut rfl) ?_); conv => whnf) | (refine Exists.intro _ (And.intro rfl ?_); conv => whnf) | (refine brT rfl ?_; conv => whnf) | (refine brF rfl ?_; conv => whnf) | (refine gdT rfl ?_; conv => whnf) | (refine gdF rfl ?_; conv => whnf) | (refine pkT rfl ?_; conv => whnf) | (refine pkF rfl ?_; conv => whnf) | (refine gdT g4 ?_; conv => whnf) | (refine gdF g4 ?_; conv => whnf) | (refine brT g4 ?_; conv => whnf) | (refine brF g4 ?_; conv => whnf) | (refine pkT g4 ?_; conv => whnf) | (refine pkF g4 ?_; conv => whnf) | (refine gdT g5 ?_; conv => whnf) | (refine gdF g5 ?_; conv => whnf) | (refine brT g5 ?_; conv => whnf) | (refine brF g5 ?_; conv => whnf) | (refine pkT g5 ?_; conv => whnf) | (refine pkF g5 ?_; conv => whnf) | (refine gdT (by first | (simp; done) | fail) ?_; conv => whnf) | (refine gdF (by first | (simp; done) | fail) ?_; conv => whnf) | (refine brT (by first | (simp; done) | fail) ?_; conv => whnf) | (refine brF (by first | (simp; done) | fail) ?_; conv => whnf) | (refine pkT (by first | (simp; done) | fail) ?_; conv => whnf) | (refine pkF (by first | (simp; done) | fail) ?_; conv => whnf) | (refine And.intro ⟨rfl, rfl⟩ ?_; conv => whnf) | (refine And.intro (by first | omega | (simp; done) | (simp; omega) | (simp [ti5]; omega)) ?_; conv => whnf) | (refine And.intro (Nat.le_of_ble_eq_true rfl) ?_; conv => whnf) | (refine And.intro ⟨rfl, Nat.le_of_ble_eq_true rfl⟩ ?_; conv => whnf) | (refine And.intro (by kernel_rfl) ?_; conv => whnf) | fail)
        refine ⟨[0], ?_, rfl, rfl, ?_, rfl⟩
        · (repeat' (first | exact trivial | refine And.intro ?_ ?_ | (refine wk_tup ?_) | (refine wk_agg ?_) | (refine wk_cons ?_ ?_))) <;> first | rfl | exact wk_i (by first | rfl | omega | (simp; done) | (simp; omega)) | exact wk_sl rfl (by first | rfl | omega | (simp; done) | (simp; omega)) (by first | rfl | omega | (simp; done) | (simp; omega)) | exact ren_eq (by first | rfl | simp) (by first | rfl | omega | (simp; done) | (simp; omega)) | exact wk_u64 (by first | rfl | omega | (simp; done) | (simp; omega)) | exact wk_u8 (by first | rfl | omega | (simp; done) | (simp; omega)) | exact wk_u32 (by first | rfl | omega | (simp; done) | (simp; omega)) | exact wk_b (by first | rfl | omega | (simp; done) | (simp; omega)) | skip
        · (repeat' (first | exact trivial | refine And.intro ?_ ?_ | (refine wk_tup ?_) | (refine wk_agg ?_) | (refine wk_cons ?_ ?_))) <;> first | rfl | exact wk_i (by first | rfl | omega | (simp; done) | (simp; omega)) | exact wk_sl rfl (by first | rfl | omega | (simp; done) | (simp; omega)) (by first | rfl | omega | (simp; done) | (simp; omega)) | exact ren_eq (by first | rfl | simp) (by first | rfl | omega | (simp; done) | (simp; omega)) | exact wk_u64 (by first | rfl | omega | (simp; done) | (simp; omega)) | exact wk_u8 (by first | rfl | omega | (simp; done) | (simp; omega)) | exact wk_u32 (by first | rfl | omega | (simp; done) | (simp; omega)) | exact wk_b (by first | rfl | omega | (simp; done) | (simp; omega)) | skip
      · have g5 : decide ((r.length : Int) > (q.length : Int)) = false := by simp; omega
        repeat (first | (refine Exists.intro _ (And.intro bytesOf_all ?_); conv => whnf) | (refine Exists.intro _ (And.intro (bytesOf_cut rfl) ?_); conv => whnf) | (refine Exists.intro _ (And.intro rfl ?_); conv => whnf) | (refine brT rfl ?_; conv => whnf) | (refine brF rfl ?_; conv => whnf) | (refine gdT rfl ?_; conv => whnf) | (refine gdF rfl ?_; conv => whnf) | (refine pkT rfl ?_; conv => whnf) | (refine pkF rfl ?_; conv => whnf) | (refine Exists.intro _ (And.intro (sload_u8 (i := r.length) (by first | rfl | omega) (by first | omega | (simp; done) | (simp; omega))) ?_); conv => whnf) | (refine Exists.intro _ (And.intro (idx_i (m := r.length) (by first | rfl | omega)) ?_); conv => whnf) | (refine Exists.intro _ (And.intro (evb_i (m := r.length) rfl (by first | rfl | omega)) ?_); conv => whnf) | (refine gdT g4 ?_; conv => whnf) | (refine gdF g4 ?_; conv => whnf) | (refine brT g4 ?_; conv => whnf) | (refine brF g4 ?_; conv => whnf) | (refine pkT g4 ?_; conv => whnf) | (refine pkF g4 ?_; conv => whnf) | (refine gdT g5 ?_; conv => whnf) | (refine gdF g5 ?_; conv => whnf) | (refine brT g5 ?_; conv => whnf) | (refine brF g5 ?_; conv => whnf) | (refine pkT g5 ?_; conv => whnf) | (refine pkF g5 ?_; conv => whnf) | (refine gdT (by first | (simp; done) | fail) ?_; conv => whnf) | (refine gdF (by first | (simp; done) | fail) ?_; conv => whnf) | (refine brT (by first | (simp; done) | fail) ?_; conv => whnf) | (refine brF (by first | (simp; done) | fail) ?_; conv => whnf) | (refine pkT (by first | (simp; done) | fail) ?_; conv => whnf) | (refine pkF (by first | (simp; done) | fail) ?_; conv => whnf) | (refine And.intro ⟨rfl, rfl⟩ ?_; conv => whnf) | (refine And.intro (by first | omega | (simp; done) | (simp; omega) | (simp [ti5]; omega)) ?_; conv => whnf) | (refine And.intro (Nat.le_of_ble_eq_true rfl) ?_; conv => whnf) | (refine And.intro ⟨rfl, Nat.le_of_ble_eq_true rfl⟩ ?_; conv => whnf) | (refine And.intro (by kernel_rfl) ?_; conv => whnf) | fail)
        have hz : true = !(List.take (r.length - 0) (List.drop (0 + 0 * 1) q) == r) := by
          simp
          exact fun h => he (hpre h)
        refine ⟨[0], ?_, rfl, rfl, ?_, rfl⟩
        · (repeat' (first | exact trivial | refine And.intro ?_ ?_ | (refine wk_tup ?_) | (refine wk_agg ?_) | (refine wk_cons ?_ ?_))) <;> first | rfl | exact wk_i (by first | rfl | exact hz | exact hz.symm | omega | (simp [hz]; done) | (simp [hz]; omega)) | exact wk_sl rfl (by first | rfl | exact hz | exact hz.symm | omega | (simp [hz]; done) | (simp [hz]; omega)) (by first | rfl | exact hz | exact hz.symm | omega | (simp [hz]; done) | (simp [hz]; omega)) | exact ren_eq (by first | rfl | simp) (by first | rfl | exact hz | exact hz.symm | omega | (simp [hz]; done) | (simp [hz]; omega)) | exact wk_u64 (by first | rfl | exact hz | exact hz.symm | omega | (simp [hz]; done) | (simp [hz]; omega)) | exact wk_u8 (by first | rfl | exact hz | exact hz.symm | omega | (simp [hz]; done) | (simp [hz]; omega)) | exact wk_u32 (by first | rfl | exact hz | exact hz.symm | omega | (simp [hz]; done) | (simp [hz]; omega)) | exact wk_b (by first | rfl | exact hz | exact hz.symm | omega | (simp [hz]; done) | (simp [hz]; omega)) | skip
        · (repeat' (first | exact trivial | refine And.intro ?_ ?_ | (refine wk_tup ?_) | (refine wk_agg ?_) | (refine wk_cons ?_ ?_))) <;> first | rfl | exact wk_i (by first | rfl | exact hz | exact hz.symm | omega | (simp [hz]; done) | (simp [hz]; omega)) | exact wk_sl rfl (by first | rfl | exact hz | exact hz.symm | omega | (simp [hz]; done) | (simp [hz]; omega)) (by first | rfl | exact hz | exact hz.symm | omega | (simp [hz]; done) | (simp [hz]; omega)) | exact ren_eq (by first | rfl | simp) (by first | rfl | exact hz | exact hz.symm | omega | (simp [hz]; done) | (simp [hz]; omega)) | exact wk_u64 (by first | rfl | exact hz | exact hz.symm | omega | (simp [hz]; done) | (simp [hz]; omega)) | exact wk_u8 (by first | rfl | exact hz | exact hz.symm | omega | (simp [hz]; done) | (simp [hz]; omega)) | exact wk_u32 (by first | rfl | exact hz | exact hz.symm | omega | (simp [hz]; done) | (simp [hz]; omega)) | exact wk_b (by first | rfl | exact hz | exact hz.symm | omega | (simp [hz]; done) | (simp [hz]; omega)) | skip
end Go.Sh
