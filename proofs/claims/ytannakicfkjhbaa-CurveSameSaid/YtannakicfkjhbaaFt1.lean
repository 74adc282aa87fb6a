/- Merged for a claim: K16, K17, K18, K19, K20, K21, Sh28, K22, K23, K24. -/
import Derived.Test.YtannakicfkjhbaaFl4
/- field's reference: prime (f89), least (f126). -/
namespace Go.Sh
open Go.Proofs
set_option maxHeartbeats 8000000
set_option linter.unusedSimpArgs false
set_option linter.unusedVariables false

theorem pp_eq : [65517, 65535, 65535, 65535, 65535, 65535, 65535, 65535, 65535, 65535, 65535, 65535, 65535, 65535, 65535, 32767] = pp := by decide +kernel
theorem pp_len : pp.length = 16 := dg_len _
theorem f89 : SCall Try.prog 89 [] [] (.sl 0 0 16 1 true) [some (.row 25 (pp.map .u64))] := by
  refine scall_of ttOk (by kernel_rfl : Try.prog.funcs[89]? = some Try.f89) rfl rfl rfl ?_
  try simp only [List.length_cons, List.length_nil, Nat.zero_add, Nat.reduceAdd]
  refine sw_ok ttOk mixed (by kernel_rfl) ?_
  conv => whnf
  repeat (first | (refine Exists.intro _ (And.intro bytesOf_all ?_); conv => whnf) | (refine Exists.intro _ (And.intro (bytesOf_cut rfl) ?_); conv => whnf) | (refine brT rfl ?_; conv => whnf) | (refine brF rfl ?_; conv => whnf) | (refine gdT rfl ?_; conv => whnf) | (refine gdF rfl ?_; conv => whnf) | (refine Exists.intro _ (And.intro (sload_all rfl (by first | rfl | (simp; done) | (simp; omega))) ?_); conv => whnf) | (refine Exists.intro _ (And.intro (sput_all rfl (by first | rfl | (simp; done) | (simp; omega))) ?_); conv => whnf) | (refine Exists.intro _ (And.intro rfl ?_); conv => whnf) | (refine pkT rfl ?_; conv => whnf) | (refine pkF rfl ?_; conv => whnf) | (refine gdT (by first | (simp; done) | fail) ?_; conv => whnf) | (refine gdF (by first | (simp; done) | fail) ?_; conv => whnf) | (refine brT (by first | (simp; done) | fail) ?_; conv => whnf) | (refine brF (by first | (simp; done) | fail) ?_; conv => whnf) | (refine pkT (by first | (simp; done) | fail) ?_; conv => whnf) | (refine pkF (by first | (simp; done) | fail) ?_; conv => whnf) | (refine And.intro ⟨rfl, rfl⟩ ?_; conv => whnf) | (refine And.intro (by first | omega | (simp; done) | (simp; omega) | (simp [ti5]; omega)) ?_; conv => whnf) | (refine And.intro (Nat.le_of_ble_eq_true rfl) ?_; conv => whnf) | (refine And.intro ⟨rfl, Nat.le_of_ble_eq_true rfl⟩ ?_; conv => whnf) | (refine And.intro ⟨Nat.le_of_ble_eq_true rfl, Nat.le_of_ble_eq_true rfl⟩ ?_; conv => whnf) | (refine And.intro ⟨Nat.le_of_ble_eq_true rfl, Nat.le_of_ble_eq_true rfl, Nat.le_of_ble_eq_true rfl⟩ ?_; conv => whnf) | (refine And.intro ⟨Nat.le_of_ble_eq_true rfl, Nat.le_of_ble_eq_true rfl, Nat.le_of_ble_eq_true rfl, Nat.le_of_ble_eq_true rfl⟩ ?_; conv => whnf) | (refine And.intro (by kernel_rfl) ?_; conv => whnf) | (refine And.intro ⟨by first | exact @rfl Nat _ | omega | (simp; done) | (simp; omega) | exact Nat.le_of_ble_eq_true rfl | (show _ * 4 ≤ _; omega) | decide | (simp [ti5]; done) | (simp [ti5]; omega) | (simp only [ti5, List.length_map]; omega) | fail, by first | exact @rfl Nat _ | omega | (simp; done) | (simp; omega) | exact Nat.le_of_ble_eq_true rfl | (show _ * 4 ≤ _; omega) | decide | (simp [ti5]; done) | (simp [ti5]; omega) | (simp only [ti5, List.length_map]; omega) | fail⟩ ?_; conv => whnf) | (refine And.intro ⟨by first | exact @rfl Nat _ | omega | (simp; done) | (simp; omega) | exact Nat.le_of_ble_eq_true rfl | (show _ * 4 ≤ _; omega) | decide | (simp [ti5]; done) | (simp [ti5]; omega) | (simp only [ti5, List.length_map]; omega) | fail, by first | exact @rfl Nat _ | omega | (simp; done) | (simp; omega) | exact Nat.le_of_ble_eq_true rfl | (show _ * 4 ≤ _; omega) | decide | (simp [ti5]; done) | (simp [ti5]; omega) | (simp only [ti5, List.length_map]; omega) | fail, by first | exact @rfl Nat _ | omega | (simp; done) | (simp; omega) | exact Nat.le_of_ble_eq_true rfl | (show _ * 4 ≤ _; omega) | decide | (simp [ti5]; done) | (simp [ti5]; omega) | (simp only [ti5, List.length_map]; omega) | fail⟩ ?_; conv => whnf) | (refine And.intro ⟨by first | exact @rfl Nat _ | omega | (simp; done) | (simp; omega) | exact Nat.le_of_ble_eq_true rfl | (show _ * 4 ≤ _; omega) | decide | (simp [ti5]; done) | (simp [ti5]; omega) | (simp only [ti5, List.length_map]; omega) | fail, by first | exact @rfl Nat _ | omega | (simp; done) | (simp; omega) | exact Nat.le_of_ble_eq_true rfl | (show _ * 4 ≤ _; omega) | decide | (simp [ti5]; done) | (simp [ti5]; omega) | (simp only [ti5, List.length_map]; omega) | fail, by first | exact @rfl Nat _ | omega | (simp; done) | (simp; omega) | exact Nat.le_of_ble_eq_true rfl | (show _ * 4 ≤ _; omega) | decide | (simp [ti5]; done) | (simp [ti5]; omega) | (simp only [ti5, List.length_map]; omega) | fail, by first | exact @rfl Nat _ | omega | (simp; done) | (simp; omega) | exact Nat.le_of_ble_eq_true rfl | (show _ * 4 ≤ _; omega) | decide | (simp [ti5]; done) | (simp [ti5]; omega) | (simp only [ti5, List.length_map]; omega) | fail⟩ ?_; conv => whnf) | fail)
  refine loop_rule ttOk mixed (by kernel_rfl) (ι := { i : Nat // i ≤ 16 }) (fun i => [(1, .sl 0 0 16 1 true), (2, .i (i.1 : Int))]) (fun i => [some (.row 25 ((fil 16 i.1 (fun _ => (65535 : UInt64)) (fun _ => 0)).map .u64))]) (fun _ => 1) (fun i => 16 - i.1) ⟨0, by omega⟩ ?_ ?_
  · have hz : fil 16 0 (fun _ => (65535 : UInt64)) (fun _ => 0) = List.replicate 16 0 := fil_zero ..
    dsimp only
    rw [hz]
    refine Weak.sel [0] rfl rfl ?_ ?_ rfl rfl
    · (repeat' (first | exact trivial | exact ren_z8 | exact ren_zi | exact ren_z32 | exact ren_z64 | refine And.intro ?_ ?_ | (refine wk_tup ?_) | (refine wk_agg ?_) | (refine wk_cons ?_ ?_))) <;> first | exact ren_z8 | exact ren_zi | exact ren_z32 | exact ren_z64 | rfl | exact wk_i (by first | rfl | omega | (simp; done) | (simp; omega) | fail) | exact wk_sl rfl (by first | rfl | omega | (simp; done) | (simp; omega) | fail) (by first | rfl | omega | (simp; done) | (simp; omega) | fail) | exact ren_eq (by first | rfl | (simp; done) | fail) (by first | rfl | omega | (simp; done) | (simp; omega) | fail) | exact ren_app2 (by first | rfl | (simp; done) | fail) (by first | rfl | (simp; done) | fail) rfl | exact wk_u64 (by first | rfl | omega | (simp; done) | (simp; omega) | fail) | exact wk_u8 (by first | rfl | omega | (simp; done) | (simp; omega) | fail) | exact wk_u32 (by first | rfl | omega | (simp; done) | (simp; omega) | fail) | exact wk_b (by first | rfl | omega | (simp; done) | (simp; omega) | fail) | exact ren_m8 (by first | rfl | omega | (simp; done) | (simp; omega) | fail) | exact ren_m32 (by first | rfl | omega | (simp; done) | (simp; omega) | fail) | exact ren_m64 (by first | rfl | omega | (simp; done) | (simp; omega) | fail) | exact ren_mi (by first | rfl | omega | (simp; done) | (simp; omega) | fail) | skip
    · (repeat' (first | exact trivial | exact ren_z8 | exact ren_zi | exact ren_z32 | exact ren_z64 | refine And.intro ?_ ?_ | (refine wk_tup ?_) | (refine wk_agg ?_) | (refine wk_cons ?_ ?_))) <;> first | exact ren_z8 | exact ren_zi | exact ren_z32 | exact ren_z64 | rfl | exact wk_i (by first | rfl | omega | (simp; done) | (simp; omega) | fail) | exact wk_sl rfl (by first | rfl | omega | (simp; done) | (simp; omega) | fail) (by first | rfl | omega | (simp; done) | (simp; omega) | fail) | exact ren_eq (by first | rfl | (simp; done) | fail) (by first | rfl | omega | (simp; done) | (simp; omega) | fail) | exact ren_app2 (by first | rfl | (simp; done) | fail) (by first | rfl | (simp; done) | fail) rfl | exact wk_u64 (by first | rfl | omega | (simp; done) | (simp; omega) | fail) | exact wk_u8 (by first | rfl | omega | (simp; done) | (simp; omega) | fail) | exact wk_u32 (by first | rfl | omega | (simp; done) | (simp; omega) | fail) | exact wk_b (by first | rfl | omega | (simp; done) | (simp; omega) | fail) | exact ren_m8 (by first | rfl | omega | (simp; done) | (simp; omega) | fail) | exact ren_m32 (by first | rfl | omega | (simp; done) | (simp; omega) | fail) | exact ren_m64 (by first | rfl | omega | (simp; done) | (simp; omega) | fail) | exact ren_mi (by first | rfl | omega | (simp; done) | (simp; omega) | fail) | skip
  · rintro ⟨i, hi⟩
    have hfl := fil_len 16 i (fun _ => (65535 : UInt64)) (fun _ => 0)
    dsimp only
    by_cases hi2 : i < 16
    · have hlt : decide ((i : Int) < 16) = true := by simp; omega
      have hp1 : w64 ((i : Int) + 1) = ((i + 1 : Nat) : Int) := by simp only [w64_eq]; omega
      have hst := fil_setx (g := fun _ => (0 : UInt64)) (f := fun _ => (65535 : UInt64)) hi2 rfl
      conv => whnf
      first | refine brT (by exact hlt) ?_ | intro _
      conv => whnf
      repeat (first | (refine Exists.intro _ (And.intro bytesOf_all ?_); conv => whnf) | (refine Exists.intro _ (And.intro (bytesOf_cut rfl) ?_); conv => whnf) | (refine brT rfl ?_; conv => whnf) | (refine brF rfl ?_; conv => whnf) | (refine gdT rfl ?_; conv => whnf) | (refine gdF rfl ?_; conv => whnf) | (refine Exists.intro _ (And.intro (sload_all rfl (by first | rfl | (simp [hfl]; done) | (simp [hfl]; omega))) ?_); conv => whnf) | (refine Exists.intro _ (And.intro (sput_all rfl (by first | rfl | (simp [hfl]; done) | (simp [hfl]; omega))) ?_); conv => whnf) | (refine Exists.intro _ (And.intro (sload_end (by first | rfl | (simp [hfl]; done) | (simp [hfl]; omega))) ?_); conv => whnf) | (refine Exists.intro _ (And.intro (sput_end (by first | rfl | (simp [hfl]; done) | (simp [hfl]; omega)) rfl) ?_); conv => whnf) | (refine Exists.intro _ (And.intro (sput_m64 (i := i) (by first | rfl | omega | (simp; done) | (simp; omega))) ?_); conv => whnf) | (refine Exists.intro _ (And.intro (sload_u64 (i := i) (by first | rfl | omega | (simp; done) | (simp; omega)) (by first | omega | (simp [hfl]; done) | (simp [hfl]; omega))) ?_); conv => whnf) | (refine Exists.intro _ (And.intro (idx_i (m := i) (by first | rfl | omega | (simp; done) | (simp; omega))) ?_); conv => whnf) | (refine Exists.intro _ (And.intro (evb_i (m := i) rfl (by first | rfl | omega | (simp; done) | (simp; omega))) ?_); conv => whnf) | (refine Exists.intro _ (And.intro rfl ?_); conv => whnf) | (refine pkT rfl ?_; conv => whnf) | (refine pkF rfl ?_; conv => whnf) | (refine gdT (by first | (simp; done) | fail) ?_; conv => whnf) | (refine gdF (by first | (simp; done) | fail) ?_; conv => whnf) | (refine brT (by first | (simp; done) | fail) ?_; conv => whnf) | (refine brF (by first | (simp; done) | fail) ?_; conv => whnf) | (refine pkT (by first | (simp; done) | fail) ?_; conv => whnf) | (refine pkF (by first | (simp; done) | fail) ?_; conv => whnf) | (refine And.intro ⟨rfl, rfl⟩ ?_; conv => whnf) | (refine And.intro (by first | omega | (simp; done) | (simp; omega) | (simp [ti5]; omega)) ?_; conv => whnf) | (refine And.intro (Nat.le_of_ble_eq_true rfl) ?_; conv => whnf) | (refine And.intro ⟨rfl, Nat.le_of_ble_eq_true rfl⟩ ?_; conv => whnf) | (refine And.intro ⟨Nat.le_of_ble_eq_true rfl, Nat.le_of_ble_eq_true rfl⟩ ?_; conv => whnf) | (refine And.intro ⟨Nat.le_of_ble_eq_true rfl, Nat.le_of_ble_eq_true rfl, Nat.le_of_ble_eq_true rfl⟩ ?_; conv => whnf) | (refine And.intro ⟨Nat.le_of_ble_eq_true rfl, Nat.le_of_ble_eq_true rfl, Nat.le_of_ble_eq_true rfl, Nat.le_of_ble_eq_true rfl⟩ ?_; conv => whnf) | (refine And.intro (by kernel_rfl) ?_; conv => whnf) | (refine And.intro ⟨by first | exact @rfl Nat _ | omega | (simp [hfl]; done) | (simp [hfl]; omega) | exact Nat.le_of_ble_eq_true rfl | (show _ * 4 ≤ _; omega) | decide | (simp [hfl, ti5]; done) | (simp [hfl, ti5]; omega) | (simp only [hfl, ti5, List.length_map]; omega) | fail, by first | exact @rfl Nat _ | omega | (simp [hfl]; done) | (simp [hfl]; omega) | exact Nat.le_of_ble_eq_true rfl | (show _ * 4 ≤ _; omega) | decide | (simp [hfl, ti5]; done) | (simp [hfl, ti5]; omega) | (simp only [hfl, ti5, List.length_map]; omega) | fail⟩ ?_; conv => whnf) | (refine And.intro ⟨by first | exact @rfl Nat _ | omega | (simp [hfl]; done) | (simp [hfl]; omega) | exact Nat.le_of_ble_eq_true rfl | (show _ * 4 ≤ _; omega) | decide | (simp [hfl, ti5]; done) | (simp [hfl, ti5]; omega) | (simp only [hfl, ti5, List.length_map]; omega) | fail, by first | exact @rfl Nat _ | omega | (simp [hfl]; done) | (simp [hfl]; omega) | exact Nat.le_of_ble_eq_true rfl | (show _ * 4 ≤ _; omega) | decide | (simp [hfl, ti5]; done) | (simp [hfl, ti5]; omega) | (simp only [hfl, ti5, List.length_map]; omega) | fail, by first | exact @rfl Nat _ | omega | (simp [hfl]; done) | (simp [hfl]; omega) | exact Nat.le_of_ble_eq_true rfl | (show _ * 4 ≤ _; omega) | decide | (simp [hfl, ti5]; done) | (simp [hfl, ti5]; omega) | (simp only [hfl, ti5, List.length_map]; omega) | fail⟩ ?_; conv => whnf) | (refine And.intro ⟨by first | exact @rfl Nat _ | omega | (simp [hfl]; done) | (simp [hfl]; omega) | exact Nat.le_of_ble_eq_true rfl | (show _ * 4 ≤ _; omega) | decide | (simp [hfl, ti5]; done) | (simp [hfl, ti5]; omega) | (simp only [hfl, ti5, List.length_map]; omega) | fail, by first | exact @rfl Nat _ | omega | (simp [hfl]; done) | (simp [hfl]; omega) | exact Nat.le_of_ble_eq_true rfl | (show _ * 4 ≤ _; omega) | decide | (simp [hfl, ti5]; done) | (simp [hfl, ti5]; omega) | (simp only [hfl, ti5, List.length_map]; omega) | fail, by first | exact @rfl Nat _ | omega | (simp [hfl]; done) | (simp [hfl]; omega) | exact Nat.le_of_ble_eq_true rfl | (show _ * 4 ≤ _; omega) | decide | (simp [hfl, ti5]; done) | (simp [hfl, ti5]; omega) | (simp only [hfl, ti5, List.length_map]; omega) | fail, by first | exact @rfl Nat _ | omega | (simp [hfl]; done) | (simp [hfl]; omega) | exact Nat.le_of_ble_eq_true rfl | (show _ * 4 ≤ _; omega) | decide | (simp [hfl, ti5]; done) | (simp [hfl, ti5]; omega) | (simp only [hfl, ti5, List.length_map]; omega) | fail⟩ ?_; conv => whnf) | (refine And.intro (by first | (simp [hfl]; done) | (simp [hfl]; omega) | fail) ?_; conv => whnf) | fail)
      refine ⟨⟨i + 1, by omega⟩, by simp only; omega, ?_⟩
      refine Weak.sel [0] rfl rfl ?_ ?_ rfl rfl
      · (repeat' (first | exact trivial | exact ren_z8 | exact ren_zi | exact ren_z32 | exact ren_z64 | refine And.intro ?_ ?_ | (refine wk_tup ?_) | (refine wk_agg ?_) | (refine wk_cons ?_ ?_))) <;> first | exact ren_m8 (by first | exact hp1 | exact hp1.symm | exact hst | exact hst.symm | fail) | exact wk_i (by first | exact hp1 | exact hp1.symm | exact hst | exact hst.symm | fail) | exact wk_u64 (by first | exact hp1 | exact hp1.symm | exact hst | exact hst.symm | fail) | exact ren_z8 | exact ren_zi | exact ren_z32 | exact ren_z64 | rfl | exact wk_i (by first | rfl | exact hp1 | exact hp1.symm | exact hst | exact hst.symm | omega | (simp [hp1, hst]; done) | (simp [hp1, hst]; omega) | fail) | exact wk_sl rfl (by first | rfl | exact hp1 | exact hp1.symm | exact hst | exact hst.symm | omega | (simp [hp1, hst]; done) | (simp [hp1, hst]; omega) | fail) (by first | rfl | exact hp1 | exact hp1.symm | exact hst | exact hst.symm | omega | (simp [hp1, hst]; done) | (simp [hp1, hst]; omega) | fail) | exact ren_eq (by first | rfl | (simp; done) | fail) (by first | rfl | exact hp1 | exact hp1.symm | exact hst | exact hst.symm | omega | (simp [hp1, hst]; done) | (simp [hp1, hst]; omega) | fail) | exact ren_app2 (by first | rfl | (simp; done) | fail) (by first | rfl | (simp; done) | fail) rfl | exact wk_u64 (by first | rfl | exact hp1 | exact hp1.symm | exact hst | exact hst.symm | omega | (simp [hp1, hst]; done) | (simp [hp1, hst]; omega) | fail) | exact wk_u8 (by first | rfl | exact hp1 | exact hp1.symm | exact hst | exact hst.symm | omega | (simp [hp1, hst]; done) | (simp [hp1, hst]; omega) | fail) | exact wk_u32 (by first | rfl | exact hp1 | exact hp1.symm | exact hst | exact hst.symm | omega | (simp [hp1, hst]; done) | (simp [hp1, hst]; omega) | fail) | exact wk_b (by first | rfl | exact hp1 | exact hp1.symm | exact hst | exact hst.symm | omega | (simp [hp1, hst]; done) | (simp [hp1, hst]; omega) | fail) | exact ren_m8 (by first | rfl | exact hp1 | exact hp1.symm | exact hst | exact hst.symm | omega | (simp [hp1, hst]; done) | (simp [hp1, hst]; omega) | fail) | exact ren_m32 (by first | rfl | exact hp1 | exact hp1.symm | exact hst | exact hst.symm | omega | (simp [hp1, hst]; done) | (simp [hp1, hst]; omega) | fail) | exact ren_m64 (by first | rfl | exact hp1 | exact hp1.symm | exact hst | exact hst.symm | omega | (simp [hp1, hst]; done) | (simp [hp1, hst]; omega) | fail) | exact ren_mi (by first | rfl | exact hp1 | exact hp1.symm | exact hst | exact hst.symm | omega | (simp [hp1, hst]; done) | (simp [hp1, hst]; omega) | fail) | skip
      · (repeat' (first | exact trivial | exact ren_z8 | exact ren_zi | exact ren_z32 | exact ren_z64 | refine And.intro ?_ ?_ | (refine wk_tup ?_) | (refine wk_agg ?_) | (refine wk_cons ?_ ?_))) <;> first | exact ren_m8 (by first | exact hp1 | exact hp1.symm | exact hst | exact hst.symm | fail) | exact wk_i (by first | exact hp1 | exact hp1.symm | exact hst | exact hst.symm | fail) | exact wk_u64 (by first | exact hp1 | exact hp1.symm | exact hst | exact hst.symm | fail) | exact ren_z8 | exact ren_zi | exact ren_z32 | exact ren_z64 | rfl | exact wk_i (by first | rfl | exact hp1 | exact hp1.symm | exact hst | exact hst.symm | omega | (simp [hp1, hst]; done) | (simp [hp1, hst]; omega) | fail) | exact wk_sl rfl (by first | rfl | exact hp1 | exact hp1.symm | exact hst | exact hst.symm | omega | (simp [hp1, hst]; done) | (simp [hp1, hst]; omega) | fail) (by first | rfl | exact hp1 | exact hp1.symm | exact hst | exact hst.symm | omega | (simp [hp1, hst]; done) | (simp [hp1, hst]; omega) | fail) | exact ren_eq (by first | rfl | (simp; done) | fail) (by first | rfl | exact hp1 | exact hp1.symm | exact hst | exact hst.symm | omega | (simp [hp1, hst]; done) | (simp [hp1, hst]; omega) | fail) | exact ren_app2 (by first | rfl | (simp; done) | fail) (by first | rfl | (simp; done) | fail) rfl | exact wk_u64 (by first | rfl | exact hp1 | exact hp1.symm | exact hst | exact hst.symm | omega | (simp [hp1, hst]; done) | (simp [hp1, hst]; omega) | fail) | exact wk_u8 (by first | rfl | exact hp1 | exact hp1.symm | exact hst | exact hst.symm | omega | (simp [hp1, hst]; done) | (simp [hp1, hst]; omega) | fail) | exact wk_u32 (by first | rfl | exact hp1 | exact hp1.symm | exact hst | exact hst.symm | omega | (simp [hp1, hst]; done) | (simp [hp1, hst]; omega) | fail) | exact wk_b (by first | rfl | exact hp1 | exact hp1.symm | exact hst | exact hst.symm | omega | (simp [hp1, hst]; done) | (simp [hp1, hst]; omega) | fail) | exact ren_m8 (by first | rfl | exact hp1 | exact hp1.symm | exact hst | exact hst.symm | omega | (simp [hp1, hst]; done) | (simp [hp1, hst]; omega) | fail) | exact ren_m32 (by first | rfl | exact hp1 | exact hp1.symm | exact hst | exact hst.symm | omega | (simp [hp1, hst]; done) | (simp [hp1, hst]; omega) | fail) | exact ren_m64 (by first | rfl | exact hp1 | exact hp1.symm | exact hst | exact hst.symm | omega | (simp [hp1, hst]; done) | (simp [hp1, hst]; omega) | fail) | exact ren_mi (by first | rfl | exact hp1 | exact hp1.symm | exact hst | exact hst.symm | omega | (simp [hp1, hst]; done) | (simp [hp1, hst]; omega) | fail) | skip
    · obtain rfl : i = 16 := by omega
      have hfu : (fil 16 16 (fun _ => (65535 : UInt64)) (fun _ => 0)).map SV.u64 = List.replicate 16 (.u64 65535) := rfl
      rw [hfu, ← pp_eq]
      conv => whnf
      first | refine brF (by rfl) ?_ | intro _
      conv => whnf
      repeat (first | (refine Exists.intro _ (And.intro bytesOf_all ?_); conv => whnf) | (refine Exists.intro _ (And.intro (bytesOf_cut rfl) ?_); conv => whnf) | (refine brT rfl ?_; conv => whnf) | (refine brF rfl ?_; conv => whnf) | (refine gdT rfl ?_; conv => whnf) | (refine gdF rfl ?_; conv => whnf) | (refine Exists.intro _ (And.intro (sload_all rfl (by first | rfl | (simp; done) | (simp; omega))) ?_); conv => whnf) | (refine Exists.intro _ (And.intro (sput_all rfl (by first | rfl | (simp; done) | (simp; omega))) ?_); conv => whnf) | (refine Exists.intro _ (And.intro rfl ?_); conv => whnf) | (refine pkT rfl ?_; conv => whnf) | (refine pkF rfl ?_; conv => whnf) | (refine gdT (by first | (simp; done) | fail) ?_; conv => whnf) | (refine gdF (by first | (simp; done) | fail) ?_; conv => whnf) | (refine brT (by first | (simp; done) | fail) ?_; conv => whnf) | (refine brF (by first | (simp; done) | fail) ?_; conv => whnf) | (refine pkT (by first | (simp; done) | fail) ?_; conv => whnf) | (refine pkF (by first | (simp; done) | fail) ?_; conv => whnf) | (refine And.intro ⟨rfl, rfl⟩ ?_; conv => whnf) | (refine And.intro (by first | omega | (simp; done) | (simp; omega) | (simp [ti5]; omega)) ?_; conv => whnf) | (refine And.intro (Nat.le_of_ble_eq_true rfl) ?_; conv => whnf) | (refine And.intro ⟨rfl, Nat.le_of_ble_eq_true rfl⟩ ?_; conv => whnf) | (refine And.intro ⟨Nat.le_of_ble_eq_true rfl, Nat.le_of_ble_eq_true rfl⟩ ?_; conv => whnf) | (refine And.intro ⟨Nat.le_of_ble_eq_true rfl, Nat.le_of_ble_eq_true rfl, Nat.le_of_ble_eq_true rfl⟩ ?_; conv => whnf) | (refine And.intro ⟨Nat.le_of_ble_eq_true rfl, Nat.le_of_ble_eq_true rfl, Nat.le_of_ble_eq_true rfl, Nat.le_of_ble_eq_true rfl⟩ ?_; conv => whnf) | (refine And.intro (by kernel_rfl) ?_; conv => whnf) | (refine And.intro ⟨by first | exact @rfl Nat _ | omega | (simp; done) | (simp; omega) | exact Nat.le_of_ble_eq_true rfl | (show _ * 4 ≤ _; omega) | decide | (simp [ti5]; done) | (simp [ti5]; omega) | (simp only [ti5, List.length_map]; omega) | fail, by first | exact @rfl Nat _ | omega | (simp; done) | (simp; omega) | exact Nat.le_of_ble_eq_true rfl | (show _ * 4 ≤ _; omega) | decide | (simp [ti5]; done) | (simp [ti5]; omega) | (simp only [ti5, List.length_map]; omega) | fail⟩ ?_; conv => whnf) | (refine And.intro ⟨by first | exact @rfl Nat _ | omega | (simp; done) | (simp; omega) | exact Nat.le_of_ble_eq_true rfl | (show _ * 4 ≤ _; omega) | decide | (simp [ti5]; done) | (simp [ti5]; omega) | (simp only [ti5, List.length_map]; omega) | fail, by first | exact @rfl Nat _ | omega | (simp; done) | (simp; omega) | exact Nat.le_of_ble_eq_true rfl | (show _ * 4 ≤ _; omega) | decide | (simp [ti5]; done) | (simp [ti5]; omega) | (simp only [ti5, List.length_map]; omega) | fail, by first | exact @rfl Nat _ | omega | (simp; done) | (simp; omega) | exact Nat.le_of_ble_eq_true rfl | (show _ * 4 ≤ _; omega) | decide | (simp [ti5]; done) | (simp [ti5]; omega) | (simp only [ti5, List.length_map]; omega) | fail⟩ ?_; conv => whnf) | (refine And.intro ⟨by first | exact @rfl Nat _ | omega | (simp; done) | (simp; omega) | exact Nat.le_of_ble_eq_true rfl | (show _ * 4 ≤ _; omega) | decide | (simp [ti5]; done) | (simp [ti5]; omega) | (simp only [ti5, List.length_map]; omega) | fail, by first | exact @rfl Nat _ | omega | (simp; done) | (simp; omega) | exact Nat.le_of_ble_eq_true rfl | (show _ * 4 ≤ _; omega) | decide | (simp [ti5]; done) | (simp [ti5]; omega) | (simp only [ti5, List.length_map]; omega) | fail, by first | exact @rfl Nat _ | omega | (simp; done) | (simp; omega) | exact Nat.le_of_ble_eq_true rfl | (show _ * 4 ≤ _; omega) | decide | (simp [ti5]; done) | (simp [ti5]; omega) | (simp only [ti5, List.length_map]; omega) | fail, by first | exact @rfl Nat _ | omega | (simp; done) | (simp; omega) | exact Nat.le_of_ble_eq_true rfl | (show _ * 4 ≤ _; omega) | decide | (simp [ti5]; done) | (simp [ti5]; omega) | (simp only [ti5, List.length_map]; omega) | fail⟩ ?_; conv => whnf) | fail)
      refine ⟨[0], ?_, rfl, rfl, ?_, rfl⟩
      · (repeat' (first | exact trivial | exact ren_z8 | exact ren_zi | exact ren_z32 | exact ren_z64 | refine And.intro ?_ ?_ | (refine wk_tup ?_) | (refine wk_agg ?_) | (refine wk_cons ?_ ?_))) <;> first | exact ren_z8 | exact ren_zi | exact ren_z32 | exact ren_z64 | rfl | exact wk_i (by first | rfl | omega | (simp; done) | (simp; omega) | fail) | exact wk_sl rfl (by first | rfl | omega | (simp; done) | (simp; omega) | fail) (by first | rfl | omega | (simp; done) | (simp; omega) | fail) | exact ren_eq (by first | rfl | (simp; done) | fail) (by first | rfl | omega | (simp; done) | (simp; omega) | fail) | exact ren_app2 (by first | rfl | (simp; done) | fail) (by first | rfl | (simp; done) | fail) rfl | exact wk_u64 (by first | rfl | omega | (simp; done) | (simp; omega) | fail) | exact wk_u8 (by first | rfl | omega | (simp; done) | (simp; omega) | fail) | exact wk_u32 (by first | rfl | omega | (simp; done) | (simp; omega) | fail) | exact wk_b (by first | rfl | omega | (simp; done) | (simp; omega) | fail) | exact ren_m8 (by first | rfl | omega | (simp; done) | (simp; omega) | fail) | exact ren_m32 (by first | rfl | omega | (simp; done) | (simp; omega) | fail) | exact ren_m64 (by first | rfl | omega | (simp; done) | (simp; omega) | fail) | exact ren_mi (by first | rfl | omega | (simp; done) | (simp; omega) | fail) | skip
      · (repeat' (first | exact trivial | exact ren_z8 | exact ren_zi | exact ren_z32 | exact ren_z64 | refine And.intro ?_ ?_ | (refine wk_tup ?_) | (refine wk_agg ?_) | (refine wk_cons ?_ ?_))) <;> first | exact ren_z8 | exact ren_zi | exact ren_z32 | exact ren_z64 | rfl | exact wk_i (by first | rfl | omega | (simp; done) | (simp; omega) | fail) | exact wk_sl rfl (by first | rfl | omega | (simp; done) | (simp; omega) | fail) (by first | rfl | omega | (simp; done) | (simp; omega) | fail) | exact ren_eq (by first | rfl | (simp; done) | fail) (by first | rfl | omega | (simp; done) | (simp; omega) | fail) | exact ren_app2 (by first | rfl | (simp; done) | fail) (by first | rfl | (simp; done) | fail) rfl | exact wk_u64 (by first | rfl | omega | (simp; done) | (simp; omega) | fail) | exact wk_u8 (by first | rfl | omega | (simp; done) | (simp; omega) | fail) | exact wk_u32 (by first | rfl | omega | (simp; done) | (simp; omega) | fail) | exact wk_b (by first | rfl | omega | (simp; done) | (simp; omega) | fail) | exact ren_m8 (by first | rfl | omega | (simp; done) | (simp; omega) | fail) | exact ren_m32 (by first | rfl | omega | (simp; done) | (simp; omega) | fail) | exact ren_m64 (by first | rfl | omega | (simp; done) | (simp; omega) | fail) | exact ren_mi (by first | rfl | omega | (simp; done) | (simp; omega) | fail) | skip
theorem P_lt : P25519 < 65536 ^ 16 := by decide
theorem f126 (w : Nat) (hw : w < 65536 ^ 16) (f : Bool) : SCall Try.prog 126 [.sl 0 0 16 1 f] [some (.ro ((dg w).map .u64))] (.b (decide (w < P25519))) [some (.ro ((dg w).map .u64))] := by
  have hdl := dg_len w
  have hpl := pp_len
  refine scall_of ttOk (by kernel_rfl : Try.prog.funcs[126]? = some Try.f126) rfl rfl rfl ?_
  try simp only [List.length_cons, List.length_nil, Nat.zero_add, Nat.reduceAdd]
  refine sw_ok ttOk mixed (by kernel_rfl) ?_
  conv => whnf
  repeat (first | (refine Exists.intro _ (And.intro bytesOf_all ?_); conv => whnf) | (refine Exists.intro _ (And.intro (bytesOf_cut rfl) ?_); conv => whnf) | (refine brT rfl ?_; conv => whnf) | (refine brF rfl ?_; conv => whnf) | (refine gdT rfl ?_; conv => whnf) | (refine gdF rfl ?_; conv => whnf) | (refine Exists.intro _ (And.intro (sload_all rfl (by first | rfl | (simp; done) | (simp; omega))) ?_); conv => whnf) | (refine Exists.intro _ (And.intro (sput_all rfl (by first | rfl | (simp; done) | (simp; omega))) ?_); conv => whnf) | (refine Exists.intro _ (And.intro rfl ?_); conv => whnf) | (refine pkT rfl ?_; conv => whnf) | (refine pkF rfl ?_; conv => whnf) | (refine gdT (by first | (simp; done) | fail) ?_; conv => whnf) | (refine gdF (by first | (simp; done) | fail) ?_; conv => whnf) | (refine brT (by first | (simp; done) | fail) ?_; conv => whnf) | (refine brF (by first | (simp; done) | fail) ?_; conv => whnf) | (refine pkT (by first | (simp; done) | fail) ?_; conv => whnf) | (refine pkF (by first | (simp; done) | fail) ?_; conv => whnf) | (refine And.intro ⟨rfl, rfl⟩ ?_; conv => whnf) | (refine And.intro (by first | omega | (simp; done) | (simp; omega) | (simp [ti5]; omega)) ?_; conv => whnf) | (refine And.intro (Nat.le_of_ble_eq_true rfl) ?_; conv => whnf) | (refine And.intro ⟨rfl, Nat.le_of_ble_eq_true rfl⟩ ?_; conv => whnf) | (refine And.intro ⟨Nat.le_of_ble_eq_true rfl, Nat.le_of_ble_eq_true rfl⟩ ?_; conv => whnf) | (refine And.intro ⟨Nat.le_of_ble_eq_true rfl, Nat.le_of_ble_eq_true rfl, Nat.le_of_ble_eq_true rfl⟩ ?_; conv => whnf) | (refine And.intro ⟨Nat.le_of_ble_eq_true rfl, Nat.le_of_ble_eq_true rfl, Nat.le_of_ble_eq_true rfl, Nat.le_of_ble_eq_true rfl⟩ ?_; conv => whnf) | (refine And.intro (by kernel_rfl) ?_; conv => whnf) | (refine And.intro ⟨by first | exact @rfl Nat _ | omega | (simp; done) | (simp; omega) | exact Nat.le_of_ble_eq_true rfl | (show _ * 4 ≤ _; omega) | decide | (simp [ti5]; done) | (simp [ti5]; omega) | (simp only [ti5, List.length_map]; omega) | fail, by first | exact @rfl Nat _ | omega | (simp; done) | (simp; omega) | exact Nat.le_of_ble_eq_true rfl | (show _ * 4 ≤ _; omega) | decide | (simp [ti5]; done) | (simp [ti5]; omega) | (simp only [ti5, List.length_map]; omega) | fail⟩ ?_; conv => whnf) | (refine And.intro ⟨by first | exact @rfl Nat _ | omega | (simp; done) | (simp; omega) | exact Nat.le_of_ble_eq_true rfl | (show _ * 4 ≤ _; omega) | decide | (simp [ti5]; done) | (simp [ti5]; omega) | (simp only [ti5, List.length_map]; omega) | fail, by first | exact @rfl Nat _ | omega | (simp; done) | (simp; omega) | exact Nat.le_of_ble_eq_true rfl | (show _ * 4 ≤ _; omega) | decide | (simp [ti5]; done) | (simp [ti5]; omega) | (simp only [ti5, List.length_map]; omega) | fail, by first | exact @rfl Nat _ | omega | (simp; done) | (simp; omega) | exact Nat.le_of_ble_eq_true rfl | (show _ * 4 ≤ _; omega) | decide | (simp [ti5]; done) | (simp [ti5]; omega) | (simp only [ti5, List.length_map]; omega) | fail⟩ ?_; conv => whnf) | (refine And.intro ⟨by first | exact @rfl Nat _ | omega | (simp; done) | (simp; omega) | exact Nat.le_of_ble_eq_true rfl | (show _ * 4 ≤ _; omega) | decide | (simp [ti5]; done) | (simp [ti5]; omega) | (simp only [ti5, List.length_map]; omega) | fail, by first | exact @rfl Nat _ | omega | (simp; done) | (simp; omega) | exact Nat.le_of_ble_eq_true rfl | (show _ * 4 ≤ _; omega) | decide | (simp [ti5]; done) | (simp [ti5]; omega) | (simp only [ti5, List.length_map]; omega) | fail, by first | exact @rfl Nat _ | omega | (simp; done) | (simp; omega) | exact Nat.le_of_ble_eq_true rfl | (show _ * 4 ≤ _; omega) | decide | (simp [ti5]; done) | (simp [ti5]; omega) | (simp only [ti5, List.length_map]; omega) | fail, by first | exact @rfl Nat _ | omega | (simp; done) | (simp; omega) | exact Nat.le_of_ble_eq_true rfl | (show _ * 4 ≤ _; omega) | decide | (simp [ti5]; done) | (simp [ti5]; omega) | (simp only [ti5, List.length_map]; omega) | fail⟩ ?_; conv => whnf) | fail)
  refine ok1_callF [] [true] false (f89) rfl rfl ⟨⟨rfl, by first | rfl | ((repeat' (first | exact wk_nil | exact ren_z8 | exact ren_m8 rfl | exact ren_m32 rfl | exact ren_m64 rfl | exact ren_mi rfl | exact rfl | (refine wk_agg ?_) | (refine wk_cons ?_ ?_))); done) | (simp [renL, renV]; done) | (simp [renL, renV]; omega)⟩, trivial, by first | rfl | simp [plainHf, plainB], by first | rfl | simp [plainRf, plainR, plainT, plainW], ?_⟩
  conv => whnf
  repeat (first | (refine Exists.intro _ (And.intro bytesOf_all ?_); conv => whnf) | (refine Exists.intro _ (And.intro (bytesOf_cut rfl) ?_); conv => whnf) | (refine brT rfl ?_; conv => whnf) | (refine brF rfl ?_; conv => whnf) | (refine gdT rfl ?_; conv => whnf) | (refine gdF rfl ?_; conv => whnf) | (refine Exists.intro _ (And.intro (sload_all rfl (by first | rfl | (simp; done) | (simp; omega))) ?_); conv => whnf) | (refine Exists.intro _ (And.intro (sput_all rfl (by first | rfl | (simp; done) | (simp; omega))) ?_); conv => whnf) | (refine Exists.intro _ (And.intro rfl ?_); conv => whnf) | (refine pkT rfl ?_; conv => whnf) | (refine pkF rfl ?_; conv => whnf) | (refine gdT (by first | (simp; done) | fail) ?_; conv => whnf) | (refine gdF (by first | (simp; done) | fail) ?_; conv => whnf) | (refine brT (by first | (simp; done) | fail) ?_; conv => whnf) | (refine brF (by first | (simp; done) | fail) ?_; conv => whnf) | (refine pkT (by first | (simp; done) | fail) ?_; conv => whnf) | (refine pkF (by first | (simp; done) | fail) ?_; conv => whnf) | (refine And.intro ⟨rfl, rfl⟩ ?_; conv => whnf) | (refine And.intro (by first | omega | (simp; done) | (simp; omega) | (simp [ti5]; omega)) ?_; conv => whnf) | (refine And.intro (Nat.le_of_ble_eq_true rfl) ?_; conv => whnf) | (refine And.intro ⟨rfl, Nat.le_of_ble_eq_true rfl⟩ ?_; conv => whnf) | (refine And.intro ⟨Nat.le_of_ble_eq_true rfl, Nat.le_of_ble_eq_true rfl⟩ ?_; conv => whnf) | (refine And.intro ⟨Nat.le_of_ble_eq_true rfl, Nat.le_of_ble_eq_true rfl, Nat.le_of_ble_eq_true rfl⟩ ?_; conv => whnf) | (refine And.intro ⟨Nat.le_of_ble_eq_true rfl, Nat.le_of_ble_eq_true rfl, Nat.le_of_ble_eq_true rfl, Nat.le_of_ble_eq_true rfl⟩ ?_; conv => whnf) | (refine And.intro (by kernel_rfl) ?_; conv => whnf) | (refine And.intro ⟨by first | exact @rfl Nat _ | omega | (simp; done) | (simp; omega) | exact Nat.le_of_ble_eq_true rfl | (show _ * 4 ≤ _; omega) | decide | (simp [ti5]; done) | (simp [ti5]; omega) | (simp only [ti5, List.length_map]; omega) | fail, by first | exact @rfl Nat _ | omega | (simp; done) | (simp; omega) | exact Nat.le_of_ble_eq_true rfl | (show _ * 4 ≤ _; omega) | decide | (simp [ti5]; done) | (simp [ti5]; omega) | (simp only [ti5, List.length_map]; omega) | fail⟩ ?_; conv => whnf) | (refine And.intro ⟨by first | exact @rfl Nat _ | omega | (simp; done) | (simp; omega) | exact Nat.le_of_ble_eq_true rfl | (show _ * 4 ≤ _; omega) | decide | (simp [ti5]; done) | (simp [ti5]; omega) | (simp only [ti5, List.length_map]; omega) | fail, by first | exact @rfl Nat _ | omega | (simp; done) | (simp; omega) | exact Nat.le_of_ble_eq_true rfl | (show _ * 4 ≤ _; omega) | decide | (simp [ti5]; done) | (simp [ti5]; omega) | (simp only [ti5, List.length_map]; omega) | fail, by first | exact @rfl Nat _ | omega | (simp; done) | (simp; omega) | exact Nat.le_of_ble_eq_true rfl | (show _ * 4 ≤ _; omega) | decide | (simp [ti5]; done) | (simp [ti5]; omega) | (simp only [ti5, List.length_map]; omega) | fail⟩ ?_; conv => whnf) | (refine And.intro ⟨by first | exact @rfl Nat _ | omega | (simp; done) | (simp; omega) | exact Nat.le_of_ble_eq_true rfl | (show _ * 4 ≤ _; omega) | decide | (simp [ti5]; done) | (simp [ti5]; omega) | (simp only [ti5, List.length_map]; omega) | fail, by first | exact @rfl Nat _ | omega | (simp; done) | (simp; omega) | exact Nat.le_of_ble_eq_true rfl | (show _ * 4 ≤ _; omega) | decide | (simp [ti5]; done) | (simp [ti5]; omega) | (simp only [ti5, List.length_map]; omega) | fail, by first | exact @rfl Nat _ | omega | (simp; done) | (simp; omega) | exact Nat.le_of_ble_eq_true rfl | (show _ * 4 ≤ _; omega) | decide | (simp [ti5]; done) | (simp [ti5]; omega) | (simp only [ti5, List.length_map]; omega) | fail, by first | exact @rfl Nat _ | omega | (simp; done) | (simp; omega) | exact Nat.le_of_ble_eq_true rfl | (show _ * 4 ≤ _; omega) | decide | (simp [ti5]; done) | (simp [ti5]; omega) | (simp only [ti5, List.length_map]; omega) | fail⟩ ?_; conv => whnf) | fail)
  refine loop_rule ttOk mixed (by kernel_rfl) (ι := { m : Nat // m ≤ 16 ∧ ∀ j, m ≤ j → j < 16 → (dg w).getD j 0 = pp.getD j 0 }) (fun m => [(0, .sl 0 0 16 1 f), (3, .sl 1 0 16 1 true), (4, .i ((m.1 : Int) - 1))]) (fun _ => [some (.ro ((dg w).map .u64)), some (.row 25 (pp.map .u64))]) (fun _ => 2) (fun m => m.1) ⟨16, Nat.le_refl _, fun j h1 h2 => by omega⟩ ?_ ?_
  · refine Weak.sel [0, 1] rfl rfl ?_ ?_ rfl rfl
    · (repeat' (first | exact trivial | exact ren_z8 | exact ren_zi | exact ren_z32 | exact ren_z64 | refine And.intro ?_ ?_ | (refine wk_tup ?_) | (refine wk_agg ?_) | (refine wk_cons ?_ ?_))) <;> first | exact ren_z8 | exact ren_zi | exact ren_z32 | exact ren_z64 | rfl | exact wk_i (by first | rfl | omega | (simp; done) | (simp; omega) | fail) | exact wk_sl rfl (by first | rfl | omega | (simp; done) | (simp; omega) | fail) (by first | rfl | omega | (simp; done) | (simp; omega) | fail) | exact ren_eq (by first | rfl | (simp; done) | fail) (by first | rfl | omega | (simp; done) | (simp; omega) | fail) | exact ren_app2 (by first | rfl | (simp; done) | fail) (by first | rfl | (simp; done) | fail) rfl | exact wk_u64 (by first | rfl | omega | (simp; done) | (simp; omega) | fail) | exact wk_u8 (by first | rfl | omega | (simp; done) | (simp; omega) | fail) | exact wk_u32 (by first | rfl | omega | (simp; done) | (simp; omega) | fail) | exact wk_b (by first | rfl | omega | (simp; done) | (simp; omega) | fail) | exact ren_m8 (by first | rfl | omega | (simp; done) | (simp; omega) | fail) | exact ren_m32 (by first | rfl | omega | (simp; done) | (simp; omega) | fail) | exact ren_m64 (by first | rfl | omega | (simp; done) | (simp; omega) | fail) | exact ren_mi (by first | rfl | omega | (simp; done) | (simp; omega) | fail) | skip
    · (repeat' (first | exact trivial | exact ren_z8 | exact ren_zi | exact ren_z32 | exact ren_z64 | refine And.intro ?_ ?_ | (refine wk_tup ?_) | (refine wk_agg ?_) | (refine wk_cons ?_ ?_))) <;> first | exact ren_z8 | exact ren_zi | exact ren_z32 | exact ren_z64 | rfl | exact wk_i (by first | rfl | omega | (simp; done) | (simp; omega) | fail) | exact wk_sl rfl (by first | rfl | omega | (simp; done) | (simp; omega) | fail) (by first | rfl | omega | (simp; done) | (simp; omega) | fail) | exact ren_eq (by first | rfl | (simp; done) | fail) (by first | rfl | omega | (simp; done) | (simp; omega) | fail) | exact ren_app2 (by first | rfl | (simp; done) | fail) (by first | rfl | (simp; done) | fail) rfl | exact wk_u64 (by first | rfl | omega | (simp; done) | (simp; omega) | fail) | exact wk_u8 (by first | rfl | omega | (simp; done) | (simp; omega) | fail) | exact wk_u32 (by first | rfl | omega | (simp; done) | (simp; omega) | fail) | exact wk_b (by first | rfl | omega | (simp; done) | (simp; omega) | fail) | exact ren_m8 (by first | rfl | omega | (simp; done) | (simp; omega) | fail) | exact ren_m32 (by first | rfl | omega | (simp; done) | (simp; omega) | fail) | exact ren_m64 (by first | rfl | omega | (simp; done) | (simp; omega) | fail) | exact ren_mi (by first | rfl | omega | (simp; done) | (simp; omega) | fail) | skip
  · rintro ⟨m, hm, hall⟩
    dsimp only
    by_cases hm0 : 0 < m
    · obtain ⟨k, rfl⟩ : ∃ k, m = k + 1 := ⟨m - 1, by omega⟩
      have hlt : decide ((((k + 1 : Nat) : Int) - 1) ≥ 0) = true := by simp
      have hk : ((k + 1 : Nat) : Int) - 1 = (k : Int) := by omega
      have hp1 : w64 (((k + 1 : Nat) : Int) - 1 - 1) = (k : Int) - 1 := by simp only [w64_eq]; omega
      obtain ⟨c1, c2⟩ := dg_cmp (i := k) hw P_lt (by omega) (fun j h1 h2 => hall j (by omega) h2)
      by_cases he : (dg w).getD k 0 = pp.getD k 0
      · have hne : ((dg w).getD k 0 != pp.getD k 0) = false := by rw [he]; simp
        conv => whnf
        first | refine brT (by exact hlt) ?_ | intro _
        conv => whnf
        repeat (first | (refine Exists.intro _ (And.intro bytesOf_all ?_); conv => whnf) | (refine Exists.intro _ (And.intro (bytesOf_cut rfl) ?_); conv => whnf) | (refine brT rfl ?_; conv => whnf) | (refine brF rfl ?_; conv => whnf) | (refine gdT rfl ?_; conv => whnf) | (refine gdF rfl ?_; conv => whnf) | (refine Exists.intro _ (And.intro (sload_all rfl (by first | rfl | (simp [hdl, hpl]; done) | (simp [hdl, hpl]; omega))) ?_); conv => whnf) | (refine Exists.intro _ (And.intro (sput_all rfl (by first | rfl | (simp [hdl, hpl]; done) | (simp [hdl, hpl]; omega))) ?_); conv => whnf) | (refine Exists.intro _ (And.intro (sload_end (by first | rfl | (simp [hdl, hpl]; done) | (simp [hdl, hpl]; omega))) ?_); conv => whnf) | (refine Exists.intro _ (And.intro (sput_end (by first | rfl | (simp [hdl, hpl]; done) | (simp [hdl, hpl]; omega)) rfl) ?_); conv => whnf) | (refine gdT hne ?_; conv => whnf) | (refine gdF hne ?_; conv => whnf) | (refine brT hne ?_; conv => whnf) | (refine brF hne ?_; conv => whnf) | (refine pkT hne ?_; conv => whnf) | (refine pkF hne ?_; conv => whnf) | (refine Exists.intro _ (And.intro (sput_m64 (i := k) (by first | rfl | omega | exact hk | (simp; done) | (simp; omega))) ?_); conv => whnf) | (refine Exists.intro _ (And.intro (sload_u64 (i := k) (by first | rfl | omega | exact hk | (simp; done) | (simp; omega)) (by first | omega | (simp [hdl, hpl]; done) | (simp [hdl, hpl]; omega))) ?_); conv => whnf) | (refine Exists.intro _ (And.intro (idx_i (m := k) (by first | rfl | omega | exact hk | (simp; done) | (simp; omega))) ?_); conv => whnf) | (refine Exists.intro _ (And.intro (evb_i (m := k) rfl (by first | rfl | omega | exact hk | (simp; done) | (simp; omega))) ?_); conv => whnf) | (refine Exists.intro _ (And.intro rfl ?_); conv => whnf) | (refine pkT rfl ?_; conv => whnf) | (refine pkF rfl ?_; conv => whnf) | (refine gdT (by first | (simp; done) | fail) ?_; conv => whnf) | (refine gdF (by first | (simp; done) | fail) ?_; conv => whnf) | (refine brT (by first | (simp; done) | fail) ?_; conv => whnf) | (refine brF (by first | (simp; done) | fail) ?_; conv => whnf) | (refine pkT (by first | (simp; done) | fail) ?_; conv => whnf) | (refine pkF (by first | (simp; done) | fail) ?_; conv => whnf) | (refine And.intro ⟨rfl, rfl⟩ ?_; conv => whnf) | (refine And.intro (by first | omega | (simp; done) | (simp; omega) | (simp [ti5]; omega)) ?_; conv => whnf) | (refine And.intro (Nat.le_of_ble_eq_true rfl) ?_; conv => whnf) | (refine And.intro ⟨rfl, Nat.le_of_ble_eq_true rfl⟩ ?_; conv => whnf) | (refine And.intro ⟨Nat.le_of_ble_eq_true rfl, Nat.le_of_ble_eq_true rfl⟩ ?_; conv => whnf) | (refine And.intro ⟨Nat.le_of_ble_eq_true rfl, Nat.le_of_ble_eq_true rfl, Nat.le_of_ble_eq_true rfl⟩ ?_; conv => whnf) | (refine And.intro ⟨Nat.le_of_ble_eq_true rfl, Nat.le_of_ble_eq_true rfl, Nat.le_of_ble_eq_true rfl, Nat.le_of_ble_eq_true rfl⟩ ?_; conv => whnf) | (refine And.intro (by kernel_rfl) ?_; conv => whnf) | (refine And.intro ⟨by first | exact @rfl Nat _ | omega | (simp [hdl, hpl]; done) | (simp [hdl, hpl]; omega) | exact Nat.le_of_ble_eq_true rfl | (show _ * 4 ≤ _; omega) | decide | (simp [hdl, hpl, ti5]; done) | (simp [hdl, hpl, ti5]; omega) | (simp only [hdl, hpl, ti5, List.length_map]; omega) | fail, by first | exact @rfl Nat _ | omega | (simp [hdl, hpl]; done) | (simp [hdl, hpl]; omega) | exact Nat.le_of_ble_eq_true rfl | (show _ * 4 ≤ _; omega) | decide | (simp [hdl, hpl, ti5]; done) | (simp [hdl, hpl, ti5]; omega) | (simp only [hdl, hpl, ti5, List.length_map]; omega) | fail⟩ ?_; conv => whnf) | (refine And.intro ⟨by first | exact @rfl Nat _ | omega | (simp [hdl, hpl]; done) | (simp [hdl, hpl]; omega) | exact Nat.le_of_ble_eq_true rfl | (show _ * 4 ≤ _; omega) | decide | (simp [hdl, hpl, ti5]; done) | (simp [hdl, hpl, ti5]; omega) | (simp only [hdl, hpl, ti5, List.length_map]; omega) | fail, by first | exact @rfl Nat _ | omega | (simp [hdl, hpl]; done) | (simp [hdl, hpl]; omega) | exact Nat.le_of_ble_eq_true rfl | (show _ * 4 ≤ _; omega) | decide | (simp [hdl, hpl, ti5]; done) | (simp [hdl, hpl, ti5]; omega) | (simp only [hdl, hpl, ti5, List.length_map]; omega) | fail, by first | exact @rfl Nat _ | omega | (simp [hdl, hpl]; done) | (simp [hdl, hpl]; omega) | exact Nat.le_of_ble_eq_true rfl | (show _ * 4 ≤ _; omega) | decide | (simp [hdl, hpl, ti5]; done) | (simp [hdl, hpl, ti5]; omega) | (simp only [hdl, hpl, ti5, List.length_map]; omega) | fail⟩ ?_; conv => whnf) | (refine And.intro ⟨by first | exact @rfl Nat _ | omega | (simp [hdl, hpl]; done) | (simp [hdl, hpl]; omega) | exact Nat.le_of_ble_eq_true rfl | (show _ * 4 ≤ _; omega) | decide | (simp [hdl, hpl, ti5]; done) | (simp [hdl, hpl, ti5]; omega) | (simp only [hdl, hpl, ti5, List.length_map]; omega) | fail, by first | exact @rfl Nat _ | omega | (simp [hdl, hpl]; done) | (simp [hdl, hpl]; omega) | exact Nat.le_of_ble_eq_true rfl | (show _ * 4 ≤ _; omega) | decide | (simp [hdl, hpl, ti5]; done) | (simp [hdl, hpl, ti5]; omega) | (simp only [hdl, hpl, ti5, List.length_map]; omega) | fail, by first | exact @rfl Nat _ | omega | (simp [hdl, hpl]; done) | (simp [hdl, hpl]; omega) | exact Nat.le_of_ble_eq_true rfl | (show _ * 4 ≤ _; omega) | decide | (simp [hdl, hpl, ti5]; done) | (simp [hdl, hpl, ti5]; omega) | (simp only [hdl, hpl, ti5, List.length_map]; omega) | fail, by first | exact @rfl Nat _ | omega | (simp [hdl, hpl]; done) | (simp [hdl, hpl]; omega) | exact Nat.le_of_ble_eq_true rfl | (show _ * 4 ≤ _; omega) | decide | (simp [hdl, hpl, ti5]; done) | (simp [hdl, hpl, ti5]; omega) | (simp only [hdl, hpl, ti5, List.length_map]; omega) | fail⟩ ?_; conv => whnf) | (refine And.intro (by first | (simp [hdl, hpl]; done) | (simp [hdl, hpl]; omega) | fail) ?_; conv => whnf) | fail)
        refine ⟨⟨k, by omega, fun j h1 h2 => ?_⟩, by simp only; omega, ?_⟩
        · by_cases hj : j = k
          · subst hj; exact he
          · exact hall j (by omega) h2
        · refine Weak.sel [0, 1] rfl rfl ?_ ?_ rfl rfl
          · (repeat' (first | exact trivial | exact ren_z8 | exact ren_zi | exact ren_z32 | exact ren_z64 | refine And.intro ?_ ?_ | (refine wk_tup ?_) | (refine wk_agg ?_) | (refine wk_cons ?_ ?_))) <;> first | exact ren_m8 (by first | exact hp1 | exact hp1.symm | fail) | exact wk_i (by first | exact hp1 | exact hp1.symm | fail) | exact wk_u64 (by first | exact hp1 | exact hp1.symm | fail) | exact ren_z8 | exact ren_zi | exact ren_z32 | exact ren_z64 | rfl | exact wk_i (by first | rfl | exact hp1 | exact hp1.symm | omega | (simp [hp1]; done) | (simp [hp1]; omega) | fail) | exact wk_sl rfl (by first | rfl | exact hp1 | exact hp1.symm | omega | (simp [hp1]; done) | (simp [hp1]; omega) | fail) (by first | rfl | exact hp1 | exact hp1.symm | omega | (simp [hp1]; done) | (simp [hp1]; omega) | fail) | exact ren_eq (by first | rfl | (simp; done) | fail) (by first | rfl | exact hp1 | exact hp1.symm | omega | (simp [hp1]; done) | (simp [hp1]; omega) | fail) | exact ren_app2 (by first | rfl | (simp; done) | fail) (by first | rfl | (simp; done) | fail) rfl | exact wk_u64 (by first | rfl | exact hp1 | exact hp1.symm | omega | (simp [hp1]; done) | (simp [hp1]; omega) | fail) | exact wk_u8 (by first | rfl | exact hp1 | exact hp1.symm | omega | (simp [hp1]; done) | (simp [hp1]; omega) | fail) | exact wk_u32 (by first | rfl | exact hp1 | exact hp1.symm | omega | (simp [hp1]; done) | (simp [hp1]; omega) | fail) | exact wk_b (by first | rfl | exact hp1 | exact hp1.symm | omega | (simp [hp1]; done) | (simp [hp1]; omega) | fail) | exact ren_m8 (by first | rfl | exact hp1 | exact hp1.symm | omega | (simp [hp1]; done) | (simp [hp1]; omega) | fail) | exact ren_m32 (by first | rfl | exact hp1 | exact hp1.symm | omega | (simp [hp1]; done) | (simp [hp1]; omega) | fail) | exact ren_m64 (by first | rfl | exact hp1 | exact hp1.symm | omega | (simp [hp1]; done) | (simp [hp1]; omega) | fail) | exact ren_mi (by first | rfl | exact hp1 | exact hp1.symm | omega | (simp [hp1]; done) | (simp [hp1]; omega) | fail) | skip
          · (repeat' (first | exact trivial | exact ren_z8 | exact ren_zi | exact ren_z32 | exact ren_z64 | refine And.intro ?_ ?_ | (refine wk_tup ?_) | (refine wk_agg ?_) | (refine wk_cons ?_ ?_))) <;> first | exact ren_m8 (by first | exact hp1 | exact hp1.symm | fail) | exact wk_i (by first | exact hp1 | exact hp1.symm | fail) | exact wk_u64 (by first | exact hp1 | exact hp1.symm | fail) | exact ren_z8 | exact ren_zi | exact ren_z32 | exact ren_z64 | rfl | exact wk_i (by first | rfl | exact hp1 | exact hp1.symm | omega | (simp [hp1]; done) | (simp [hp1]; omega) | fail) | exact wk_sl rfl (by first | rfl | exact hp1 | exact hp1.symm | omega | (simp [hp1]; done) | (simp [hp1]; omega) | fail) (by first | rfl | exact hp1 | exact hp1.symm | omega | (simp [hp1]; done) | (simp [hp1]; omega) | fail) | exact ren_eq (by first | rfl | (simp; done) | fail) (by first | rfl | exact hp1 | exact hp1.symm | omega | (simp [hp1]; done) | (simp [hp1]; omega) | fail) | exact ren_app2 (by first | rfl | (simp; done) | fail) (by first | rfl | (simp; done) | fail) rfl | exact wk_u64 (by first | rfl | exact hp1 | exact hp1.symm | omega | (simp [hp1]; done) | (simp [hp1]; omega) | fail) | exact wk_u8 (by first | rfl | exact hp1 | exact hp1.symm | omega | (simp [hp1]; done) | (simp [hp1]; omega) | fail) | exact wk_u32 (by first | rfl | exact hp1 | exact hp1.symm | omega | (simp [hp1]; done) | (simp [hp1]; omega) | fail) | exact wk_b (by first | rfl | exact hp1 | exact hp1.symm | omega | (simp [hp1]; done) | (simp [hp1]; omega) | fail) | exact ren_m8 (by first | rfl | exact hp1 | exact hp1.symm | omega | (simp [hp1]; done) | (simp [hp1]; omega) | fail) | exact ren_m32 (by first | rfl | exact hp1 | exact hp1.symm | omega | (simp [hp1]; done) | (simp [hp1]; omega) | fail) | exact ren_m64 (by first | rfl | exact hp1 | exact hp1.symm | omega | (simp [hp1]; done) | (simp [hp1]; omega) | fail) | exact ren_mi (by first | rfl | exact hp1 | exact hp1.symm | omega | (simp [hp1]; done) | (simp [hp1]; omega) | fail) | skip
      · have hne : ((dg w).getD k 0 != pp.getD k 0) = true := by simp; exact he
        have hr : decide ((dg w).getD k 0 < pp.getD k 0) = decide (w < P25519) := by
          by_cases hl : (dg w).getD k 0 < pp.getD k 0
          · rw [decide_eq_true hl, decide_eq_true (c1 (UInt64.lt_iff_toNat_lt.1 hl))]
          · rw [decide_eq_false hl]
            have h3 : ¬ ((dg w).getD k 0).toNat < (pp.getD k 0).toNat := fun e => hl (UInt64.lt_iff_toNat_lt.2 e)
            have h4 : ((dg w).getD k 0).toNat ≠ (pp.getD k 0).toNat := fun e => he (UInt64.toNat_inj.mp e)
            have h5 := c2 (show ((dg P25519).getD k 0).toNat < _ by show (pp.getD k 0).toNat < _; omega)
            rw [decide_eq_false (by omega)]
        conv => whnf
        first | refine brT (by exact hlt) ?_ | intro _
        conv => whnf
        repeat (first | (refine Exists.intro _ (And.intro bytesOf_all ?_); conv => whnf) | (refine Exists.intro _ (And.intro (bytesOf_cut rfl) ?_); conv => whnf) | (refine brT rfl ?_; conv => whnf) | (refine brF rfl ?_; conv => whnf) | (refine gdT rfl ?_; conv => whnf) | (refine gdF rfl ?_; conv => whnf) | (refine Exists.intro _ (And.intro (sload_all rfl (by first | rfl | (simp [hdl, hpl]; done) | (simp [hdl, hpl]; omega))) ?_); conv => whnf) | (refine Exists.intro _ (And.intro (sput_all rfl (by first | rfl | (simp [hdl, hpl]; done) | (simp [hdl, hpl]; omega))) ?_); conv => whnf) | (refine Exists.intro _ (And.intro (sload_end (by first | rfl | (simp [hdl, hpl]; done) | (simp [hdl, hpl]; omega))) ?_); conv => whnf) | (refine Exists.intro _ (And.intro (sput_end (by first | rfl | (simp [hdl, hpl]; done) | (simp [hdl, hpl]; omega)) rfl) ?_); conv => whnf) | (refine gdT hne ?_; conv => whnf) | (refine gdF hne ?_; conv => whnf) | (refine brT hne ?_; conv => whnf) | (refine brF hne ?_; conv => whnf) | (refine pkT hne ?_; conv => whnf) | (refine pkF hne ?_; conv => whnf) | (refine Exists.intro _ (And.intro (sput_m64 (i := k) (by first | rfl | omega | exact hk | (simp; done) | (simp; omega))) ?_); conv => whnf) | (refine Exists.intro _ (And.intro (sload_u64 (i := k) (by first | rfl | omega | exact hk | (simp; done) | (simp; omega)) (by first | omega | (simp [hdl, hpl]; done) | (simp [hdl, hpl]; omega))) ?_); conv => whnf) | (refine Exists.intro _ (And.intro (idx_i (m := k) (by first | rfl | omega | exact hk | (simp; done) | (simp; omega))) ?_); conv => whnf) | (refine Exists.intro _ (And.intro (evb_i (m := k) rfl (by first | rfl | omega | exact hk | (simp; done) | (simp; omega))) ?_); conv => whnf) | (refine Exists.intro _ (And.intro rfl ?_); conv => whnf) | (refine pkT rfl ?_; conv => whnf) | (refine pkF rfl ?_; conv => whnf) | (refine gdT (by first | (simp; done) | fail) ?_; conv => whnf) | (refine gdF (by first | (simp; done) | fail) ?_; conv => whnf) | (refine brT (by first | (simp; done) | fail) ?_; conv => whnf) | (refine brF (by first | (simp; done) | fail) ?_; conv => whnf) | (refine pkT (by first | (simp; done) | fail) ?_; conv => whnf) | (refine pkF (by first | (simp; done) | fail) ?_; conv => whnf) | (refine And.intro ⟨rfl, rfl⟩ ?_; conv => whnf) | (refine And.intro (by first | omega | (simp; done) | (simp; omega) | (simp [ti5]; omega)) ?_; conv => whnf) | (refine And.intro (Nat.le_of_ble_eq_true rfl) ?_; conv => whnf) | (refine And.intro ⟨rfl, Nat.le_of_ble_eq_true rfl⟩ ?_; conv => whnf) | (refine And.intro ⟨Nat.le_of_ble_eq_true rfl, Nat.le_of_ble_eq_true rfl⟩ ?_; conv => whnf) | (refine And.intro ⟨Nat.le_of_ble_eq_true rfl, Nat.le_of_ble_eq_true rfl, Nat.le_of_ble_eq_true rfl⟩ ?_; conv => whnf) | (refine And.intro ⟨Nat.le_of_ble_eq_true rfl, Nat.le_of_ble_eq_true rfl, Nat.le_of_ble_eq_true rfl, Nat.le_of_ble_eq_true rfl⟩ ?_; conv => whnf) | (refine And.intro (by kernel_rfl) ?_; conv => whnf) | (refine And.intro ⟨by first | exact @rfl Nat _ | omega | (simp [hdl, hpl]; done) | (simp [hdl, hpl]; omega) | exact Nat.le_of_ble_eq_true rfl | (show _ * 4 ≤ _; omega) | decide | (simp [hdl, hpl, ti5]; done) | (simp [hdl, hpl, ti5]; omega) | (simp only [hdl, hpl, ti5, List.length_map]; omega) | fail, by first | exact @rfl Nat _ | omega | (simp [hdl, hpl]; done) | (simp [hdl, hpl]; omega) | exact Nat.le_of_ble_eq_true rfl | (show _ * 4 ≤ _; omega) | decide | (simp [hdl, hpl, ti5]; done) | (simp [hdl, hpl, ti5]; omega) | (simp only [hdl, hpl, ti5, List.length_map]; omega) | fail⟩ ?_; conv => whnf) | (refine And.intro ⟨by first | exact @rfl Nat _ | omega | (simp [hdl, hpl]; done) | (simp [hdl, hpl]; omega) | exact Nat.le_of_ble_eq_true rfl | (show _ * 4 ≤ _; omega) | decide | (simp [hdl, hpl, ti5]; done) | (simp [hdl, hpl, ti5]; omega) | (simp only [hdl, hpl, ti5, List.length_map]; omega) | fail, by first | exact @rfl Nat _ | omega | (simp [hdl, hpl]; done) | (simp [hdl, hpl]; omega) | exact Nat.le_of_ble_eq_true rfl | (show _ * 4 ≤ _; omega) | decide | (simp [hdl, hpl, ti5]; done) | (simp [hdl, hpl, ti5]; omega) | (simp only [hdl, hpl, ti5, List.length_map]; omega) | fail, by first | exact @rfl Nat _ | omega | (simp [hdl, hpl]; done) | (simp [hdl, hpl]; omega) | exact Nat.le_of_ble_eq_true rfl | (show _ * 4 ≤ _; omega) | decide | (simp [hdl, hpl, ti5]; done) | (simp [hdl, hpl, ti5]; omega) | (simp only [hdl, hpl, ti5, List.length_map]; omega) | fail⟩ ?_; conv => whnf) | (refine And.intro ⟨by first | exact @rfl Nat _ | omega | (simp [hdl, hpl]; done) | (simp [hdl, hpl]; omega) | exact Nat.le_of_ble_eq_true rfl | (show _ * 4 ≤ _; omega) | decide | (simp [hdl, hpl, ti5]; done) | (simp [hdl, hpl, ti5]; omega) | (simp only [hdl, hpl, ti5, List.length_map]; omega) | fail, by first | exact @rfl Nat _ | omega | (simp [hdl, hpl]; done) | (simp [hdl, hpl]; omega) | exact Nat.le_of_ble_eq_true rfl | (show _ * 4 ≤ _; omega) | decide | (simp [hdl, hpl, ti5]; done) | (simp [hdl, hpl, ti5]; omega) | (simp only [hdl, hpl, ti5, List.length_map]; omega) | fail, by first | exact @rfl Nat _ | omega | (simp [hdl, hpl]; done) | (simp [hdl, hpl]; omega) | exact Nat.le_of_ble_eq_true rfl | (show _ * 4 ≤ _; omega) | decide | (simp [hdl, hpl, ti5]; done) | (simp [hdl, hpl, ti5]; omega) | (simp only [hdl, hpl, ti5, List.length_map]; omega) | fail, by first | exact @rfl Nat _ | omega | (simp [hdl, hpl]; done) | (simp [hdl, hpl]; omega) | exact Nat.le_of_ble_eq_true rfl | (show _ * 4 ≤ _; omega) | decide | (simp [hdl, hpl, ti5]; done) | (simp [hdl, hpl, ti5]; omega) | (simp only [hdl, hpl, ti5, List.length_map]; omega) | fail⟩ ?_; conv => whnf) | (refine And.intro (by first | (simp [hdl, hpl]; done) | (simp [hdl, hpl]; omega) | fail) ?_; conv => whnf) | fail)
        refine ⟨[0], ?_, rfl, rfl, ?_, rfl⟩
        · (repeat' (first | exact trivial | exact ren_z8 | exact ren_zi | exact ren_z32 | exact ren_z64 | refine And.intro ?_ ?_ | (refine wk_tup ?_) | (refine wk_agg ?_) | (refine wk_cons ?_ ?_))) <;> first | exact ren_m8 (by first | exact hr | exact hr.symm | fail) | exact wk_i (by first | exact hr | exact hr.symm | fail) | exact wk_u64 (by first | exact hr | exact hr.symm | fail) | exact ren_z8 | exact ren_zi | exact ren_z32 | exact ren_z64 | rfl | exact wk_i (by first | rfl | exact hr | exact hr.symm | omega | (simp [hr]; done) | (simp [hr]; omega) | fail) | exact wk_sl rfl (by first | rfl | exact hr | exact hr.symm | omega | (simp [hr]; done) | (simp [hr]; omega) | fail) (by first | rfl | exact hr | exact hr.symm | omega | (simp [hr]; done) | (simp [hr]; omega) | fail) | exact ren_eq (by first | rfl | (simp; done) | fail) (by first | rfl | exact hr | exact hr.symm | omega | (simp [hr]; done) | (simp [hr]; omega) | fail) | exact ren_app2 (by first | rfl | (simp; done) | fail) (by first | rfl | (simp; done) | fail) rfl | exact wk_u64 (by first | rfl | exact hr | exact hr.symm | omega | (simp [hr]; done) | (simp [hr]; omega) | fail) | exact wk_u8 (by first | rfl | exact hr | exact hr.symm | omega | (simp [hr]; done) | (simp [hr]; omega) | fail) | exact wk_u32 (by first | rfl | exact hr | exact hr.symm | omega | (simp [hr]; done) | (simp [hr]; omega) | fail) | exact wk_b (by first | rfl | exact hr | exact hr.symm | omega | (simp [hr]; done) | (simp [hr]; omega) | fail) | exact ren_m8 (by first | rfl | exact hr | exact hr.symm | omega | (simp [hr]; done) | (simp [hr]; omega) | fail) | exact ren_m32 (by first | rfl | exact hr | exact hr.symm | omega | (simp [hr]; done) | (simp [hr]; omega) | fail) | exact ren_m64 (by first | rfl | exact hr | exact hr.symm | omega | (simp [hr]; done) | (simp [hr]; omega) | fail) | exact ren_mi (by first | rfl | exact hr | exact hr.symm | omega | (simp [hr]; done) | (simp [hr]; omega) | fail) | skip
        · (repeat' (first | exact trivial | exact ren_z8 | exact ren_zi | exact ren_z32 | exact ren_z64 | refine And.intro ?_ ?_ | (refine wk_tup ?_) | (refine wk_agg ?_) | (refine wk_cons ?_ ?_))) <;> first | exact ren_m8 (by first | exact hr | exact hr.symm | fail) | exact wk_i (by first | exact hr | exact hr.symm | fail) | exact wk_u64 (by first | exact hr | exact hr.symm | fail) | exact ren_z8 | exact ren_zi | exact ren_z32 | exact ren_z64 | rfl | exact wk_i (by first | rfl | exact hr | exact hr.symm | omega | (simp [hr]; done) | (simp [hr]; omega) | fail) | exact wk_sl rfl (by first | rfl | exact hr | exact hr.symm | omega | (simp [hr]; done) | (simp [hr]; omega) | fail) (by first | rfl | exact hr | exact hr.symm | omega | (simp [hr]; done) | (simp [hr]; omega) | fail) | exact ren_eq (by first | rfl | (simp; done) | fail) (by first | rfl | exact hr | exact hr.symm | omega | (simp [hr]; done) | (simp [hr]; omega) | fail) | exact ren_app2 (by first | rfl | (simp; done) | fail) (by first | rfl | (simp; done) | fail) rfl | exact wk_u64 (by first | rfl | exact hr | exact hr.symm | omega | (simp [hr]; done) | (simp [hr]; omega) | fail) | exact wk_u8 (by first | rfl | exact hr | exact hr.symm | omega | (simp [hr]; done) | (simp [hr]; omega) | fail) | exact wk_u32 (by first | rfl | exact hr | exact hr.symm | omega | (simp [hr]; done) | (simp [hr]; omega) | fail) | exact wk_b (by first | rfl | exact hr | exact hr.symm | omega | (simp [hr]; done) | (simp [hr]; omega) | fail) | exact ren_m8 (by first | rfl | exact hr | exact hr.symm | omega | (simp [hr]; done) | (simp [hr]; omega) | fail) | exact ren_m32 (by first | rfl | exact hr | exact hr.symm | omega | (simp [hr]; done) | (simp [hr]; omega) | fail) | exact ren_m64 (by first | rfl | exact hr | exact hr.symm | omega | (simp [hr]; done) | (simp [hr]; omega) | fail) | exact ren_mi (by first | rfl | exact hr | exact hr.symm | omega | (simp [hr]; done) | (simp [hr]; omega) | fail) | skip
    · obtain rfl : m = 0 := by omega
      have hwP : w = P25519 := dg_inj hw P_lt (fun j hj => hall j (Nat.zero_le _) hj)
      have hr : decide (w < P25519) = false := by rw [hwP]; simp
      rw [hr]
      conv => whnf
      first | refine brF (by rfl) ?_ | intro _
      conv => whnf
      repeat (first | (refine Exists.intro _ (And.intro bytesOf_all ?_); conv => whnf) | (refine Exists.intro _ (And.intro (bytesOf_cut rfl) ?_); conv => whnf) | (refine brT rfl ?_; conv => whnf) | (refine brF rfl ?_; conv => whnf) | (refine gdT rfl ?_; conv => whnf) | (refine gdF rfl ?_; conv => whnf) | (refine Exists.intro _ (And.intro (sload_all rfl (by first | rfl | (simp; done) | (simp; omega))) ?_); conv => whnf) | (refine Exists.intro _ (And.intro (sput_all rfl (by first | rfl | (simp; done) | (simp; omega))) ?_); conv => whnf) | (refine Exists.intro _ (And.intro rfl ?_); conv => whnf) | (refine pkT rfl ?_; conv => whnf) | (refine pkF rfl ?_; conv => whnf) | (refine gdT (by first | (simp; done) | fail) ?_; conv => whnf) | (refine gdF (by first | (simp; done) | fail) ?_; conv => whnf) | (refine brT (by first | (simp; done) | fail) ?_; conv => whnf) | (refine brF (by first | (simp; done) | fail) ?_; conv => whnf) | (refine pkT (by first | (simp; done) | fail) ?_; conv => whnf) | (refine pkF (by first | (simp; done) | fail) ?_; conv => whnf) | (refine And.intro ⟨rfl, rfl⟩ ?_; conv => whnf) | (refine And.intro (by first | omega | (simp; done) | (simp; omega) | (simp [ti5]; omega)) ?_; conv => whnf) | (refine And.intro (Nat.le_of_ble_eq_true rfl) ?_; conv => whnf) | (refine And.intro ⟨rfl, Nat.le_of_ble_eq_true rfl⟩ ?_; conv => whnf) | (refine And.intro ⟨Nat.le_of_ble_eq_true rfl, Nat.le_of_ble_eq_true rfl⟩ ?_; conv => whnf) | (refine And.intro ⟨Nat.le_of_ble_eq_true rfl, Nat.le_of_ble_eq_true rfl, Nat.le_of_ble_eq_true rfl⟩ ?_; conv => whnf) | (refine And.intro ⟨Nat.le_of_ble_eq_true rfl, Nat.le_of_ble_eq_true rfl, Nat.le_of_ble_eq_true rfl, Nat.le_of_ble_eq_true rfl⟩ ?_; conv => whnf) | (refine And.intro (by kernel_rfl) ?_; conv => whnf) | (refine And.intro ⟨by first | exact @rfl Nat _ | omega | (simp; done) | (simp; omega) | exact Nat.le_of_ble_eq_true rfl | (show _ * 4 ≤ _; omega) | decide | (simp [ti5]; done) | (simp [ti5]; omega) | (simp only [ti5, List.length_map]; omega) | fail, by first | exact @rfl Nat _ | omega | (simp; done) | (simp; omega) | exact Nat.le_of_ble_eq_true rfl | (show _ * 4 ≤ _; omega) | decide | (simp [ti5]; done) | (simp [ti5]; omega) | (simp only [ti5, List.length_map]; omega) | fail⟩ ?_; conv => whnf) | (refine And.intro ⟨by first | exact @rfl Nat _ | omega | (simp; done) | (simp; omega) | exact Nat.le_of_ble_eq_true rfl | (show _ * 4 ≤ _; omega) | decide | (simp [ti5]; done) | (simp [ti5]; omega) | (simp only [ti5, List.length_map]; omega) | fail, by first | exact @rfl Nat _ | omega | (simp; done) | (simp; omega) | exact Nat.le_of_ble_eq_true rfl | (show _ * 4 ≤ _; omega) | decide | (simp [ti5]; done) | (simp [ti5]; omega) | (simp only [ti5, List.length_map]; omega) | fail, by first | exact @rfl Nat _ | omega | (simp; done) | (simp; omega) | exact Nat.le_of_ble_eq_true rfl | (show _ * 4 ≤ _; omega) | decide | (simp [ti5]; done) | (simp [ti5]; omega) | (simp only [ti5, List.length_map]; omega) | fail⟩ ?_; conv => whnf) | (refine And.intro ⟨by first | exact @rfl Nat _ | omega | (simp; done) | (simp; omega) | exact Nat.le_of_ble_eq_true rfl | (show _ * 4 ≤ _; omega) | decide | (simp [ti5]; done) | (simp [ti5]; omega) | (simp only [ti5, List.length_map]; omega) | fail, by first | exact @rfl Nat _ | omega | (simp; done) | (simp; omega) | exact Nat.le_of_ble_eq_true rfl | (show _ * 4 ≤ _; omega) | decide | (simp [ti5]; done) | (simp [ti5]; omega) | (simp only [ti5, List.length_map]; omega) | fail, by first | exact @rfl Nat _ | omega | (simp; done) | (simp; omega) | exact Nat.le_of_ble_eq_true rfl | (show _ * 4 ≤ _; omega) | decide | (simp [ti5]; done) | (simp [ti5]; omega) | (simp only [ti5, List.length_map]; omega) | fail, by first | exact @rfl Nat _ | omega | (simp; done) | (simp; omega) | exact Nat.le_of_ble_eq_true rfl | (show _ * 4 ≤ _; omega) | decide | (simp [ti5]; done) | (simp [ti5]; omega) | (simp only [ti5, List.length_map]; omega) | fail⟩ ?_; conv => whnf) | fail)
      refine ⟨[0], ?_, rfl, rfl, ?_, rfl⟩
      · (repeat' (first | exact trivial | exact ren_z8 | exact ren_zi | exact ren_z32 | exact ren_z64 | refine And.intro ?_ ?_ | (refine wk_tup ?_) | (refine wk_agg ?_) | (refine wk_cons ?_ ?_))) <;> first | exact ren_z8 | exact ren_zi | exact ren_z32 | exact ren_z64 | rfl | exact wk_i (by first | rfl | omega | (simp; done) | (simp; omega) | fail) | exact wk_sl rfl (by first | rfl | omega | (simp; done) | (simp; omega) | fail) (by first | rfl | omega | (simp; done) | (simp; omega) | fail) | exact ren_eq (by first | rfl | (simp; done) | fail) (by first | rfl | omega | (simp; done) | (simp; omega) | fail) | exact ren_app2 (by first | rfl | (simp; done) | fail) (by first | rfl | (simp; done) | fail) rfl | exact wk_u64 (by first | rfl | omega | (simp; done) | (simp; omega) | fail) | exact wk_u8 (by first | rfl | omega | (simp; done) | (simp; omega) | fail) | exact wk_u32 (by first | rfl | omega | (simp; done) | (simp; omega) | fail) | exact wk_b (by first | rfl | omega | (simp; done) | (simp; omega) | fail) | exact ren_m8 (by first | rfl | omega | (simp; done) | (simp; omega) | fail) | exact ren_m32 (by first | rfl | omega | (simp; done) | (simp; omega) | fail) | exact ren_m64 (by first | rfl | omega | (simp; done) | (simp; omega) | fail) | exact ren_mi (by first | rfl | omega | (simp; done) | (simp; omega) | fail) | skip
      · (repeat' (first | exact trivial | exact ren_z8 | exact ren_zi | exact ren_z32 | exact ren_z64 | refine And.intro ?_ ?_ | (refine wk_tup ?_) | (refine wk_agg ?_) | (refine wk_cons ?_ ?_))) <;> first | exact ren_z8 | exact ren_zi | exact ren_z32 | exact ren_z64 | rfl | exact wk_i (by first | rfl | omega | (simp; done) | (simp; omega) | fail) | exact wk_sl rfl (by first | rfl | omega | (simp; done) | (simp; omega) | fail) (by first | rfl | omega | (simp; done) | (simp; omega) | fail) | exact ren_eq (by first | rfl | (simp; done) | fail) (by first | rfl | omega | (simp; done) | (simp; omega) | fail) | exact ren_app2 (by first | rfl | (simp; done) | fail) (by first | rfl | (simp; done) | fail) rfl | exact wk_u64 (by first | rfl | omega | (simp; done) | (simp; omega) | fail) | exact wk_u8 (by first | rfl | omega | (simp; done) | (simp; omega) | fail) | exact wk_u32 (by first | rfl | omega | (simp; done) | (simp; omega) | fail) | exact wk_b (by first | rfl | omega | (simp; done) | (simp; omega) | fail) | exact ren_m8 (by first | rfl | omega | (simp; done) | (simp; omega) | fail) | exact ren_m32 (by first | rfl | omega | (simp; done) | (simp; omega) | fail) | exact ren_m64 (by first | rfl | omega | (simp; done) | (simp; omega) | fail) | exact ren_mi (by first | rfl | omega | (simp; done) | (simp; omega) | fail) | skip
end Go.Sh
/- field's reference: Reduce (f84). -/
namespace Go.Sh
open Go.Proofs
set_option maxHeartbeats 8000000
set_option linter.unusedSimpArgs false
set_option linter.unusedVariables false

def fp : Nat → UInt64
  | 0 => 1
  | j + 1 => 38 * fp j
/-- What the k-th of 16 has of the first i parts. -/
def xi (l : List UInt64) : Nat → Nat → UInt64
  | 0, _ => 0
  | i + 1, k => if i % 16 = k then xi l i k + l.getD i 0 * fp (i / 16) else xi l i k
def xiL (l : List UInt64) (i : Nat) : List UInt64 := (List.range 16).map (xi l i)
theorem xiL_len (l : List UInt64) (i : Nat) : (xiL l i).length = 16 := rng_len
theorem xiL_0 (l : List UInt64) : xiL l 0 = List.replicate 16 0 := rfl
theorem xiL_s (l : List UInt64) (i : Nat) : (xiL l i).set (i % 16) ((xiL l i).getD (i % 16) 0 + l.getD i 0 * fp (i / 16)) = xiL l (i + 1) := by
  unfold xiL
  rw [rng_getD (by omega)]
  apply List.ext_getElem?
  intro k
  rw [List.getElem?_set]
  by_cases hk : k < 16
  · rw [List.getElem?_map, List.getElem?_range hk, List.getElem?_map, List.getElem?_range hk]
    simp only [Option.map_some, List.length_map, List.length_range]
    by_cases he : i % 16 = k
    · subst he
      rw [if_pos rfl, if_pos (by omega)]
      show some _ = some (if i % 16 = i % 16 then _ else _)
      rw [if_pos rfl]
    · rw [if_neg he]
      show some _ = some (if i % 16 = k then _ else _)
      rw [if_neg he]
  · have h1 : ((List.range 16).map (xi l i)).length = 16 := rng_len
    have h2 : ((List.range 16).map (xi l (i + 1))).length = 16 := rng_len
    rw [if_neg (by omega), List.getElem?_eq_none (by omega), List.getElem?_eq_none (by omega)]
theorem fp_0 : fp 0 = 1 := rfl
theorem fp_s (j : Nat) : fp (j + 1) = 38 * fp j := rfl
theorem rdN_len {l : List UInt64} (h : l.length = 16) : ∀ n, (rdN l n).length = 16
  | 0 => h
  | n + 1 => rd1_len _
theorem rd1_set (l : List UInt64) : ((List.range 16).map (rdg l)).set 0 (((List.range 16).map (rdg l)).getD 0 0 + 38 * rc l 16) = rd1 l := by
  unfold rd1
  rw [rng_getD (by omega)]
  rfl
theorem t16 (i : Nat) (h : i < 64) : (i : Int).tmod 16 = ((i % 16 : Nat) : Int) ∧ w64 ((i : Int).tdiv 16) = ((i / 16 : Nat) : Int) := by
  have : ∀ i : Nat, i < 64 → (i : Int).tmod 16 = ((i % 16 : Nat) : Int) ∧ w64 ((i : Int).tdiv 16) = ((i / 16 : Nat) : Int) := by decide +kernel
  exact this i h
theorem rc_s (l : List UInt64) (i : Nat) : rc l (i + 1) = (l.getD i 0 + rc l i) / 65536 := rfl
theorem sbw_s (l : List UInt64) (i : Nat) : sbw l (i + 1) = 1 - (65536 + l.getD i 0 - pp.getD i 0 - sbw l i) / 65536 := rfl
theorem rc_0 (l : List UInt64) : rc l 0 = 0 := rfl
theorem rdg_e (l : List UInt64) (i : Nat) : rdg l i = (l.getD i 0 + rc l i) % 65536 := rfl
theorem sdg_e (l : List UInt64) (i : Nat) : sdg l i = (65536 + l.getD i 0 - pp.getD i 0 - sbw l i) % 65536 := rfl
theorem sbw_0 (l : List UInt64) : sbw l 0 = 0 := rfl
attribute [local irreducible] xiL rc rdg rd1 sbw sdg dg pp fp
theorem f84 (l : List UInt64) (hl : l.length = 16 ∨ l.length = 32) (W : Nat) (hW : W < 65536 ^ 16) (hrd : rdN (xiL l l.length) 4 = dg W) (f : Bool) :
    SCall Try.prog 84 [.sl 0 0 l.length 1 f] [some (.ro (l.map .u64))] (.sl 1 0 16 1 true) [some (.ro (l.map .u64)), some (.row 25 ((dg (W % P25519)).map .u64))] := by
  have hl32 : l.length ≤ 32 := by omega
  refine scall_of ttOk (by kernel_rfl : Try.prog.funcs[84]? = some Try.f84) rfl rfl rfl ?_
  try simp only [List.length_cons, List.length_nil, Nat.zero_add, Nat.reduceAdd]
  refine sw_ok ttOk mixed (by kernel_rfl) ?_
  conv => whnf
  repeat (first | (refine And.intro ⟨by first | omega | fail, by first | decide | fail⟩ ?_; conv => whnf) | fail)
  refine loop_rule ttOk mixed (by kernel_rfl) (ι := { i : Nat // i ≤ l.length }) (fun i => [(0, .sl 0 0 l.length 1 f), (3, .sl 1 0 16 1 true), (4, .i (i.1 : Int))]) (fun i => [some (.ro (l.map .u64)), some (.row 25 ((xiL l i.1).map .u64))]) (fun _ => 2) (fun i => l.length - i.1) ⟨0, by omega⟩ ?_ ?_
  · have hz := xiL_0 l
    dsimp only
    rw [hz]
    refine Weak.sel [0, 1] rfl rfl ?_ ?_ rfl rfl
    · (repeat' (first | exact trivial | refine And.intro ?_ ?_ | fail)) <;> first | rfl | fail
    · (repeat' (first | exact trivial | exact ren_z64 | refine And.intro ?_ ?_ | fail)) <;> first | rfl | exact ren_eq (by first | (simp; done) | fail) (by first | rfl | fail) | fail
  · rintro ⟨i, hi⟩
    have hxl := xiL_len l i
    dsimp only
    by_cases hi2 : i < l.length
    · have hlt : decide ((i : Int) < (l.length : Int)) = true := by simp; omega
      have hp1 : w64 ((i : Int) + 1) = ((i + 1 : Nat) : Int) := by simp only [w64_eq]; omega
      obtain ⟨hm, hd⟩ := t16 i (by omega)
      have hst := xiL_s l i
      conv => whnf
      first | refine brT (by exact hlt) ?_ | fail
      conv => whnf
      repeat (first | (refine Exists.intro _ (And.intro rfl ?_); conv => whnf) | fail)
      refine loop_rule ttOk mixed (by kernel_rfl) (ι := { j : Nat // j ≤ i / 16 }) (fun j => [(0, .sl 0 0 l.length 1 f), (3, .sl 1 0 16 1 true), (4, .i (i : Int)), (5, .i ((i % 16 : Nat) : Int)), (6, .u64 (fp j.1)), (7, .i (j.1 : Int))]) (fun _ => [some (.ro (l.map .u64)), some (.row 25 ((xiL l i).map .u64))]) (fun _ => 2) (fun j => i / 16 - j.1) ⟨0, by omega⟩ ?_ ?_
      · have hf0 : fp 0 = 1 := fp_0
        refine Weak.sel [0, 1] rfl rfl ?_ ?_ rfl rfl
        · (repeat' (first | exact trivial | refine And.intro ?_ ?_ | fail)) <;> first | exact wk_i (by first | exact hm | fail) | exact wk_u64 (by first | exact hf0 | fail) | rfl | fail
        · (repeat' (first | exact trivial | refine And.intro ?_ ?_ | fail)) <;> first | rfl | exact ren_eq (by first | (simp; done) | fail) (by first | rfl | fail) | fail
      · rintro ⟨j, hj⟩
        dsimp only
        by_cases hj2 : j < i / 16
        · have hlt2 : decide ((j : Int) < w64 ((i : Int).tdiv 16)) = true := by rw [hd]; simp; omega
          have hp2 : w64 ((j : Int) + 1) = ((j + 1 : Nat) : Int) := by simp only [w64_eq]; omega
          have hfs := fp_s j
          conv => whnf
          repeat (first | (refine Exists.intro _ (And.intro rfl ?_); conv => whnf) | fail)
          first | refine brT (by exact hlt2) ?_ | fail
          conv => whnf
          repeat (fail)
          refine ⟨⟨j + 1, by omega⟩, by simp only; omega, ?_⟩
          refine Weak.sel [0, 1] rfl rfl ?_ ?_ rfl rfl
          · (repeat' (first | exact trivial | refine And.intro ?_ ?_ | fail)) <;> first | exact wk_i (by first | exact hp2 | exact hp2.symm | fail) | exact wk_u64 (by first | exact hfs.symm | exact hfs.symm.symm | fail) | rfl | fail
          · (repeat' (first | exact trivial | refine And.intro ?_ ?_ | fail)) <;> first | rfl | exact ren_eq (by first | (simp; done) | fail) (by first | rfl | fail) | fail
        · obtain rfl : j = i / 16 := by omega
          have hlt2 : decide (((i / 16 : Nat) : Int) < w64 ((i : Int).tdiv 16)) = false := by rw [hd]; simp
          conv => whnf
          repeat (first | (refine Exists.intro _ (And.intro rfl ?_); conv => whnf) | fail)
          first | refine brF (by exact hlt2) ?_ | fail
          conv => whnf
          repeat (first | (refine Exists.intro _ (And.intro (sput_m64 (i := i % 16) (by first | rfl | omega | fail)) ?_); conv => whnf) | (refine Exists.intro _ (And.intro (sload_u64 (i := i % 16) (by first | rfl | omega | fail) (by first | omega | fail)) ?_); conv => whnf) | (refine Exists.intro _ (And.intro (idx_i (m := i % 16) (by first | rfl | fail)) ?_); conv => whnf) | (refine Exists.intro _ (And.intro (sload_u64 (i := i) (by first | rfl | omega | fail) (by first | omega | fail)) ?_); conv => whnf) | (refine Exists.intro _ (And.intro (idx_i (m := i) (by first | rfl | fail)) ?_); conv => whnf) | (refine And.intro (by first | omega | (simp; omega) | fail) ?_; conv => whnf) | (refine And.intro (by kernel_rfl) ?_; conv => whnf) | fail)
          refine ⟨⟨i + 1, by omega⟩, by simp only; omega, ?_⟩
          refine Weak.sel [0, 1] rfl rfl ?_ ?_ rfl rfl
          · (repeat' (first | exact trivial | refine And.intro ?_ ?_ | fail)) <;> first | exact wk_i (by first | exact hp1 | exact hp1.symm | fail) | rfl | fail
          · (repeat' (first | exact trivial | refine And.intro ?_ ?_ | fail)) <;> first | rfl | exact ren_eq (by first | (simp; done) | fail) (by first | rfl | fail) | exact ren_m64 (by first | exact hst.symm | fail) | fail
    · obtain rfl : i = l.length := by omega
      obtain ⟨X, hX⟩ : ∃ X, X = xiL l l.length := ⟨_, rfl⟩
      rw [← hX] at hxl hrd ⊢
      have hlt : decide ((l.length : Int) < (l.length : Int)) = false := by simp
      conv => whnf
      first | refine brF (by exact hlt) ?_ | fail
      conv => whnf
      repeat (fail)
      refine loop_rule ttOk mixed (by kernel_rfl) (ι := { r : Nat // r ≤ 4 }) (fun r => [(3, .sl 1 0 16 1 true), (8, .i (r.1 : Int))]) (fun r => [some (.ro (l.map .u64)), some (.row 25 ((rdN X r.1).map .u64))]) (fun _ => 2) (fun r => 4 - r.1) ⟨0, by omega⟩ ?_ ?_
      · refine Weak.sel [0, 1] rfl rfl ?_ ?_ rfl rfl
        · (repeat' (first | exact trivial | refine And.intro ?_ ?_ | fail)) <;> first | rfl | fail
        · (repeat' (first | exact trivial | refine And.intro ?_ ?_ | fail)) <;> first | rfl | exact ren_eq (by first | (simp; done) | fail) (by first | rfl | fail) | fail
      · rintro ⟨r, hr⟩
        obtain ⟨Y, hY⟩ : ∃ Y, Y = rdN X r := ⟨_, rfl⟩
        have hYl : Y.length = 16 := by rw [hY]; exact rdN_len hxl r
        dsimp only
        rw [← hY]
        by_cases hr2 : r < 4
        · have hlt : decide ((r : Int) < 4) = true := by simp; omega
          have hp1 : w64 ((r : Int) + 1) = ((r + 1 : Nat) : Int) := by simp only [w64_eq]; omega
          have hYs : rdN X (r + 1) = rd1 Y := by rw [hY]; rfl
          conv => whnf
          first | refine brT (by exact hlt) ?_ | fail
          conv => whnf
          repeat (fail)
          refine loop_rule ttOk mixed (by kernel_rfl) (ι := { i : Nat // i ≤ 16 }) (fun i => [(3, .sl 1 0 16 1 true), (8, .i (r : Int)), (9, .u64 (rc Y i.1)), (10, .i (i.1 : Int))]) (fun i => [some (.ro (l.map .u64)), some (.row 25 ((fil 16 i.1 (rdg Y) (fun j => Y.getD j 0)).map .u64))]) (fun _ => 2) (fun i => 16 - i.1) ⟨0, by omega⟩ ?_ ?_
          · have hz : fil 16 0 (rdg Y) (fun j => Y.getD j 0) = Y := fil_of_list hYl
            have hz2 := rc_0 Y
            dsimp only
            rw [hz]
            refine Weak.sel [0, 1] rfl rfl ?_ ?_ rfl rfl
            · (repeat' (first | exact trivial | refine And.intro ?_ ?_ | fail)) <;> first | exact wk_u64 (by first | exact hz2 | fail) | rfl | fail
            · (repeat' (first | exact trivial | refine And.intro ?_ ?_ | fail)) <;> first | rfl | exact ren_eq (by first | (simp; done) | fail) (by first | rfl | fail) | fail
          · rintro ⟨i, hi⟩
            have hfl := fil_len 16 i (rdg Y) (fun j => Y.getD j 0)
            dsimp only
            by_cases hi2 : i < 16
            · have hlt2 : decide ((i : Int) < 16) = true := by simp; omega
              have hp2 : w64 ((i : Int) + 1) = ((i + 1 : Nat) : Int) := by simp only [w64_eq]; omega
              have hg0 : (fil 16 i (rdg Y) (fun j => Y.getD j 0)).getD i 0 = Y.getD i 0 := by rw [fil_getD hi2, if_neg (by omega)]
              have hsl : ∀ z, ((fil 16 i (rdg Y) (fun j => Y.getD j 0)).set i z).length = 16 := fun z => by rw [List.length_set]; exact hfl
              have hgs : ∀ z, ((fil 16 i (rdg Y) (fun j => Y.getD j 0)).set i z).getD i 0 = z := fun z => by rw [List.getD_eq_getElem?_getD, List.getElem?_set_self (by omega)]; rfl
              have hs1 := hsl ((fil 16 i (rdg Y) (fun j => Y.getD j 0)).getD i 0 + rc Y i)
              have hcs := rc_s Y i
              have hst : ((fil 16 i (rdg Y) (fun j => Y.getD j 0)).set i ((fil 16 i (rdg Y) (fun j => Y.getD j 0)).getD i 0 + rc Y i)).set i (((fil 16 i (rdg Y) (fun j => Y.getD j 0)).set i ((fil 16 i (rdg Y) (fun j => Y.getD j 0)).getD i 0 + rc Y i)).getD i 0 % 65536) = fil 16 (i + 1) (rdg Y) (fun j => Y.getD j 0) := by
                rw [hgs, List.set_set, hg0]
                exact fil_setx (f := rdg Y) hi2 (rdg_e Y i).symm
              have hct : ((fil 16 i (rdg Y) (fun j => Y.getD j 0)).set i ((fil 16 i (rdg Y) (fun j => Y.getD j 0)).getD i 0 + rc Y i)).getD i 0 / 65536 = rc Y (i + 1) := by rw [hgs, hg0, hcs]
              conv => whnf
              first | refine brT (by exact hlt2) ?_ | fail
              conv => whnf
              repeat (first | (refine Exists.intro _ (And.intro (sput_m64 (i := i) (by first | rfl | omega | fail)) ?_); conv => whnf) | (refine Exists.intro _ (And.intro (sload_u64 (i := i) (by first | rfl | omega | fail) (by first | omega | fail)) ?_); conv => whnf) | (refine Exists.intro _ (And.intro (idx_i (m := i) (by first | rfl | fail)) ?_); conv => whnf) | (refine Exists.intro _ (And.intro rfl ?_); conv => whnf) | (refine And.intro (by first | omega | fail) ?_; conv => whnf) | (refine And.intro ⟨by first | exact @rfl Nat _ | fail, by first | (simp only [hfl, ti5_sz, ti25_sz, List.length_map, List.length_set]; omega) | fail⟩ ?_; conv => whnf) | fail)
              refine ⟨⟨i + 1, by omega⟩, by simp only; omega, ?_⟩
              refine Weak.sel [0, 1] rfl rfl ?_ ?_ rfl rfl
              · (repeat' (first | exact trivial | refine And.intro ?_ ?_ | fail)) <;> first | exact wk_i (by first | exact hp2 | exact hp2.symm | fail) | exact wk_u64 (by first | exact hct | exact hct.symm | fail) | rfl | fail
              · (repeat' (first | exact trivial | refine And.intro ?_ ?_ | fail)) <;> first | rfl | exact ren_eq (by first | rfl | (simp; done) | fail) (by first | rfl | fail) | exact ren_m64 (by first | exact hst.symm | fail) | fail
            · obtain rfl : i = 16 := by omega
              have hrs := rd1_set Y
              have hfu : fil 16 16 (rdg Y) (fun j => Y.getD j 0) = (List.range 16).map (rdg Y) := fil_full ..
              have hrl : ((List.range 16).map (rdg Y)).length = 16 := rng_len
              rw [hfu]
              conv => whnf
              first | refine brF (by rfl) ?_ | fail
              conv => whnf
              repeat (first | (refine Exists.intro _ (And.intro (sput_m64 (i := 0) (by first | rfl | fail)) ?_); conv => whnf) | (refine Exists.intro _ (And.intro (sload_u64 (i := 0) (by first | rfl | fail) (by first | omega | fail)) ?_); conv => whnf) | (refine Exists.intro _ (And.intro (idx_i (m := 0) (by first | rfl | fail)) ?_); conv => whnf) | (refine And.intro (by first | omega | (simp; done) | fail) ?_; conv => whnf) | fail)
              refine ⟨⟨r + 1, by omega⟩, by simp only; omega, ?_⟩
              dsimp only
              rw [hYs]
              refine Weak.sel [0, 1] rfl rfl ?_ ?_ rfl rfl
              · (repeat' (first | exact trivial | refine And.intro ?_ ?_ | fail)) <;> first | exact wk_i (by first | exact hp1 | exact hp1.symm | fail) | rfl | fail
              · (repeat' (first | exact trivial | refine And.intro ?_ ?_ | fail)) <;> first | rfl | exact ren_eq (by first | (simp; done) | fail) (by first | rfl | fail) | exact ren_m64 (by first | exact hrs.symm | fail) | fail
        · obtain rfl : r = 4 := by omega
          rw [hrd] at hY
          rw [hY]
          conv => whnf
          first | refine brF (by rfl) ?_ | fail
          conv => whnf
          repeat (fail)
          refine loop_rule ttOk mixed (by kernel_rfl) (ι := { w : Nat // w < 65536 ^ 16 ∧ w % P25519 = W % P25519 }) (fun _ => [(11, .sl 1 0 16 1 true)]) (fun w => [some (.ro (l.map .u64)), some (.row 25 ((dg w.1).map .u64))]) (fun _ => 2) (fun w => w.1) ⟨W, hW, rfl⟩ ?_ ?_
          · refine Weak.sel [0, 1] rfl rfl ?_ ?_ rfl rfl
            · (repeat' (first | exact trivial | refine And.intro ?_ ?_ | fail)) <;> first | rfl | fail
            · (repeat' (first | exact trivial | refine And.intro ?_ ?_ | fail)) <;> first | rfl | exact ren_eq (by first | (simp; done) | fail) (by first | rfl | fail) | fail
          · rintro ⟨w, hw, hwm⟩
            have h126 := f126 w hw true
            have hdl := dg_len w
            dsimp only
            by_cases hwP : w < P25519
            · rw [decide_eq_true hwP] at h126
              have hwe : w = W % P25519 := by rw [← hwm, Nat.mod_eq_of_lt hwP]
              rw [← hwe]
              conv => whnf
              refine ok1_callF [1] [false] true (h126) rfl rfl ⟨⟨rfl, by first | rfl | fail⟩, by (repeat' (first | exact trivial | refine And.intro ?_ ?_)) <;> first | exact ren_eq (by first | (simp; done) | fail) (by first | rfl | fail) | fail, by first | rfl | fail, by first | rfl | fail, ?_⟩
              conv => whnf
              repeat (first | (refine brF rfl ?_; conv => whnf) | fail)
              refine ⟨[0, 1], ?_, rfl, rfl, ?_, rfl⟩
              · (repeat' (fail)) <;> first | rfl | fail
              · (repeat' (first | exact trivial | refine And.intro ?_ ?_ | fail)) <;> first | rfl | exact ren_eq (by first | (simp; done) | fail) (by first | rfl | fail) | fail
            · rw [decide_eq_false hwP] at h126
              conv => whnf
              refine ok1_callF [1] [false] true (h126) rfl rfl ⟨⟨rfl, by first | rfl | fail⟩, by (repeat' (first | exact trivial | refine And.intro ?_ ?_)) <;> first | exact ren_eq (by first | (simp; done) | fail) (by first | rfl | fail) | fail, by first | rfl | fail, by first | rfl | fail, ?_⟩
              conv => whnf
              repeat (first | (refine brT rfl ?_; conv => whnf) | fail)
              refine ok1_callF [] [true] false (f89) rfl rfl ⟨⟨rfl, by first | rfl | fail⟩, trivial, by first | simp [plainHf, plainB], by first | rfl | fail, ?_⟩
              conv => whnf
              repeat (fail)
              refine loop_rule ttOk mixed (by kernel_rfl) (ι := { i : Nat // i ≤ 16 }) (fun i => [(11, .sl 1 0 16 1 true), (12, .sl 2 0 16 1 true), (13, .u64 (sbw (dg w) i.1)), (14, .i (i.1 : Int))]) (fun i => [some (.ro (l.map .u64)), some (.row 25 ((fil 16 i.1 (sdg (dg w)) (fun j => (dg w).getD j 0)).map .u64)), some (.row 25 (pp.map .u64))]) (fun _ => 3) (fun i => 16 - i.1) ⟨0, by omega⟩ ?_ ?_
              · have hz : fil 16 0 (sdg (dg w)) (fun j => (dg w).getD j 0) = dg w := fil_of_list hdl
                have hz2 := sbw_0 (dg w)
                dsimp only
                rw [hz]
                refine Weak.sel [0, 1, 2] rfl rfl ?_ ?_ rfl rfl
                · (repeat' (first | exact trivial | refine And.intro ?_ ?_ | fail)) <;> first | exact wk_u64 (by first | exact hz2 | fail) | rfl | fail
                · (repeat' (first | exact trivial | refine And.intro ?_ ?_ | fail)) <;> first | rfl | exact ren_eq (by first | (simp; done) | fail) (by first | rfl | fail) | fail
              · rintro ⟨i, hi⟩
                have hfl := fil_len 16 i (sdg (dg w)) (fun j => (dg w).getD j 0)
                have hpl := pp_len
                dsimp only
                by_cases hi2 : i < 16
                · have hlt2 : decide ((i : Int) < 16) = true := by simp; omega
                  have hp2 : w64 ((i : Int) + 1) = ((i + 1 : Nat) : Int) := by simp only [w64_eq]; omega
                  have hg0 : (fil 16 i (sdg (dg w)) (fun j => (dg w).getD j 0)).getD i 0 = (dg w).getD i 0 := by rw [fil_getD hi2, if_neg (by omega)]
                  have hct : 1 - (65536 + (fil 16 i (sdg (dg w)) (fun j => (dg w).getD j 0)).getD i 0 - pp.getD i 0 - sbw (dg w) i) / 65536 = sbw (dg w) (i + 1) := by rw [hg0, sbw_s]
                  have hst : (fil 16 i (sdg (dg w)) (fun j => (dg w).getD j 0)).set i ((65536 + (fil 16 i (sdg (dg w)) (fun j => (dg w).getD j 0)).getD i 0 - pp.getD i 0 - sbw (dg w) i) % 65536) = fil 16 (i + 1) (sdg (dg w)) (fun j => (dg w).getD j 0) := by
                    rw [hg0]
                    exact fil_setx (f := sdg (dg w)) hi2 (sdg_e (dg w) i).symm
                  conv => whnf
                  first | refine brT (by exact hlt2) ?_ | fail
                  conv => whnf
                  repeat (first | (refine Exists.intro _ (And.intro (sput_m64 (i := i) (by first | rfl | omega | fail)) ?_); conv => whnf) | (refine Exists.intro _ (And.intro (sload_u64 (i := i) (by first | rfl | omega | fail) (by first | omega | fail)) ?_); conv => whnf) | (refine Exists.intro _ (And.intro (idx_i (m := i) (by first | rfl | fail)) ?_); conv => whnf) | (refine Exists.intro _ (And.intro rfl ?_); conv => whnf) | (refine And.intro (by first | omega | fail) ?_; conv => whnf) | (refine And.intro (by kernel_rfl) ?_; conv => whnf) | (refine And.intro ⟨by first | exact @rfl Nat _ | fail, by first | (simp only [hfl, hpl, ti5_sz, ti25_sz, List.length_map, List.length_set]; omega) | fail⟩ ?_; conv => whnf) | fail)
                  refine ⟨⟨i + 1, by omega⟩, by simp only; omega, ?_⟩
                  refine Weak.sel [0, 1, 2] rfl rfl ?_ ?_ rfl rfl
                  · (repeat' (first | exact trivial | refine And.intro ?_ ?_ | fail)) <;> first | exact wk_i (by first | exact hp2 | exact hp2.symm | fail) | exact wk_u64 (by first | exact hct | exact hct.symm | fail) | rfl | fail
                  · (repeat' (first | exact trivial | refine And.intro ?_ ?_ | fail)) <;> first | rfl | exact ren_eq (by first | rfl | (simp; done) | fail) (by first | rfl | fail) | exact ren_m64 (by first | exact hst.symm | fail) | fail
                · obtain rfl : i = 16 := by omega
                  have hfu : fil 16 16 (sdg (dg w)) (fun j => (dg w).getD j 0) = dg (w - P25519) := by
                    rw [fil_full]; exact subP_val (by omega) hw
                  rw [hfu]
                  have hP : 0 < P25519 := by decide
                  conv => whnf
                  first | refine brF (by rfl) ?_ | fail
                  conv => whnf
                  repeat (fail)
                  refine ⟨⟨w - P25519, by omega, by rw [← hwm, ← Nat.mod_eq_sub_mod (by omega)]⟩, by simp only; omega, ?_⟩
                  refine Weak.sel [0, 1] rfl rfl ?_ ?_ rfl rfl
                  · (repeat' (first | exact trivial | refine And.intro ?_ ?_ | fail)) <;> first | rfl | fail
                  · (repeat' (first | exact trivial | refine And.intro ?_ ?_ | fail)) <;> first | rfl | exact ren_eq (by first | (simp; done) | fail) (by first | rfl | fail) | fail
end Go.Sh
/- field's reference: sums, differences, products of parts, plainly. -/
namespace Go.Sh
set_option maxHeartbeats 4000000
set_option linter.unusedSimpArgs false
set_option linter.unusedVariables false

theorem pv_add {B : Nat} (a b : Nat → Nat) (c : Nat) : ∀ n, pv B (fun i => a i + c * b i) n = pv B a n + c * pv B b n
  | 0 => by simp [pv]
  | n + 1 => by
    show pv B _ n + (a n + c * b n) * B ^ n = pv B a n + a n * B ^ n + c * (pv B b n + b n * B ^ n)
    rw [pv_add a b c n]; grind
theorem pv_ge {B : Nat} {a b : Nat → Nat} : ∀ n, (∀ i, i < n → a i ≤ b i) → pv B a n ≤ pv B b n
  | 0, _ => Nat.le_refl _
  | n + 1, h => Nat.add_le_add (pv_ge n fun i hi => h i (by omega)) (Nat.mul_le_mul_right _ (h n (by omega)))
def gn (l : List UInt64) (i : Nat) : Nat := (l.getD i 0).toNat
theorem rv_gn (l : List UInt64) : rv l = pv 65536 (gn l) 16 := rfl
theorem xi_16 (l : List UInt64) : ∀ i, i ≤ 16 → ∀ k, k < 16 → xi l i k = if k < i then l.getD k 0 else 0
  | 0, _, k, hk => by simp [xi]
  | i + 1, h, k, hk => by
    show (if i % 16 = k then xi l i k + l.getD i 0 * fp (i / 16) else xi l i k) = _
    rw [xi_16 l i (by omega) k hk, show i % 16 = i by omega, show i / 16 = 0 by omega]
    by_cases he : i = k
    · subst he
      rw [if_pos rfl, if_neg (by omega), if_pos (by omega), fp_0, UInt64.mul_one, UInt64.zero_add]
    · rw [if_neg he]
      by_cases h2 : k < i
      · rw [if_pos h2, if_pos (by omega)]
      · rw [if_neg h2, if_neg (by omega)]
theorem fp_1 : fp 1 = 38 := rfl
theorem xi_32 (l : List UInt64) : ∀ i, i ≤ 16 → ∀ k, k < 16 → xi l (16 + i) k = if k < i then l.getD k 0 + l.getD (16 + k) 0 * 38 else l.getD k 0
  | 0, _, k, hk => by rw [Nat.add_zero, xi_16 l 16 (by omega) k hk, if_pos hk]; simp
  | i + 1, h, k, hk => by
    show (if (16 + i) % 16 = k then xi l (16 + i) k + l.getD (16 + i) 0 * fp ((16 + i) / 16) else xi l (16 + i) k) = _
    rw [xi_32 l i (by omega) k hk, show (16 + i) % 16 = i by omega, show (16 + i) / 16 = 1 by omega]
    by_cases he : i = k
    · subst he
      rw [if_pos rfl, if_neg (by omega), if_pos (by omega), fp_1]
    · rw [if_neg he]
      by_cases h2 : k < i
      · rw [if_pos h2, if_pos (by omega)]
      · rw [if_neg h2, if_neg (by omega)]
theorem red16 {l : List UInt64} (hl : l.length = 16) (hb : ∀ i, i < 16 → gn l i < 35184372088832) : ∃ W, W < 65536 ^ 16 ∧ rdN (xiL l l.length) 4 = dg W ∧ W % P25519 = rv l % P25519 := by
  have hx : ∀ k, k < 16 → (xiL l 16).getD k 0 = l.getD k 0 := fun k hk => by
    unfold xiL; rw [rng_getD hk, xi_16 l 16 (by omega) k hk, if_pos hk]
  obtain ⟨W, h1, h2, h3⟩ := rdN_val (l := xiL l 16) (fun i hi => by rw [hx i hi]; exact hb i hi)
  refine ⟨W, h1, by rw [hl]; exact h2, ?_⟩
  rw [h3]
  unfold rv
  rw [pv_congr (m := fun i => (l.getD i 0).toNat) 16 (fun i hi => by rw [hx i hi])]
theorem red32 {l : List UInt64} (hl : l.length = 32) (hb : ∀ i, i < 32 → gn l i < 274877906944) : ∃ W, W < 65536 ^ 16 ∧ rdN (xiL l l.length) 4 = dg W ∧ W % P25519 = pv 65536 (gn l) 32 % P25519 := by
  have hx : ∀ k, k < 16 → (xiL l 32).getD k 0 = l.getD k 0 + l.getD (16 + k) 0 * 38 := fun k hk => by
    unfold xiL; rw [rng_getD hk, xi_32 l 16 (by omega) k hk, if_pos hk]
  have hn : ∀ k, k < 16 → ((xiL l 32).getD k 0).toNat = gn l k + 38 * gn l (16 + k) := fun k hk => by
    have b1 := hb k (by omega)
    have b2 := hb (16 + k) (by omega)
    unfold gn at b1 b2 ⊢
    have m := mul_n (l.getD (16 + k) 0) 38 (by show _ * 38 < _; omega)
    rw [hx k hk, add_n _ _ (by rw [m]; show _ + _ * 38 < _; omega), m, Nat.mul_comm]; rfl
  obtain ⟨W, h1, h2, h3⟩ := rdN_val (l := xiL l 32) (fun i hi => by
    have b1 := hb i (by omega)
    have b2 := hb (16 + i) (by omega)
    rw [hn i hi]; omega)
  refine ⟨W, h1, by rw [hl]; exact h2, ?_⟩
  rw [h3]
  unfold rv
  rw [pv_congr (m := fun i => gn l i + 38 * gn l (16 + i)) 16 (fun i hi => hn i hi), pv_add]
  have hs := pv_split (B := 65536) (gn l) 16 16
  rw [show 16 + 16 = 32 from rfl, pow_B] at hs
  rw [hs]
  generalize pv 65536 (gn l) 16 = a
  generalize pv 65536 (fun i => gn l (16 + i)) 16 = b
  rw [show a + (2 * P25519 + 38) * b = a + 38 * b + 2 * b * P25519 by grind, Nat.add_mul_mod_self_right]
theorem gn_dg (v i : Nat) (h : i < 16) : gn (dg v) i = v / 65536 ^ i % 65536 := dg_get v i h
theorem gn_lt (v i : Nat) : gn (dg v) i < 65536 := by
  by_cases h : i < 16
  · rw [gn_dg v i h]; exact Nat.mod_lt _ (by decide)
  · unfold gn; rw [List.getD_eq_getElem?_getD, List.getElem?_eq_none (by rw [dg_len]; omega)]; decide
theorem P16 {v : Nat} (h : v < P25519) : v < 65536 ^ 16 := Nat.lt_trans h P_lt
/-- The sums of parts. -/
def sumP (u v : Nat) : List UInt64 := (List.range 16).map fun j => (dg u).getD j 0 + (dg v).getD j 0
theorem sumP_len (u v : Nat) : (sumP u v).length = 16 := rng_len
theorem sumP_ok {u v : Nat} (hu : u < P25519) (hv : v < P25519) : ∃ W, W < 65536 ^ 16 ∧ rdN (xiL (sumP u v) (sumP u v).length) 4 = dg W ∧ W % P25519 = (u + v) % P25519 := by
  have hg : ∀ i, i < 16 → gn (sumP u v) i = gn (dg u) i + 1 * gn (dg v) i := fun i hi => by
    have b1 := gn_lt u i
    have b2 := gn_lt v i
    unfold gn at b1 b2 ⊢
    unfold sumP
    rw [rng_getD hi, add_n _ _ (by omega), Nat.one_mul]
  obtain ⟨W, h1, h2, h3⟩ := red16 (sumP_len u v) (fun i hi => by have b1 := gn_lt u i; have b2 := gn_lt v i; rw [hg i hi]; omega)
  refine ⟨W, h1, h2, ?_⟩
  rw [h3, rv_gn, pv_congr (m := fun i => gn (dg u) i + 1 * gn (dg v) i) 16 hg, pv_add, ← rv_gn, ← rv_gn, rv_dg u (P16 hu), rv_dg v (P16 hv), Nat.one_mul]
/-! ### Products -/
def mP (x y : List UInt64) : Nat → Nat → UInt64
  | 0, _ => 0
  | i + 1, k => if i ≤ k ∧ k - i < 16 then mP x y i k + x.getD i 0 * y.getD (k - i) 0 else mP x y i k
/-- j products of the i-th row are in. -/
def mQ (x y : List UInt64) (i j k : Nat) : UInt64 := if i ≤ k ∧ k - i < j then mP x y i k + x.getD i 0 * y.getD (k - i) 0 else mP x y i k
def mQL (x y : List UInt64) (i j : Nat) : List UInt64 := (List.range 32).map (mQ x y i j)
theorem mQL_len (x y : List UInt64) (i j : Nat) : (mQL x y i j).length = 32 := rng_len
theorem mQL_00 (x y : List UInt64) : mQL x y 0 0 = List.replicate 32 0 := rfl
theorem mQL_16 (x y : List UInt64) (i : Nat) : mQL x y i 16 = mQL x y (i + 1) 0 := by
  unfold mQL
  apply List.map_congr_left
  intro k _
  show (if i ≤ k ∧ k - i < 16 then _ else _) = if i + 1 ≤ k ∧ k - (i + 1) < 0 then _ else mP x y (i + 1) k
  rw [if_neg (show ¬ (i + 1 ≤ k ∧ k - (i + 1) < 0) by omega)]
  rfl
theorem mQL_s (x y : List UInt64) (i j : Nat) (hi : i < 16) (hj : j < 16) : (mQL x y i j).set (i + j) ((mQL x y i j).getD (i + j) 0 + x.getD i 0 * y.getD j 0) = mQL x y i (j + 1) := by
  unfold mQL
  rw [rng_getD (by omega)]
  apply List.ext_getElem?
  intro k
  rw [List.getElem?_set]
  by_cases hk : k < 32
  · rw [List.getElem?_map, List.getElem?_range hk, List.getElem?_map, List.getElem?_range hk]
    simp only [Option.map_some, List.length_map, List.length_range]
    unfold mQ
    by_cases he : i + j = k
    · subst he
      rw [if_pos rfl, if_pos (by omega), if_neg (by omega), if_pos (by omega), show i + j - i = j by omega]
    · rw [if_neg he]
      by_cases h1 : i ≤ k ∧ k - i < j
      · rw [if_pos h1, if_pos (by omega)]
      · rw [if_neg h1, if_neg (by omega)]
  · have h1 : ((List.range 32).map (mQ x y i j)).length = 32 := rng_len
    have h2 : ((List.range 32).map (mQ x y i (j + 1))).length = 32 := rng_len
    rw [if_neg (by omega), List.getElem?_eq_none (by omega), List.getElem?_eq_none (by omega)]
theorem pv_zero {B : Nat} : ∀ n, pv B (fun _ => 0) n = 0
  | 0 => rfl
  | n + 1 => by show pv B _ n + 0 * _ = 0; rw [pv_zero n, Nat.zero_mul]
theorem pv_shift {B : Nat} (y : Nat → Nat) (i : Nat) : ∀ n, pv B (fun k => if i ≤ k ∧ k - i < 16 then y (k - i) else 0) n = if n ≤ i then 0 else B ^ i * pv B y (min (n - i) 16)
  | 0 => by rw [if_pos (Nat.zero_le i)]; rfl
  | n + 1 => by
    show pv B (fun k => if i ≤ k ∧ k - i < 16 then y (k - i) else 0) n + (if i ≤ n ∧ n - i < 16 then y (n - i) else 0) * B ^ n = _
    rw [pv_shift y i n]
    by_cases h1 : n + 1 ≤ i
    · rw [if_pos (show n ≤ i by omega), if_neg (show ¬ (i ≤ n ∧ n - i < 16) by omega), if_pos h1, Nat.zero_mul]
    · rw [if_neg h1]
      by_cases h2 : n - i < 16
      · rw [if_pos (show i ≤ n ∧ n - i < 16 by omega), show min (n + 1 - i) 16 = (n - i) + 1 by omega, show min (n - i) 16 = n - i by omega]
        show _ = B ^ i * (pv B y (n - i) + y (n - i) * B ^ (n - i))
        rw [Nat.mul_add, Nat.mul_left_comm, ← Nat.pow_add, show i + (n - i) = n by omega]
        by_cases h3 : n ≤ i
        · rw [if_pos h3, show n - i = 0 by omega]
          show 0 + _ = B ^ i * 0 + _
          rw [Nat.mul_zero]
        · rw [if_neg h3]
      · rw [if_neg (show ¬ (i ≤ n ∧ n - i < 16) by omega), if_neg (show ¬ n ≤ i by omega), show min (n - i) 16 = 16 by omega, show min (n + 1 - i) 16 = 16 by omega, Nat.zero_mul, Nat.add_zero]
theorem mP_val {u v : Nat} : ∀ i, i ≤ 16 → (∀ k, (mP (dg u) (dg v) i k).toNat ≤ i * 4294967296) ∧ pv 65536 (fun k => (mP (dg u) (dg v) i k).toNat) 32 = pv 65536 (gn (dg u)) i * pv 65536 (gn (dg v)) 16
  | 0, _ => ⟨fun _ => Nat.zero_le _, by
      rw [show (fun k => (mP (dg u) (dg v) 0 k).toNat) = (fun _ => 0) from rfl, pv_zero, show pv 65536 (gn (dg u)) 0 = 0 from rfl, Nat.zero_mul]⟩
  | i + 1, h => by
    obtain ⟨h1, h2⟩ := mP_val (u := u) (v := v) i (by omega)
    have hx := gn_lt u i
    have hs : ∀ k, (mP (dg u) (dg v) (i + 1) k).toNat = (mP (dg u) (dg v) i k).toNat + gn (dg u) i * (if i ≤ k ∧ k - i < 16 then gn (dg v) (k - i) else 0) := fun k => by
      show (if i ≤ k ∧ k - i < 16 then _ else _ : UInt64).toNat = _
      by_cases hc : i ≤ k ∧ k - i < 16
      · rw [if_pos hc, if_pos hc]
        have hy := gn_lt v (k - i)
        have hm : gn (dg u) i * gn (dg v) (k - i) ≤ 65535 * 65535 := Nat.mul_le_mul (by omega) (by omega)
        have hk := h1 k
        unfold gn at hm ⊢
        have m := mul_n ((dg u).getD i 0) ((dg v).getD (k - i) 0) (by omega)
        rw [add_n _ _ (by rw [m]; omega), m]
      · rw [if_neg hc, if_neg hc]; simp
    refine ⟨fun k => ?_, ?_⟩
    · rw [hs k]
      have hk := h1 k
      by_cases hc : i ≤ k ∧ k - i < 16
      · rw [if_pos hc]
        have hy := gn_lt v (k - i)
        have hm : gn (dg u) i * gn (dg v) (k - i) ≤ 65535 * 65535 := Nat.mul_le_mul (by omega) (by omega)
        generalize gn (dg u) i * gn (dg v) (k - i) = z at hm
        generalize (mP (dg u) (dg v) i k).toNat = z2 at hk
        clear hs h2
        omega
      · rw [if_neg hc, Nat.mul_zero, Nat.add_zero]; exact Nat.le_trans hk (Nat.mul_le_mul_right _ (Nat.le_succ i))
    · rw [pv_congr (m := fun k => (mP (dg u) (dg v) i k).toNat + gn (dg u) i * (if i ≤ k ∧ k - i < 16 then gn (dg v) (k - i) else 0)) 32 (fun k _ => hs k), pv_add, h2, pv_shift, if_neg (by omega), show min (32 - i) 16 = 16 by omega]
      show _ = (pv 65536 (gn (dg u)) i + gn (dg u) i * 65536 ^ i) * _
      rw [Nat.add_mul, Nat.mul_assoc]
theorem mul_ok {u v : Nat} (hu : u < P25519) (hv : v < P25519) : ∃ W, W < 65536 ^ 16 ∧ rdN (xiL (mQL (dg u) (dg v) 16 0) (mQL (dg u) (dg v) 16 0).length) 4 = dg W ∧ W % P25519 = u * v % P25519 := by
  obtain ⟨h1, h2⟩ := mP_val (u := u) (v := v) 16 (by omega)
  have hg : ∀ i, i < 32 → gn (mQL (dg u) (dg v) 16 0) i = (mP (dg u) (dg v) 16 i).toNat := fun i hi => by
    unfold gn mQL
    rw [rng_getD hi]
    unfold mQ
    rw [if_neg (by omega)]
  obtain ⟨W, g1, g2, g3⟩ := red32 (mQL_len (dg u) (dg v) 16 0) (fun i hi => by rw [hg i hi]; have := h1 i; omega)
  refine ⟨W, g1, g2, ?_⟩
  rw [g3, pv_congr (m := fun k => (mP (dg u) (dg v) 16 k).toNat) 32 hg, h2, ← rv_gn, ← rv_gn, rv_dg u (P16 hu), rv_dg v (P16 hv)]
end Go.Sh
/- field's reference: Small (f24), Add (f30), Mul (f32), Inverse (f33). -/
namespace Go.Sh
open Go.Proofs
set_option maxHeartbeats 8000000
set_option linter.unusedSimpArgs false
set_option linter.unusedVariables false

theorem small_dg (n : UInt32) : [n.toUInt64 % 65536, n.toUInt64 / 65536, 0, 0, 0, 0, 0, 0, 0, 0, 0, 0, 0, 0, 0, 0] = dg n.toNat := by
  have hn := UInt32.toNat_lt n
  have e0 : (n.toUInt64 % 65536).toNat = n.toNat % 65536 := by rw [UInt64.toNat_mod, UInt32.toNat_toUInt64]; rfl
  have e1 : (n.toUInt64 / 65536).toNat = n.toNat / 65536 := by rw [UInt64.toNat_div, UInt32.toNat_toUInt64]; rfl
  have hl : [n.toUInt64 % 65536, n.toUInt64 / 65536, 0, 0, 0, 0, 0, 0, 0, 0, 0, 0, 0, 0, 0, 0].length = 16 := rfl
  obtain ⟨a, ha⟩ : ∃ a, a = n.toUInt64 % 65536 := ⟨_, rfl⟩
  obtain ⟨b, hb⟩ : ∃ b, b = n.toUInt64 / 65536 := ⟨_, rfl⟩
  rw [← ha] at e0 ⊢
  rw [← hb] at e1 ⊢
  have hz : ∀ i, ([a, b, 0, 0, 0, 0, 0, 0, 0, 0, 0, 0, 0, 0, 0, 0] : List UInt64).getD (2 + i) 0 = 0 := fun i => by
    rw [Nat.add_comm]
    show (List.replicate 14 (0 : UInt64)).getD i 0 = 0
    rw [List.getD_eq_getElem?_getD, List.getElem?_replicate]
    split <;> rfl
  have h := dg_rv (l := [a, b, 0, 0, 0, 0, 0, 0, 0, 0, 0, 0, 0, 0, 0, 0]) rfl (fun i hi => by
    by_cases h0 : i = 0
    · subst h0; show a.toNat < _; rw [e0]; omega
    · by_cases h1 : i = 1
      · subst h1; show b.toNat < _; rw [e1]; omega
      · obtain ⟨k, rfl⟩ : ∃ k, i = 2 + k := ⟨i - 2, by omega⟩
        rw [hz k]; decide)
  have hv : rv [a, b, 0, 0, 0, 0, 0, 0, 0, 0, 0, 0, 0, 0, 0, 0] = n.toNat := by
    have hs := pv_split (B := 65536) (gn [a, b, 0, 0, 0, 0, 0, 0, 0, 0, 0, 0, 0, 0, 0, 0]) 2 14
    rw [rv_gn, show 16 = 2 + 14 from rfl, hs, pv_congr (m := fun _ => 0) 14 (fun i _ => by unfold gn; rw [hz i]; rfl), pv_zero]
    show 0 + a.toNat * 65536 ^ 0 + b.toNat * 65536 ^ 1 + _ = _
    rw [e0, e1, Nat.pow_zero, Nat.pow_one, Nat.mul_zero]
    omega
  rw [hv] at h
  exact h
attribute [local irreducible] dg sumP mQL
theorem f24 (n : UInt32) : SCall Try.prog 24 [.u32 n] [] (.sl 0 0 16 1 true) [some (.row 25 ((dg n.toNat).map .u64))] := by
  rw [← small_dg]
  refine scall_of ttOk (by kernel_rfl : Try.prog.funcs[24]? = some Try.f24) rfl rfl rfl ?_
  try simp only [List.length_cons, List.length_nil, Nat.zero_add, Nat.reduceAdd]
  refine sw_ok ttOk mixed (by kernel_rfl) ?_
  conv => whnf
  repeat (first | (refine Exists.intro _ (And.intro rfl ?_); conv => whnf) | (refine And.intro (by first | omega | (simp; done) | fail) ?_; conv => whnf) | (refine And.intro ⟨by first | omega | fail, by first | decide | fail⟩ ?_; conv => whnf) | fail)
  refine ⟨[0], ?_, rfl, rfl, ?_, rfl⟩
  · (repeat' (fail)) <;> first | rfl | fail
  · (repeat' (first | exact trivial | refine And.intro ?_ ?_ | (refine wk_cons ?_ ?_))) <;> first | rfl | fail
theorem sumP_f (u v : Nat) : fil 16 16 (fun j => (dg u).getD j 0 + (dg v).getD j 0) (fun _ => 0) = sumP u v := by unfold sumP; exact fil_full ..
theorem f30 {u v : Nat} (hu : u < P25519) (hv : v < P25519) (f g : Bool) : SCall Try.prog 30 [.sl 0 0 16 1 f, .sl 1 0 16 1 g] [some (.ro ((dg u).map .u64)), some (.ro ((dg v).map .u64))] (.sl 2 0 16 1 true) [some (.ro ((dg u).map .u64)), some (.ro ((dg v).map .u64)), some (.row 25 ((dg ((u + v) % P25519)).map .u64))] := by
  obtain ⟨W, w1, w2, w3⟩ := sumP_ok hu hv
  have h84 := f84 (sumP u v) (.inl (sumP_len u v)) W w1 w2 true
  rw [w3] at h84
  have hul := dg_len u
  have hvl := dg_len v
  have hsl := sumP_len u v
  rw [hsl] at h84
  refine scall_of ttOk (by kernel_rfl : Try.prog.funcs[30]? = some Try.f30) rfl rfl rfl ?_
  try simp only [List.length_cons, List.length_nil, Nat.zero_add, Nat.reduceAdd]
  refine sw_ok ttOk mixed (by kernel_rfl) ?_
  conv => whnf
  repeat (first | (refine And.intro ⟨by first | omega | fail, by first | decide | fail⟩ ?_; conv => whnf) | fail)
  refine loop_rule ttOk mixed (by kernel_rfl) (ι := { i : Nat // i ≤ 16 }) (fun i => [(0, .sl 0 0 16 1 f), (1, .sl 1 0 16 1 g), (5, .sl 2 0 16 1 true), (6, .i (i.1 : Int))]) (fun i => [some (.ro ((dg u).map .u64)), some (.ro ((dg v).map .u64)), some (.row 25 ((fil 16 i.1 (fun j => (dg u).getD j 0 + (dg v).getD j 0) (fun _ => 0)).map .u64))]) (fun _ => 3) (fun i => 16 - i.1) ⟨0, by omega⟩ ?_ ?_
  · have hz : fil 16 0 (fun j => (dg u).getD j 0 + (dg v).getD j 0) (fun _ => 0) = List.replicate 16 0 := fil_zero ..
    dsimp only
    rw [hz]
    refine Weak.sel [0, 1, 2] rfl rfl ?_ ?_ rfl rfl
    · (repeat' (first | exact trivial | refine And.intro ?_ ?_ | fail)) <;> first | rfl | fail
    · (repeat' (first | exact trivial | exact ren_z64 | refine And.intro ?_ ?_ | fail)) <;> first | rfl | exact ren_eq (by first | (simp; done) | fail) (by first | rfl | fail) | fail
  · rintro ⟨i, hi⟩
    have hfl := fil_len 16 i (fun j => (dg u).getD j 0 + (dg v).getD j 0) (fun _ => (0 : UInt64))
    dsimp only
    by_cases hi2 : i < 16
    · have hlt : decide ((i : Int) < 16) = true := by simp; omega
      have hp1 : w64 ((i : Int) + 1) = ((i + 1 : Nat) : Int) := by simp only [w64_eq]; omega
      have hst := fil_setx (g := fun _ => (0 : UInt64)) (f := fun j => (dg u).getD j 0 + (dg v).getD j 0) hi2 rfl
      conv => whnf
      first | refine brT (by exact hlt) ?_ | fail
      conv => whnf
      repeat (first | (refine Exists.intro _ (And.intro (sput_m64 (i := i) (by first | rfl | omega | fail)) ?_); conv => whnf) | (refine Exists.intro _ (And.intro (sload_u64 (i := i) (by first | rfl | omega | fail) (by first | omega | fail)) ?_); conv => whnf) | (refine Exists.intro _ (And.intro (idx_i (m := i) (by first | rfl | fail)) ?_); conv => whnf) | (refine And.intro (by first | omega | fail) ?_; conv => whnf) | (refine And.intro (by kernel_rfl) ?_; conv => whnf) | (refine And.intro ⟨by first | exact @rfl Nat _ | fail, by first | (simp only [hfl, hul, hvl, ti5_sz, ti25_sz, List.length_map, List.length_set]; omega) | fail⟩ ?_; conv => whnf) | fail)
      refine ⟨⟨i + 1, by omega⟩, by simp only; omega, ?_⟩
      refine Weak.sel [0, 1, 2] rfl rfl ?_ ?_ rfl rfl
      · (repeat' (first | exact trivial | refine And.intro ?_ ?_ | fail)) <;> first | exact wk_i (by first | exact hp1 | exact hp1.symm | fail) | rfl | fail
      · (repeat' (first | exact trivial | refine And.intro ?_ ?_ | fail)) <;> first | rfl | exact ren_eq (by first | rfl | (simp; done) | fail) (by first | rfl | fail) | exact ren_m64 (by first | exact hst.symm | fail) | fail
    · obtain rfl : i = 16 := by omega
      rw [sumP_f]
      conv => whnf
      first | refine brF (by rfl) ?_ | fail
      conv => whnf
      repeat (fail)
      refine ok1_callF [2] [false, true] false (h84) rfl rfl ⟨⟨rfl, by first | rfl | fail⟩, by (repeat' (first | exact trivial | refine And.intro ?_ ?_)) <;> first | exact ren_eq (by first | (simp; done) | fail) (by first | rfl | fail) | fail, by first | simp [plainHf, plainB], by first | rfl | fail, ?_⟩
      conv => whnf
      repeat (fail)
      refine ⟨[0, 1, 3], ?_, rfl, rfl, ?_, rfl⟩
      · (repeat' (fail)) <;> first | rfl | fail
      · (repeat' (first | exact trivial | refine And.intro ?_ ?_ | fail)) <;> first | rfl | exact ren_eq (by first | (simp; done) | fail) (by first | rfl | fail) | fail
theorem f32 {u v : Nat} (hu : u < P25519) (hv : v < P25519) (f g : Bool) : SCall Try.prog 32 [.sl 0 0 16 1 f, .sl 1 0 16 1 g] [some (.ro ((dg u).map .u64)), some (.ro ((dg v).map .u64))] (.sl 2 0 16 1 true) [some (.ro ((dg u).map .u64)), some (.ro ((dg v).map .u64)), some (.row 25 ((dg (u * v % P25519)).map .u64))] := by
  obtain ⟨W, w1, w2, w3⟩ := mul_ok hu hv
  have h84 := f84 (mQL (dg u) (dg v) 16 0) (.inr (mQL_len ..)) W w1 w2 true
  rw [w3] at h84
  have hul := dg_len u
  have hvl := dg_len v
  rw [mQL_len] at h84
  refine scall_of ttOk (by kernel_rfl : Try.prog.funcs[32]? = some Try.f32) rfl rfl rfl ?_
  try simp only [List.length_cons, List.length_nil, Nat.zero_add, Nat.reduceAdd]
  refine sw_ok ttOk mixed (by kernel_rfl) ?_
  conv => whnf
  repeat (first | (refine And.intro ⟨by first | omega | fail, by first | decide | fail⟩ ?_; conv => whnf) | fail)
  refine loop_rule ttOk mixed (by kernel_rfl) (ι := { i : Nat // i ≤ 16 }) (fun i => [(0, .sl 0 0 16 1 f), (1, .sl 1 0 16 1 g), (5, .sl 2 0 32 1 true), (6, .i (i.1 : Int))]) (fun i => [some (.ro ((dg u).map .u64)), some (.ro ((dg v).map .u64)), some (.row 25 ((mQL (dg u) (dg v) i.1 0).map .u64))]) (fun _ => 3) (fun i => 16 - i.1) ⟨0, by omega⟩ ?_ ?_
  · have hz := mQL_00 (dg u) (dg v)
    dsimp only
    rw [hz]
    refine Weak.sel [0, 1, 2] rfl rfl ?_ ?_ rfl rfl
    · (repeat' (first | exact trivial | refine And.intro ?_ ?_ | fail)) <;> first | rfl | fail
    · (repeat' (first | exact trivial | exact ren_z64 | refine And.intro ?_ ?_ | fail)) <;> first | rfl | exact ren_eq (by first | (simp; done) | fail) (by first | rfl | fail) | fail
  · rintro ⟨i, hi⟩
    dsimp only
    by_cases hi2 : i < 16
    · have hlt : decide ((i : Int) < 16) = true := by simp; omega
      have hp1 : w64 ((i : Int) + 1) = ((i + 1 : Nat) : Int) := by simp only [w64_eq]; omega
      conv => whnf
      first | refine brT (by exact hlt) ?_ | fail
      conv => whnf
      repeat (fail)
      refine loop_rule ttOk mixed (by kernel_rfl) (ι := { j : Nat // j ≤ 16 }) (fun j => [(0, .sl 0 0 16 1 f), (1, .sl 1 0 16 1 g), (5, .sl 2 0 32 1 true), (6, .i (i : Int)), (7, .i (j.1 : Int))]) (fun j => [some (.ro ((dg u).map .u64)), some (.ro ((dg v).map .u64)), some (.row 25 ((mQL (dg u) (dg v) i j.1).map .u64))]) (fun _ => 3) (fun j => 16 - j.1) ⟨0, by omega⟩ ?_ ?_
      · refine Weak.sel [0, 1, 2] rfl rfl ?_ ?_ rfl rfl
        · (repeat' (first | exact trivial | refine And.intro ?_ ?_ | fail)) <;> first | rfl | fail
        · (repeat' (first | exact trivial | refine And.intro ?_ ?_ | fail)) <;> first | rfl | exact ren_eq (by first | (simp; done) | fail) (by first | rfl | fail) | fail
      · rintro ⟨j, hj⟩
        have hql := mQL_len (dg u) (dg v) i j
        dsimp only
        by_cases hj2 : j < 16
        · have hlt2 : decide ((j : Int) < 16) = true := by simp; omega
          have hp2 : w64 ((j : Int) + 1) = ((j + 1 : Nat) : Int) := by simp only [w64_eq]; omega
          have hij : w64 ((i : Int) + (j : Int)) = ((i + j : Nat) : Int) := by simp only [w64_eq]; omega
          have hst := mQL_s (dg u) (dg v) i j hi2 hj2
          conv => whnf
          first | refine brT (by exact hlt2) ?_ | fail
          conv => whnf
          repeat (first | (refine Exists.intro _ (And.intro (sput_m64 (i := i + j) (by first | rfl | omega | fail)) ?_); conv => whnf) | (refine Exists.intro _ (And.intro (sload_u64 (i := i + j) (by first | rfl | omega | fail) (by first | omega | fail)) ?_); conv => whnf) | (refine Exists.intro _ (And.intro (idx_i (m := i + j) (by first | rfl | omega | fail)) ?_); conv => whnf) | (refine Exists.intro _ (And.intro (sload_u64 (i := i) (by first | rfl | omega | fail) (by first | omega | fail)) ?_); conv => whnf) | (refine Exists.intro _ (And.intro (idx_i (m := i) (by first | rfl | fail)) ?_); conv => whnf) | (refine Exists.intro _ (And.intro (sload_u64 (i := j) (by first | rfl | omega | fail) (by first | omega | fail)) ?_); conv => whnf) | (refine Exists.intro _ (And.intro (idx_i (m := j) (by first | rfl | fail)) ?_); conv => whnf) | (refine And.intro (by first | omega | (simp; omega) | fail) ?_; conv => whnf) | (refine And.intro (by kernel_rfl) ?_; conv => whnf) | fail)
          refine ⟨⟨j + 1, by omega⟩, by simp only; omega, ?_⟩
          refine Weak.sel [0, 1, 2] rfl rfl ?_ ?_ rfl rfl
          · (repeat' (first | exact trivial | refine And.intro ?_ ?_ | fail)) <;> first | exact wk_i (by first | exact hp2 | exact hp2.symm | fail) | rfl | fail
          · (repeat' (first | exact trivial | refine And.intro ?_ ?_ | fail)) <;> first | rfl | exact ren_eq (by first | (simp; done) | fail) (by first | rfl | fail) | exact ren_m64 (by first | exact hst.symm | fail) | fail
        · obtain rfl : j = 16 := by omega
          have h16 := mQL_16 (dg u) (dg v) i
          conv => whnf
          first | refine brF (by rfl) ?_ | fail
          conv => whnf
          repeat (fail)
          refine ⟨⟨i + 1, by omega⟩, by simp only; omega, ?_⟩
          refine Weak.sel [0, 1, 2] rfl rfl ?_ ?_ rfl rfl
          · (repeat' (first | exact trivial | refine And.intro ?_ ?_ | fail)) <;> first | exact wk_i (by first | exact hp1 | exact hp1.symm | fail) | rfl | fail
          · (repeat' (first | exact trivial | refine And.intro ?_ ?_ | fail)) <;> first | rfl | exact ren_eq (by first | (simp; done) | fail) (by first | rfl | (simp [hp1, h16]; done) | fail) | fail
    · obtain rfl : i = 16 := by omega
      conv => whnf
      first | refine brF (by rfl) ?_ | fail
      conv => whnf
      repeat (fail)
      refine ok1_callF [2] [false, true] false (h84) rfl rfl ⟨⟨rfl, by first | rfl | fail⟩, by (repeat' (first | exact trivial | refine And.intro ?_ ?_)) <;> first | exact ren_eq (by first | (simp; done) | fail) (by first | rfl | fail) | fail, by first | simp [plainHf, plainB], by first | rfl | fail, ?_⟩
      conv => whnf
      repeat (fail)
      refine ⟨[0, 1, 3], ?_, rfl, rfl, ?_, rfl⟩
      · (repeat' (fail)) <;> first | rfl | fail
      · (repeat' (first | exact trivial | refine And.intro ?_ ?_ | fail)) <;> first | rfl | exact ren_eq (by first | (simp; done) | fail) (by first | rfl | fail) | fail
end Go.Sh
/- field's reference: Sub (f31), Inverse (f33). -/
namespace Go.Sh
open Go.Proofs
set_option maxHeartbeats 8000000
set_option linter.unusedSimpArgs false
set_option linter.unusedVariables false

def bo (x y : List UInt64) : Nat → UInt64
  | 0 => 0
  | i + 1 => if 65536 + x.getD i 0 + pp.getD i 0 - y.getD i 0 - bo x y i < 65536 then 1 else 0
def bd (x y : List UInt64) (i : Nat) : UInt64 := 65536 + x.getD i 0 + pp.getD i 0 - y.getD i 0 - bo x y i
def bp (x y : List UInt64) (i : Nat) : UInt64 := bd x y i - 65536 * (1 - bo x y (i + 1))
theorem bo_0 (x y : List UInt64) : bo x y 0 = 0 := rfl
theorem bo_s (x y : List UInt64) (i : Nat) : bo x y (i + 1) = if bd x y i < 65536 then 1 else 0 := rfl
theorem bd_e (x y : List UInt64) (i : Nat) : bd x y i = 65536 + x.getD i 0 + pp.getD i 0 - y.getD i 0 - bo x y i := rfl
theorem bp_e (x y : List UInt64) (i : Nat) : bp x y i = bd x y i - 65536 * (1 - bo x y (i + 1)) := rfl
theorem bo_le (x y : List UInt64) : ∀ i, (bo x y i).toNat ≤ 1
  | 0 => by rw [bo_0]; decide
  | i + 1 => by rw [bo_s]; split <;> decide
theorem sub1 {x p y b : UInt64} (hx : x.toNat < 65536) (hp : p.toNat < 65536) (hy : y.toNat < 65536) (hb : b.toNat ≤ 1) : (65536 + x + p - y - b).toNat = 65536 + x.toNat + p.toNat - y.toNat - b.toNat := by
  have h1 : (65536 + x).toNat = 65536 + x.toNat := add_n 65536 x (by show 65536 + _ < _; omega)
  have h2 : (65536 + x + p).toNat = 65536 + x.toNat + p.toNat := by rw [add_n _ _ (by omega), h1]
  have h3 : (65536 + x + p - y).toNat = 65536 + x.toNat + p.toNat - y.toNat := by rw [sub_n _ _ (by omega), h2]
  rw [sub_n _ _ (by omega), h3]
theorem bd_n (u v i : Nat) : (bd (dg u) (dg v) i).toNat = 65536 + gn (dg u) i + gn pp i - gn (dg v) i - (bo (dg u) (dg v) i).toNat := by
  have h1 := gn_lt u i
  have h2 := gn_lt P25519 i
  have h3 := gn_lt v i
  exact sub1 h1 h2 h3 (bo_le _ _ i)
theorem bp_n (u v i : Nat) : (bp (dg u) (dg v) i).toNat + gn (dg v) i + (bo (dg u) (dg v) i).toNat = gn (dg u) i + gn pp i + 65536 * (bo (dg u) (dg v) (i + 1)).toNat ∧ ((bo (dg u) (dg v) (i + 1)).toNat = 1 → gn (dg u) i + gn pp i < gn (dg v) i + (bo (dg u) (dg v) i).toNat) ∧ (bp (dg u) (dg v) i).toNat < 262144 := by
  have h1 := gn_lt u i
  have h2 : gn pp i < 65536 := gn_lt P25519 i
  have h3 := gn_lt v i
  have hb := bo_le (dg u) (dg v) i
  have hd := bd_n u v i
  rw [bp_e, bo_s]
  by_cases hc : bd (dg u) (dg v) i < 65536
  · rw [if_pos hc]
    have hc2 : (bd (dg u) (dg v) i).toNat < 65536 := UInt64.lt_iff_toNat_lt.1 hc
    have e : bd (dg u) (dg v) i - 65536 * (1 - 1) = bd (dg u) (dg v) i := by rw [show (65536 : UInt64) * (1 - 1) = 0 by decide, UInt64.sub_zero]
    rw [e, show (1 : UInt64).toNat = 1 from rfl]
    omega
  · rw [if_neg hc]
    have hc2 : ¬ (bd (dg u) (dg v) i).toNat < 65536 := fun h => hc (UInt64.lt_iff_toNat_lt.2 h)
    have e : (bd (dg u) (dg v) i - 65536 * (1 - 0)).toNat = (bd (dg u) (dg v) i).toNat - 65536 := by
      rw [show (65536 : UInt64) * (1 - 0) = 65536 by decide, sub_n _ _ (by show 65536 ≤ _; omega)]; rfl
    rw [e, show (0 : UInt64).toNat = 0 from rfl]
    omega
theorem bp_sum (u v : Nat) : ∀ i, pv 65536 (fun i => (bp (dg u) (dg v) i).toNat) i + pv 65536 (gn (dg v)) i = pv 65536 (gn (dg u)) i + pv 65536 (gn pp) i + (bo (dg u) (dg v) i).toNat * 65536 ^ i
  | 0 => rfl
  | i + 1 => by
    have ih := bp_sum u v i
    obtain ⟨h, _, _⟩ := bp_n u v i
    show pv 65536 _ i + (bp (dg u) (dg v) i).toNat * 65536 ^ i + (pv 65536 _ i + gn (dg v) i * 65536 ^ i) = (pv 65536 _ i + gn (dg u) i * 65536 ^ i) + (pv 65536 _ i + gn pp i * 65536 ^ i) + (bo (dg u) (dg v) (i + 1)).toNat * 65536 ^ (i + 1)
    rw [Nat.pow_succ]
    generalize pv 65536 (fun i => (bp (dg u) (dg v) i).toNat) i = A at *
    generalize pv 65536 (gn (dg v)) i = B at *
    generalize pv 65536 (gn (dg u)) i = C at *
    generalize pv 65536 (gn pp) i = D at *
    generalize (bp (dg u) (dg v) i).toNat = a at *
    generalize gn (dg v) i = b at *
    generalize gn (dg u) i = c at *
    generalize gn pp i = d at *
    generalize (bo (dg u) (dg v) i).toNat = e at *
    generalize (bo (dg u) (dg v) (i + 1)).toNat = f at *
    generalize 65536 ^ i = q at *
    have := congrArg (fun z => z * q) h
    simp only [Nat.add_mul] at this
    grind
theorem pp_mid : ∀ i, i < 16 → 1 ≤ i → i < 15 → gn pp i = 65535 := by decide +kernel
theorem pp_15 : gn pp 15 = 32767 := by decide +kernel
theorem pv_s1 {B : Nat} (l : Nat → Nat) (n : Nat) : pv B l (n + 1) = pv B l n + l n * B ^ n := rfl
theorem bo_chain {u v : Nat} (hv : v < P25519) (i : Nat) : i < 16 → (bo (dg u) (dg v) (i + 1)).toNat = 1 → pv 65536 (gn (dg u)) (i + 1) + pv 65536 (gn pp) (i + 1) < pv 65536 (gn (dg v)) (i + 1) := by
  induction i with
  | zero =>
    intro _ h
    obtain ⟨_, h2, _⟩ := bp_n u v 0
    have h3 := h2 h
    rw [bo_0, show (0 : UInt64).toNat = 0 from rfl] at h3
    rw [pv_s1, pv_s1, pv_s1, Nat.pow_zero, Nat.mul_one, Nat.mul_one, Nat.mul_one, show pv 65536 (gn (dg u)) 0 = 0 from rfl, show pv 65536 (gn pp) 0 = 0 from rfl, show pv 65536 (gn (dg v)) 0 = 0 from rfl]
    clear h2 h
    omega
  | succ i ih =>
    intro hi h
    obtain ⟨_, h2, _⟩ := bp_n u v (i + 1)
    have h3 := h2 h
    have hb := bo_le (dg u) (dg v) (i + 1)
    have hle : gn (dg v) (i + 1) ≤ gn pp (i + 1) := by
      by_cases h15 : i + 1 = 15
      · rw [h15, pp_15, gn_dg v 15 (by decide)]
        have : v / 65536 ^ 15 ≤ P25519 / 65536 ^ 15 := Nat.div_le_div_right (Nat.le_of_lt hv)
        rw [show P25519 / 65536 ^ 15 = 32767 by decide +kernel] at this
        exact Nat.le_trans (Nat.mod_le _ _) this
      · rw [pp_mid (i + 1) hi (by omega) (by omega)]
        have := gn_lt v (i + 1); omega
    have hb1 : (bo (dg u) (dg v) (i + 1)).toNat = 1 := by omega
    have ih := ih (by omega) hb1
    have hx : gn (dg u) (i + 1) = 0 := by omega
    have hy : gn (dg v) (i + 1) = gn pp (i + 1) := by omega
    rw [pv_s1 _ (i + 1), pv_s1 _ (i + 1), pv_s1 _ (i + 1), hx, hy, Nat.zero_mul]
    generalize gn pp (i + 1) * 65536 ^ (i + 1) = z
    clear h2 h3 hle hx hy hb hb1 h
    omega
def difP (u v : Nat) : List UInt64 := (List.range 16).map (bp (dg u) (dg v))
theorem difP_len (u v : Nat) : (difP u v).length = 16 := rng_len
theorem difP_ok {u v : Nat} (hu : u < P25519) (hv : v < P25519) : ∃ W, W < 65536 ^ 16 ∧ rdN (xiL (difP u v) (difP u v).length) 4 = dg W ∧ W % P25519 = (u + (P25519 - v)) % P25519 := by
  have hg : ∀ i, i < 16 → gn (difP u v) i = (bp (dg u) (dg v) i).toNat := fun i hi => by unfold gn difP; rw [rng_getD hi]
  obtain ⟨W, h1, h2, h3⟩ := red16 (difP_len u v) (fun i hi => by rw [hg i hi]; exact Nat.lt_trans (bp_n u v i).2.2 (by decide))
  refine ⟨W, h1, h2, ?_⟩
  have hs := bp_sum u v 16
  have ex : pv 65536 (gn (dg u)) 16 = u := by rw [← rv_gn]; exact rv_dg u (P16 hu)
  have ey : pv 65536 (gn (dg v)) 16 = v := by rw [← rv_gn]; exact rv_dg v (P16 hv)
  have ep : pv 65536 (gn pp) 16 = P25519 := by rw [← rv_gn]; exact rv_dg P25519 P_lt
  have hb0 : (bo (dg u) (dg v) 16).toNat = 0 := by
    rcases Nat.eq_zero_or_pos (bo (dg u) (dg v) 16).toNat with e | e
    · exact e
    · have h1 := bo_le (dg u) (dg v) 16
      have := bo_chain (u := u) hv 15 (by decide) (show (bo (dg u) (dg v) (15 + 1)).toNat = 1 from Nat.le_antisymm h1 e)
      rw [show 15 + 1 = 16 from rfl, ex, ey, ep] at this
      omega
  rw [ex, ey, ep, hb0, Nat.zero_mul, Nat.add_zero] at hs
  rw [h3, rv_gn, pv_congr (m := fun i => (bp (dg u) (dg v) i).toNat) 16 hg]
  have he : pv 65536 (fun i => (bp (dg u) (dg v) i).toNat) 16 = u + (P25519 - v) := by
    generalize pv 65536 (fun i => (bp (dg u) (dg v) i).toNat) 16 = A at hs
    clear ex ey ep hb0 h1 h2 h3
    omega
  rw [he]
theorem pw_lt (x : Nat) : ∀ k, pw x k < P25519 := fun k => by rw [pw_eq]; exact mod_lt_P _
theorem pw_s (x k : Nat) : pw x (k + 1) = if k = 250 ∨ k = 252 then pw x k * pw x k % P25519 else pw x k * pw x k % P25519 * x % P25519 := rfl
theorem pw_0 (x : Nat) : pw x (255 - 255) = (1 : UInt32).toNat := rfl
attribute [local irreducible] dg bo bd bp difP pp pw
theorem f33 {x : Nat} (hx : x < P25519) (f : Bool) : SCall Try.prog 33 [.sl 0 0 16 1 f] [some (.ro ((dg x).map .u64))] (.sl 1 0 16 1 true) [some (.ro ((dg x).map .u64)), some (.row 25 ((dg (invN x)).map .u64))] := by
  have h24 := f24 1
  refine scall_of ttOk (by kernel_rfl : Try.prog.funcs[33]? = some Try.f33) rfl rfl rfl ?_
  try simp only [List.length_cons, List.length_nil, Nat.zero_add, Nat.reduceAdd]
  refine sw_ok ttOk mixed (by kernel_rfl) ?_
  conv => whnf
  repeat (fail)
  refine ok1_callF [] [true] false (h24) rfl rfl ⟨⟨rfl, by first | rfl | fail⟩, trivial, by first | simp [plainHf, plainB], by first | rfl | fail, ?_⟩
  conv => whnf
  repeat (fail)
  refine loop_rule ttOk mixed (by kernel_rfl) (ι := { m : Nat // m ≤ 255 }) (fun m => [(0, .sl 0 0 16 1 f), (3, .sl 1 0 16 1 true), (4, .i ((m.1 : Int) - 1))]) (fun m => [some (.ro ((dg x).map .u64)), some (.row 25 ((dg (pw x (255 - m.1))).map .u64))]) (fun _ => 2) (fun m => m.1) ⟨255, by omega⟩ ?_ ?_
  · have hz : pw x (255 - 255) = (1 : UInt32).toNat := pw_0 x
    dsimp only
    rw [hz]
    refine Weak.sel [0, 1] rfl rfl ?_ ?_ rfl rfl
    · (repeat' (first | exact trivial | refine And.intro ?_ ?_ | fail)) <;> first | rfl | fail
    · (repeat' (first | exact trivial | refine And.intro ?_ ?_ | fail)) <;> first | rfl | exact ren_eq (by first | (simp; done) | fail) (by first | rfl | fail) | fail
  · rintro ⟨m, hm⟩
    dsimp only
    by_cases hm0 : 0 < m
    · obtain ⟨k, rfl⟩ : ∃ k, m = k + 1 := ⟨m - 1, by omega⟩
      have hlt : decide ((((k + 1 : Nat) : Int) - 1) ≥ 0) = true := by simp
      have hp1 : w64 (((k + 1 : Nat) : Int) - 1 - 1) = (k : Int) - 1 := by simp only [w64_eq]; omega
      have hs := pw_s x (255 - (k + 1))
      rw [show 255 - (k + 1) + 1 = 255 - k by omega] at hs
      have ho := pw_lt x (255 - (k + 1))
      obtain ⟨o, hoo⟩ : ∃ o, o = pw x (255 - (k + 1)) := ⟨_, rfl⟩
      rw [← hoo] at hs ho ⊢
      have h32 := f32 ho ho true true
      have h32b := f32 (mod_lt_P (o * o)) hx true f
      by_cases h4 : k = 4 ∨ k = 2
      · rw [if_pos (by omega)] at hs
        rcases h4 with rfl | rfl
        ·
          conv => whnf
          first | refine brT (by rfl) ?_ | fail
          conv => whnf
          repeat (fail)
          refine ok1_callF [1, 1] [false, false, true] false (h32) rfl rfl ⟨⟨rfl, by first | rfl | fail⟩, by (repeat' (first | exact trivial | refine And.intro ?_ ?_)) <;> first | exact ren_eq (by first | (simp; done) | fail) (by first | rfl | fail) | fail, by first | simp [plainHf, plainB], by first | rfl | fail, ?_⟩
          conv => whnf
          repeat (first | (refine brT rfl ?_; conv => whnf) | (refine brF rfl ?_; conv => whnf) | (refine Exists.intro _ (And.intro rfl ?_); conv => whnf) | fail)
          refine ⟨⟨_, Nat.le_of_succ_le hm⟩, Nat.lt_succ_self _, ?_⟩
          dsimp only
          rw [hs]
          refine Weak.sel [0, 2] rfl rfl ?_ ?_ rfl rfl
          · (repeat' (first | exact trivial | refine And.intro ?_ ?_ | fail)) <;> first | exact wk_i (by first | exact hp1 | fail) | rfl | fail
          · (repeat' (first | exact trivial | refine And.intro ?_ ?_ | fail)) <;> first | rfl | exact ren_eq (by first | (simp; done) | fail) (by first | rfl | fail) | fail
        ·
          conv => whnf
          first | refine brT (by rfl) ?_ | fail
          conv => whnf
          repeat (fail)
          refine ok1_callF [1, 1] [false, false, true] false (h32) rfl rfl ⟨⟨rfl, by first | rfl | fail⟩, by (repeat' (first | exact trivial | refine And.intro ?_ ?_)) <;> first | exact ren_eq (by first | (simp; done) | fail) (by first | rfl | fail) | fail, by first | simp [plainHf, plainB], by first | rfl | fail, ?_⟩
          conv => whnf
          repeat (first | (refine brF rfl ?_; conv => whnf) | (refine Exists.intro _ (And.intro rfl ?_); conv => whnf) | fail)
          refine ⟨⟨_, Nat.le_of_succ_le hm⟩, Nat.lt_succ_self _, ?_⟩
          dsimp only
          rw [hs]
          refine Weak.sel [0, 2] rfl rfl ?_ ?_ rfl rfl
          · (repeat' (first | exact trivial | refine And.intro ?_ ?_ | fail)) <;> first | exact wk_i (by first | exact hp1 | fail) | rfl | fail
          · (repeat' (first | exact trivial | refine And.intro ?_ ?_ | fail)) <;> first | rfl | exact ren_eq (by first | (simp; done) | fail) (by first | rfl | fail) | fail
      · rw [if_neg (by omega)] at hs
        have g4 : (((k + 1 : Nat) : Int) - 1 != 4) = true := by simp; omega
        have g2 : (((k + 1 : Nat) : Int) - 1 != 2) = true := by simp; omega
        conv => whnf
        first | refine brT (by exact hlt) ?_ | fail
        conv => whnf
        repeat (fail)
        refine ok1_callF [1, 1] [false, false, true] false (h32) rfl rfl ⟨⟨rfl, by first | rfl | fail⟩, by (repeat' (first | exact trivial | refine And.intro ?_ ?_)) <;> first | exact ren_eq (by first | (simp; done) | fail) (by first | rfl | fail) | fail, by first | simp [plainHf, plainB], by first | rfl | fail, ?_⟩
        conv => whnf
        repeat (first | (refine gdT g2 ?_; conv => whnf) | (refine pkT g2 ?_; conv => whnf) | (refine gdT g4 ?_; conv => whnf) | fail)
        refine ok1_callF [2, 0] [false, false, true] false (h32b) rfl rfl ⟨⟨rfl, by first | rfl | fail⟩, by (repeat' (first | exact trivial | refine And.intro ?_ ?_)) <;> first | exact ren_eq (by first | (simp; done) | fail) (by first | rfl | fail) | fail, by first | simp [plainHf, plainB], by first | rfl | fail, ?_⟩
        conv => whnf
        repeat (fail)
        refine ⟨⟨k, by omega⟩, by simp only; omega, ?_⟩
        dsimp only
        rw [hs]
        refine Weak.sel [0, 3] rfl rfl ?_ ?_ rfl rfl
        · (repeat' (first | exact trivial | refine And.intro ?_ ?_ | fail)) <;> first | exact wk_i (by first | exact hp1 | exact hp1.symm | fail) | rfl | fail
        · (repeat' (first | exact trivial | refine And.intro ?_ ?_ | fail)) <;> first | rfl | exact ren_eq (by first | (simp; done) | fail) (by first | rfl | fail) | fail
    · obtain rfl : m = 0 := by omega
      have hfin : pw x (255 - 0) = invN x := rfl
      rw [hfin]
      conv => whnf
      first | refine brF (by rfl) ?_ | fail
      conv => whnf
      repeat (fail)
      refine ⟨[0, 1], ?_, rfl, rfl, ?_, rfl⟩
      · (repeat' (fail)) <;> first | rfl | fail
      · (repeat' (first | exact trivial | refine And.intro ?_ ?_ | fail)) <;> first | rfl | exact ren_eq (by first | (simp; done) | fail) (by first | rfl | fail) | fail
end Go.Sh
/- field's reference: Sub (f31), Bytes (f34), Is (f36), Of (f23). -/
namespace Go.Sh
open Go.Proofs
set_option maxHeartbeats 8000000
set_option linter.unusedSimpArgs false
set_option linter.unusedVariables false

theorem difP_f (u v : Nat) : fil 16 16 (bp (dg u) (dg v)) (fun _ => 0) = difP u v := by unfold difP; exact fil_full ..
/-- A part's two bytes. -/
def b2 (v i : Nat) : List UInt8 := [((dg v).getD i 0 % 256).toUInt8, ((dg v).getD i 0 / 256).toUInt8]
theorem le32_2 (v i : Nat) (hi : i < 16) : (le32 v).take (2 * i) ++ b2 v i = (le32 v).take (2 * (i + 1)) := by
  have hl := le32_len v
  have hg := dg_get v i hi
  have e1 : ∀ k, k < 32 → (le32 v)[k]? = some (UInt8.ofNat (v / 256 ^ k % 256)) := fun k hk => by
    unfold le32; rw [List.getElem?_map, List.getElem?_range hk]; rfl
  have p16 : (65536 : Nat) ^ i = 256 ^ (2 * i) := by rw [Nat.pow_mul]
  have h0 : ((dg v).getD i 0 % 256).toUInt8 = UInt8.ofNat (v / 256 ^ (2 * i) % 256) := by
    apply UInt8.toNat_inj.mp
    rw [UInt64.toNat_toUInt8, UInt64.toNat_mod, hg, UInt8.toNat_ofNat', p16]
    generalize v / 256 ^ (2 * i) = z
    show z % 65536 % 256 % 2 ^ 8 = _
    omega
  have h1 : ((dg v).getD i 0 / 256).toUInt8 = UInt8.ofNat (v / 256 ^ (2 * i + 1) % 256) := by
    apply UInt8.toNat_inj.mp
    rw [UInt64.toNat_toUInt8, UInt64.toNat_div, hg, UInt8.toNat_ofNat', p16, show (256 : Nat) ^ (2 * i + 1) = 256 ^ (2 * i) * 256 from Nat.pow_succ _ _, ← Nat.div_div_eq_div_mul]
    generalize v / 256 ^ (2 * i) = z
    show z % 65536 / 256 % 2 ^ 8 = _
    omega
  apply List.ext_getElem?
  intro k
  have hlt : ((le32 v).take (2 * i)).length = 2 * i := by rw [List.length_take]; omega
  by_cases hk : k < 2 * i
  · rw [List.getElem?_append_left (by omega), List.getElem?_take_of_lt hk, List.getElem?_take_of_lt (by omega)]
  · rw [List.getElem?_append_right (by omega), hlt]
    by_cases hk2 : k < 2 * (i + 1)
    · rw [List.getElem?_take_of_lt hk2]
      have : k = 2 * i ∨ k = 2 * i + 1 := by omega
      unfold b2
      rcases this with rfl | rfl
      · rw [Nat.sub_self, e1 _ (by omega), h0]; rfl
      · rw [show 2 * i + 1 - 2 * i = 1 by omega, e1 _ (by omega), ← h1]; rfl
    · rw [List.getElem?_eq_none (by unfold b2; simp; omega), List.getElem?_eq_none (by simp; omega)]
/-- A byte's part. -/
def cB (b : List UInt8) (i : Nat) : UInt64 := if i % 2 = 1 then 256 * (if i = 31 then (b.getD i 0).toUInt64 % 128 else (b.getD i 0).toUInt64) else (b.getD i 0).toUInt64
def oP (b : List UInt8) : Nat → Nat → UInt64
  | 0, _ => 0
  | i + 1, k => if i / 2 = k then oP b i k + cB b i else oP b i k
def oPL (b : List UInt8) (i : Nat) : List UInt64 := (List.range 16).map (oP b i)
theorem oPL_len (b : List UInt8) (i : Nat) : (oPL b i).length = 16 := rng_len
theorem oPL_0 (b : List UInt8) : oPL b 0 = List.replicate 16 0 := rfl
theorem oPL_s (b : List UInt8) (i : Nat) (hi : i < 32) {z : UInt64} (hz : z = cB b i) : (oPL b i).set (i / 2) ((oPL b i).getD (i / 2) 0 + z) = oPL b (i + 1) := by
  subst hz
  unfold oPL
  rw [rng_getD (by omega)]
  apply List.ext_getElem?
  intro k
  rw [List.getElem?_set]
  by_cases hk : k < 16
  · rw [List.getElem?_map, List.getElem?_range hk, List.getElem?_map, List.getElem?_range hk]
    simp only [Option.map_some, List.length_map, List.length_range]
    by_cases he : i / 2 = k
    · subst he
      rw [if_pos rfl, if_pos (by omega)]
      show some _ = some (if i / 2 = i / 2 then _ else _)
      rw [if_pos rfl]
    · rw [if_neg he]
      show some _ = some (if i / 2 = k then _ else _)
      rw [if_neg he]
  · have h1 : ((List.range 16).map (oP b i)).length = 16 := rng_len
    have h2 : ((List.range 16).map (oP b (i + 1))).length = 16 := rng_len
    rw [if_neg (by omega), List.getElem?_eq_none (by omega), List.getElem?_eq_none (by omega)]
/-- The bytes, the highest bit off. -/
def byM (b : List UInt8) (i : Nat) : Nat := if i = 31 then byN b i % 128 else byN b i
theorem cB_n (b : List UInt8) (i : Nat) : (cB b i).toNat = if i % 2 = 1 then 256 * byM b i else byN b i := by
  have hb := byN_lt b i
  unfold cB byM
  by_cases h : i % 2 = 1
  · rw [if_pos h, if_pos h]
    by_cases h31 : i = 31
    · rw [if_pos h31, if_pos h31]
      have e : ((b.getD i 0).toUInt64 % 128).toNat = byN b i % 128 := by rw [UInt64.toNat_mod, UInt8.toNat_toUInt64]; rfl
      rw [mul_n 256 _ (by rw [e]; show 256 * _ < _; omega), e]; rfl
    · rw [if_neg h31, if_neg h31]
      have e : ((b.getD i 0).toUInt64).toNat = byN b i := by rw [UInt8.toNat_toUInt64]; rfl
      rw [mul_n 256 _ (by rw [e]; show 256 * _ < _; omega), e]; rfl
  · rw [if_neg h, if_neg h, UInt8.toNat_toUInt64]; rfl
theorem oP_n (b : List UInt8) (k : Nat) (hk : k < 16) : ∀ i, i ≤ 32 → (oP b i k).toNat = (if 2 * k < i then byN b (2 * k) else 0) + (if 2 * k + 1 < i then 256 * byM b (2 * k + 1) else 0)
  | 0, _ => by simp [oP]
  | i + 1, h => by
    have ih := oP_n b k hk i (by omega)
    have hc := cB_n b i
    show (if i / 2 = k then oP b i k + cB b i else oP b i k).toNat = _
    by_cases he : i / 2 = k
    · rw [if_pos he]
      by_cases hp : i % 2 = 1
      · have hi : i = 2 * k + 1 := by omega
        subst hi
        rw [if_pos (by omega), if_neg (by omega)] at ih
        rw [if_pos hp] at hc
        rw [if_pos (by omega), if_pos (by omega)]
        have h1 := byN_lt b (2 * k)
        have h2 : byM b (2 * k + 1) < 256 := by
          have := byN_lt b (2 * k + 1)
          unfold byM; split <;> omega
        rw [add_n _ _ (by rw [ih, hc]; omega), ih, hc]; omega
      · have hi : i = 2 * k := by omega
        subst hi
        rw [if_neg (by omega), if_neg (by omega)] at ih
        rw [if_neg hp] at hc
        rw [if_pos (by omega), if_neg (by omega)]
        have h1 := byN_lt b (2 * k)
        rw [add_n _ _ (by rw [ih, hc]; omega), ih, hc]; omega
    · rw [if_neg he, ih]
      congr 1
      · by_cases h1 : 2 * k < i
        · rw [if_pos h1, if_pos (by omega)]
        · rw [if_neg h1, if_neg (by omega)]
      · by_cases h1 : 2 * k + 1 < i
        · rw [if_pos h1, if_pos (by omega)]
        · rw [if_neg h1, if_neg (by omega)]
theorem pv_pair (l : Nat → Nat) : ∀ n, pv 65536 (fun k => l (2 * k) + 256 * l (2 * k + 1)) n = pv 256 l (2 * n)
  | 0 => rfl
  | n + 1 => by
    rw [show 2 * (n + 1) = 2 * n + 1 + 1 by omega, pv_s1, pv_s1, pv_s1, pv_pair l n, Nat.pow_succ, show (65536 : Nat) ^ n = 256 ^ (2 * n) by rw [Nat.pow_mul], Nat.add_mul, Nat.add_assoc, Nat.mul_assoc, Nat.mul_comm 256 (l _ * _), Nat.mul_assoc]
theorem bn_M (b : List UInt8) : bn b = pv 256 (byM b) 32 := by
  unfold bn bv
  have hc : pv 256 (byM b) 31 = pv 256 (byN b) 31 := pv_congr 31 (fun i hi => by unfold byM; rw [if_neg (by omega)])
  have hlt := pv_lt (B := 256) (by decide) (byN_lt b) 31
  have h31 : byM b 31 = byN b 31 % 128 := by unfold byM; rw [if_pos rfl]
  show pv 256 (byN b) (31 + 1) % _ = pv 256 (byM b) (31 + 1)
  rw [pv_s1 (byN b) 31, pv_s1 (byM b) 31, hc, h31]
  clear hc h31
  generalize pv 256 (byN b) 31 = a at *
  generalize byN b 31 = c at *
  rw [show (256 : Nat) ^ 31 = 452312848583266388373324160190187140051835877600158453279131187530910662656 by decide] at *
  omega
theorem oPL_ok (b : List UInt8) : ∃ W, W < 65536 ^ 16 ∧ rdN (xiL (oPL b 32) (oPL b 32).length) 4 = dg W ∧ W % P25519 = br b := by
  have hg : ∀ k, k < 16 → gn (oPL b 32) k = byM b (2 * k) + 256 * byM b (2 * k + 1) := fun k hk => by
    unfold gn oPL
    rw [rng_getD hk, oP_n b k hk 32 (by omega), if_pos (by omega), if_pos (by omega)]
    congr 1
    unfold byM; rw [if_neg (by omega)]
  obtain ⟨W, h1, h2, h3⟩ := red16 (oPL_len b 32) (fun i hi => by
    rw [hg i hi]
    have h : ∀ j, byM b j < 256 := fun j => by have := byN_lt b j; unfold byM; split <;> omega
    have := h (2 * i); have := h (2 * i + 1); omega)
  refine ⟨W, h1, h2, ?_⟩
  rw [h3, rv_gn, pv_congr (m := fun k => byM b (2 * k) + 256 * byM b (2 * k + 1)) 16 hg, pv_pair]
  unfold br
  rw [bn_M]
end Go.Sh
/- append of so many noughts ('append(x, make(..)...)'), onto nothing or onto a row of one's own. -/
namespace Go.Sh
set_option linter.unusedSimpArgs false
section
variable {P : Program} {ρ : Ren} {H : Heap} {w : World}

theorem wrap_ok (m : Nat) (h : m ≤ 140737488355328) : IntKind.i64.wrap (m : Int) = (m : Int) := by
  have := w64_eq (m : Int); unfold w64 at this; rw [this]; omega
theorem app_roomZ {t xT ty el sz n m c : Nat} {a : Option Addr} {z : Value} {i : TypeInfo} (hT : P.underlying t = some (.slice el)) (hX : P.underlying xT = some (.int .i64))
    (hi : P.info? el = some i) (hz : i.zero = some z) (hsz : i.size = sz) (hzs : z.cells.size = sz) (h0 : 0 < sz) (hb : m * i.bytes ≤ 140737488355328) (hm : m ≤ 140737488355328) (hroom : n + m ≤ c) :
    (Builtin.append_ #[t, xT] ty #[.slice a n c, .int .i64 (m : Int)]).run P w = (match a with | some a => (storeCells (a.add (n * sz)) (Builtin.zeroCells z.cells m).toList).run P w | none => .ok () w).andThen fun _ w' => .ok (.slice a (n + m) c) w' := by
  have e1 : (underlying xT).run P w = .ok (.int .i64) w := run_und hX
  have e2 : ∀ w : World, (typeInfo el).run P w = .ok i w := fun w => by simp [typeInfo, hi]
  have e3 : ∀ w : World, (zeroValue el).run P w = .ok z w := fun w => by simp [zeroValue, typeInfo, hi, hz]
  have e4 : (sizeOf el).run P w = .ok sz w := by simp [sizeOf, typeInfo, hi, hsz]
  have e5 : ∀ w : World, (asInt (Value.int .i64 (m : Int))).run P w = .ok (m : Int) w := fun w => by simp [asInt, asIntOf]
  have hw := wrap_ok m hm
  have hbig : ¬ ((m : Int) * (i.bytes : Int) > 2 ^ 48) := by
    have : ((m * i.bytes : Nat) : Int) ≤ 140737488355328 := by omega
    rw [Int.natCast_mul] at this; omega
  have hneg : ¬ ((m : Int) < 0) := by omega
  unfold Builtin.append_
  simp only [List.getElem?_toArray, List.getElem?_cons_zero, List.getElem?_cons_succ, Sem.run_bind, run_und hT, Result.andThen_ok, e4, e1, Sem.run_pure, if_true, e5, hw, hneg, if_false, e2, hbig, Int.toNat_natCast, hroom, Bool.not_true, Bool.false_eq_true]
  by_cases hms : m * sz = 0
  · have hm0 : m = 0 := by rcases Nat.mul_eq_zero.1 hms with h | h; exact h; omega
    subst hm0
    simp only [Nat.zero_mul, if_true, Sem.run_pure, Result.andThen_ok]
    cases a <;> simp [Sem.run_pure, Result.andThen, Builtin.zeroCells]
  · simp only [hms, if_false, Sem.run_bind, e3, Result.andThen_ok, Sem.run_pure]
    cases a <;> simp [Sem.run_pure, Result.andThen]
theorem app_growZ {t xT ty el sz n m c : Nat} {a : Option Addr} {z : Value} {olds : List Value} {i : TypeInfo} (hT : P.underlying t = some (.slice el)) (hX : P.underlying xT = some (.int .i64))
    (hi : P.info? el = some i) (hz : i.zero = some z) (hsz : i.size = sz) (h0 : 0 < sz) (hb : m * i.bytes ≤ 140737488355328) (hm : m ≤ 140737488355328) (hnm : n + m ≤ 140737488355328)
    (ho : (Builtin.firstCells sz n (.slice a n c)).run P w.drew = .ok ⟨olds⟩ w.drew) (hg : c < n + m) (hby : 0 < i.bytes) (h48 : Builtin.nextslicecap (n + m) c * i.bytes ≤ 281474976710656) :
    (Builtin.append_ #[t, xT] ty #[.slice a n c, .int .i64 (m : Int)]).run P w = .ok (.slice (some ⟨w.heap.size, 0, none⟩) (n + m) (grownCap w (n + m) c el))
      (w.drew.alloc (.cells ((⟨olds⟩ : Array Value) ++ ⟨(Builtin.zeroCells z.cells m).toList⟩ ++ Builtin.zeroCells z.cells (grownCap w (n + m) c el - (n + m))) el)) := by
  have hn : ¬ (n + m ≤ c) := by omega
  have h48' : ¬ (281474976710656 < Builtin.nextslicecap (n + m) c * i.bytes) := by omega
  have hb0 : ¬ (i.bytes = 0) := by omega
  have e1 : (underlying xT).run P w = .ok (.int .i64) w := run_und hX
  have e2 : ∀ w : World, (typeInfo el).run P w = .ok i w := fun w => by simp [typeInfo, hi]
  have e3 : ∀ w : World, (zeroValue el).run P w = .ok z w := fun w => by simp [zeroValue, typeInfo, hi, hz]
  have e4 : (sizeOf el).run P w = .ok sz w := by simp [sizeOf, typeInfo, hi, hsz]
  have e5 : ∀ w : World, (asInt (Value.int .i64 (m : Int))).run P w = .ok (m : Int) w := fun w => by simp [asInt, asIntOf]
  have hch : (choose (.appendCap (n + m) c el)).run P w = .ok (grownCap w (n + m) c el) w.drew := by
    rw [run_choose]; rfl
  have hbig : (2 : Nat) ^ 48 = 281474976710656 := by decide
  have hw := wrap_ok m hm
  have hbig2 : ¬ ((m : Int) * (i.bytes : Int) > 2 ^ 48) := by
    have : ((m * i.bytes : Nat) : Int) ≤ 140737488355328 := by omega
    rw [Int.natCast_mul] at this; omega
  have hneg : ¬ ((m : Int) < 0) := by omega
  have hmax : ¬ (((n + m : Nat) : Int) > IntKind.i64.max) := by
    have : IntKind.i64.max = 9223372036854775807 := by decide
    rw [this]; omega
  unfold Builtin.append_
  simp only [List.getElem?_toArray, List.getElem?_cons_zero, List.getElem?_cons_succ, Sem.run_bind, run_und hT, Result.andThen_ok, e4, e1, Sem.run_pure, if_true, e5, hw, hneg, if_false, e2, hbig2, Int.toNat_natCast, hn, hmax, false_and, Bool.not_true, Bool.false_eq_true, gt_iff_lt, hbig, h48', hch, run_askRoom, ho]
  by_cases hms : m * sz = 0
  · have hm0 : m = 0 := by rcases Nat.mul_eq_zero.1 hms with h | h; exact h; omega
    subst hm0
    simp only [Nat.zero_mul, if_true, Sem.run_pure, Result.andThen_ok, Sem.run_bind, e3, newRow, run_newObj]
    simp [Builtin.zeroCells]
    rfl
  · simp only [hms, if_false, Sem.run_bind, e3, Result.andThen_ok, Sem.run_pure, newRow, run_newObj]
    rfl

/-- append onto a row of one's own: it goes over into the new one. -/
theorem app_row_gen {o : Oper} {x y : Operand} {t xT el sz by_ id nid k n m : Nat} {full : Bool} {l ys : List SV} {rb : RB} {e : Operand → Value} (ho : o.op = .call { callee := .builtin .append, args := #[x, y], argTypes := #[t, xT] })
    {v : Value} (hvs : v.cells.size = sz) (hx : Rel ρ (.sl id k n sz full) (e x)) (hid : H id = some (.row el l)) (hr : ρ id = some rb) (hb : BRel ρ w rb (.row el l)) (hin : k + n * sz ≤ l.length) {news : List Value} (hrn : Rels ρ ys news) (ha : atoms ys = true) (hlen : ys.length = m * sz)
    (hrr : ∀ (a : Option Addr) (c : Nat), n + m ≤ c → (Builtin.append_ #[t, xT] o.type #[.slice a n c, e y]).run P w = (match a with | some a => (storeCells (a.add (n * sz)) news).run P w | none => .ok () w).andThen fun _ w' => .ok (.slice a (n + m) c) w')
    (hgr : ∀ (a : Option Addr) (c : Nat) (olds : List Value), (Builtin.firstCells sz n (.slice a n c)).run P w.drew = .ok ⟨olds⟩ w.drew → c < n + m → Builtin.nextslicecap (n + m) c * by_ ≤ 281474976710656 →
      (Builtin.append_ #[t, xT] o.type #[.slice a n c, e y]).run P w = .ok (.slice (some ⟨w.heap.size, 0, none⟩) (n + m) (grownCap w (n + m) c el)) (w.drew.alloc (.cells ((⟨olds⟩ : Array Value) ++ ⟨news⟩ ++ Builtin.zeroCells v.cells (grownCap w (n + m) c el - (n + m))) el)))
    (hm : (n + m) * by_ ≤ 140737488355328) (hne : id ≠ nid) (hn : ρ nid = none) :
    ∃ v w' ρ', (execOp e o).run P w = .ok (.value v) w' ∧ Chg ρ H w [(id, none), (nid, some (.row el ((l.drop k).take (n * sz) ++ ys)))] ρ' w' ∧ Rel ρ' (.sl nid 0 (n + m) sz false) v := by
  have hsrcx : Src P ρ w (e x) sz n ((l.drop k).take (n * sz)) := src_sl hx hr hb hin
  obtain ⟨olds, _, hfo, hro, hao, hleno, _⟩ := hsrcx
  have hfo1 := hfo (w.drawn + 1)
  have hnl := hrn.length
  have hx0 := hx
  simp only [Rel] at hx
  obtain ⟨rb', a, c, hr', he, hnc, hfull, hdis⟩ := hx
  rw [hr] at hr'; cases hr'
  by_cases hroom : n + m ≤ c
  · by_cases hc0 : c = 0
    · -- nothing there, nothing comes
      subst hc0
      obtain rfl : n = 0 := by omega
      obtain rfl : m = 0 := by omega
      have hy0 : ys = [] := List.eq_nil_of_length_eq_zero (by rw [hlen]; simp)
      subst hy0
      rw [Rels.nil_iff] at hrn; subst hrn
      refine ⟨.slice a 0 0, w, setR ρ nid ⟨0, 0, 0, true⟩, app_run ho ?_, ?_, ?_⟩
      · rw [he, hrr _ _ hroom]
        cases a <;> rfl
      · exact Chg.move hne hid hr rfl hn (fun i o hh => by simp [foot] at hh) (.inl ⟨rfl, by simp⟩) (Fr.refl _ _)
      · simp only [Rel]
        exact ⟨_, a, 0, setR_same _ _ _, rfl, by omega, fun h => (by cases h), .inl rfl⟩
    · obtain ⟨hvirt, ha2, hcap⟩ := hdis.resolve_left hc0
      rcases hb with ⟨hv1, _⟩ | ⟨_, ca, fz, hca, hz, hcs, hla, hlr, hll⟩
      · rw [hvirt] at hv1; cases hv1
      have hcm : (n + m) * sz ≤ c * sz := Nat.mul_le_mul_right _ hroom
      rw [Nat.add_mul] at hcm
      have hst := run_puts (P := P) (o := rb.off + k + n * sz) news 0 hca hz (by omega) (hrn.oneCell ha)
      have hps : (putAt ca (rb.off + k + n * sz) news).size = ca.size := putAt_size _ _ _ (by omega)
      refine ⟨.slice a (n + m) c, World.putCells w rb.blk (rb.off + k + n * sz) news, setR ρ nid ⟨rb.blk, rb.off + k, rb.cap - k, false⟩, app_run ho ?_, ?_, ?_⟩
      · rw [he, hrr _ _ hroom, ha2]
        simp only [add_addr, hst, Nat.add_zero]
        rfl
      · refine Chg.move hne hid hr rfl hn ?_ (.inr ⟨rfl, _, fz, World.putCells_heap w rb.blk _ news hca, hz.put _ _ (by omega), ?_, ?_, ?_, ?_⟩) ?_
        · rintro i o2 ⟨h1, h2, h3⟩
          exact .inl ⟨hvirt, h2, by simp only at h3; omega⟩
        · rw [hps]; simp only; omega
        · simp [atoms] at hao ha ⊢; exact ⟨hao, ha⟩
        · have e1 : ((putAt ca (rb.off + k + n * sz) news).toList.drop (rb.off + k)).take (((l.drop k).take (n * sz) ++ ys)).length = List.take (n * sz) (List.drop k ((ca.toList.drop rb.off).take l.length)) ++ news := by
            have h1 : ((l.drop k).take (n * sz) ++ ys).length = n * sz + news.length := by rw [List.length_append, hleno, hnl]
            rw [h1]
            apply List.ext_getElem?
            intro j
            by_cases hj : j < n * sz + news.length
            · rw [drop_take_get hj, Array.getElem?_toList, putAt_getElem? _ _ _ (by omega)]
              by_cases h2 : j < n * sz
              · rw [if_neg (by omega)]
                rw [List.getElem?_append_left (by simp; omega), List.getElem?_take_of_lt h2, List.getElem?_drop, drop_take_get (by omega), Array.getElem?_toList, Nat.add_assoc]
              · rw [if_pos (by omega)]
                rw [List.getElem?_append_right (by simp; omega)]
                congr 1
                simp; omega
            · rw [List.getElem?_eq_none (by simp; omega)]
              rw [List.getElem?_eq_none (by simp; omega)]
          rw [e1]
          exact ((hlr.drop k).take (n * sz)).append hrn
        · simp only [List.length_append, hleno, hlen]; omega
        · exact Fr.putCells _ _ _ _ _ hca (by omega) (fun o2 h1 h2 => ⟨hvirt, rfl, by omega⟩)
      · simp only [Rel]
        refine ⟨_, a, c, setR_same _ _ _, rfl, hroom, fun h => (by cases h), .inr ⟨rfl, by rw [ha2]; simp, by simp only; omega⟩⟩
  · rw [he] at hfo1
    have hg := hgr a c _ hfo1 (by omega) (growslice_fits (by omega) hm)
    have hge := grownCap_ge w (n + m) c el
    obtain ⟨g1, g2⟩ := grown_row (ρ := ρ) (w := w) (nid := nid) (el := el) hro hao hrn ha hleno hlen hvs hge
    refine ⟨_, _, _, app_run ho (by rw [he]; exact hg), Chg.move hne hid hr rfl hn (fun i o2 hh => .inr (by rw [hh.2.1]; exact Nat.le_refl _)) g1 ?_, g2⟩
    exact (Fr.refl _ w).drew.trans (Fr.alloc (fun i o2 => foot rb (.row el l) i o2) w.drew _) (fun _ _ _ h => h)

theorem zfacts {el by_ : Nat} {z : SV} (hz : pzero P el = some z) (hza : z.atom = true) (hs : psz P el = some 1) (hb : pbytes P el = some by_) :
    ∃ i v, P.info? el = some i ∧ i.zero = some v ∧ v.cells = #[v] ∧ i.size = 1 ∧ i.bytes = by_ ∧ ∀ ρ, Rel ρ z v := by
  obtain ⟨i, v, hi, hv, hr, ht⟩ := zero_of hz
  unfold psz at hs
  unfold pbytes at hb
  rw [hi] at hs hb
  simp only [Option.map_some, Option.some.injEq] at hs hb
  exact ⟨i, v, hi, hv, (hr (fun _ => none)).cells hza, hs, hb, hr⟩
theorem zero_rels {z : SV} {v : Value} (h : Rel ρ z v) (hv : v.cells = #[v]) (m : Nat) : Rels ρ (List.replicate m z) (Builtin.zeroCells v.cells m).toList := by
  rw [hv, zeroCells_one]; exact Rels.replicate h m
theorem zero_atoms {z : SV} (hza : z.atom = true) (m : Nat) : atoms (List.replicate m z) = true := by
  simp only [atoms, List.all_eq_true]; intro y hy; rw [(List.mem_replicate.1 hy).2]; exact hza

theorem lt_append_rowZ {o : Oper} {R : Env} {x y : Operand} {t xT el by_ nid n m id k : Nat} {full : Bool} {z : SV} {l : List SV} (ho : o.op = .call { callee := .builtin .append, args := #[x, y], argTypes := #[t, xT] })
    (hT : P.underlying t = some (.slice el)) (hX : P.underlying xT = some (.int .i64)) (hz : pzero P el = some z) (hza : z.atom = true) (hs : psz P el = some 1) (hb : pbytes P el = some by_) (hb0 : 0 < by_)
    (hx : evO R x = some (.sl id k n 1 full)) (hid : H id = some (.row el l)) (hin1 : k + n * 1 ≤ l.length) (hy : evO R y = some (.i (m : Int))) (hm : (n + m) * by_ ≤ 140737488355328) (hne : nid ≠ id) :
    LT P o R H [id] [(id, none), (nid, some (.row el ((l.drop k).take (n * 1) ++ List.replicate m z)))] (some (.sl nid 0 (n + m) 1 false)) := by
  refine LT.of_run (by simp [ho]) fun e w ρ h1 h2 _ hfresh => ?_
  have hx2 := h1 x (by simp [ho, Op.operands, Call.operands]) _ hx
  have hy2 := h1 y (by simp [ho, Op.operands, Call.operands]) _ hy
  simp only [Rel] at hy2
  obtain ⟨rb, hr, hbr⟩ := h2 id (by simp) _ hid
  obtain ⟨i, v, hi, hv, hvc, his, hib, hvr⟩ := zfacts hz hza hs hb
  have hnm : n + m ≤ 140737488355328 := Nat.le_trans (Nat.le_mul_of_pos_right _ hb0) hm
  have hmb : m * i.bytes ≤ 140737488355328 := by rw [hib]; exact Nat.le_trans (Nat.mul_le_mul_right _ (by omega)) hm
  obtain ⟨v2, w', ρ', a1, a2, a3⟩ := app_row_gen (w := w) (H := H) (nid := nid) (t := t) (xT := xT) (by_ := by_) (v := v) ho (by rw [hvc]; rfl) hx2 hid hr hbr hin1 (zero_rels (hvr ρ) hvc m) (zero_atoms hza m) (by simp)
    (fun a c hroom => by rw [hy2]; exact app_roomZ hT hX hi hv his (by rw [hvc]; rfl) (by decide) hmb (by omega) hroom)
    (fun a c olds hol hg h48 => by rw [hy2]; exact app_growZ hT hX hi hv his (by decide) hmb (by omega) hnm hol hg (by rw [hib]; exact hb0) (by rw [hib]; exact h48))
    hm (fun e => hne e.symm) (hfresh nid (some (.row el ((l.drop k).take (n * 1) ++ List.replicate m z))) (by simp) (by simpa using hne))
  exact ⟨_, w', ρ', a1, a2, .inl ⟨v2, rfl, fun u hu => by cases hu; exact a3⟩⟩
end

theorem ok1_appZ {P : Program} {o : Oper} {R : RL} {H : HL} {L : Nat} {k : K1} {x y : Operand} {t xT : Nat} (el by_ id off n m : Nat) (full : Bool) (l : List SV) (z : SV) (ho : o.op = .call { callee := .builtin .append, args := #[x, y], argTypes := #[t, xT] })
    (hT : P.underlying t = some (.slice el)) (hX : P.underlying xT = some (.int .i64)) (hz : pzero P el = some z) (hza : z.atom = true) (hs : psz P el = some 1) (hb : pbytes P el = some by_) (hb0 : 0 < by_)
    (hx : ev R x = some (.sl id off n 1 full)) (hid : hk H id = some (.row el l)) (hin : off + n * 1 ≤ l.length) {v : Int} (hy : ev R y = some (.i v)) (hv : v = (m : Int)) (hm : (n + m) * by_ ≤ 140737488355328) (hl : H.length ≤ L)
    (h : k (some (.sl L 0 (n + m) 1 false)) [(id, none), (L, some (.row el ((l.drop off).take (n * 1) ++ List.replicate m z)))] [id] (L + 1)) : Ok1 P o R H L k := by
  subst hv
  have hid2 := hk_lt hl hid
  exact ok1_move hid2 (by simp) (lt_append_rowZ ho hT hX hz hza hs hb hb0 (ev_some hx) (hk_some hid) hin (ev_some hy) hm (by omega)) h
end Go.Sh
/- field's reference: Sub (f31), Bytes (f34), Is (f36), Of (f23), walked. -/
namespace Go.Sh
open Go.Proofs
set_option maxHeartbeats 8000000
set_option linter.unusedSimpArgs false
set_option linter.unusedVariables false

theorem lt_b (x y : List UInt64) (i : Nat) : bo x y (i + 1) = if bd x y i < 65536 then 1 else 0 := bo_s x y i
attribute [local irreducible] dg bo bd bp difP pp le32 oPL sumP
theorem f31 {u v : Nat} (hu : u < P25519) (hv : v < P25519) (f g : Bool) : SCall Try.prog 31 [.sl 0 0 16 1 f, .sl 1 0 16 1 g] [some (.ro ((dg u).map .u64)), some (.ro ((dg v).map .u64))] (.sl 2 0 16 1 true) [some (.ro ((dg u).map .u64)), some (.ro ((dg v).map .u64)), some (.row 25 ((dg ((u + (P25519 - v)) % P25519)).map .u64))] := by
  obtain ⟨W, w1, w2, w3⟩ := difP_ok hu hv
  have h84 := f84 (difP u v) (.inl (difP_len u v)) W w1 w2 true
  rw [w3, difP_len u v] at h84
  have hul := dg_len u
  have hvl := dg_len v
  have hpl := pp_len
  refine scall_of ttOk (by kernel_rfl : Try.prog.funcs[31]? = some Try.f31) rfl rfl rfl ?_
  try simp only [List.length_cons, List.length_nil, Nat.zero_add, Nat.reduceAdd]
  refine sw_ok ttOk mixed (by kernel_rfl) ?_
  conv => whnf
  repeat (first | (refine Exists.intro _ (And.intro bytesOf_all ?_); conv => whnf) | (refine Exists.intro _ (And.intro (bytesOf_cut rfl) ?_); conv => whnf) | (refine brT rfl ?_; conv => whnf) | (refine brF rfl ?_; conv => whnf) | (refine gdT rfl ?_; conv => whnf) | (refine gdF rfl ?_; conv => whnf) | (refine Exists.intro _ (And.intro (sload_all rfl (by first | rfl | (simp; done) | (simp; omega))) ?_); conv => whnf) | (refine Exists.intro _ (And.intro (sput_all rfl (by first | rfl | (simp; done) | (simp; omega))) ?_); conv => whnf) | (refine Exists.intro _ (And.intro rfl ?_); conv => whnf) | (refine pkT rfl ?_; conv => whnf) | (refine pkF rfl ?_; conv => whnf) | (refine gdT (by first | (simp; done) | fail) ?_; conv => whnf) | (refine gdF (by first | (simp; done) | fail) ?_; conv => whnf) | (refine brT (by first | (simp; done) | fail) ?_; conv => whnf) | (refine brF (by first | (simp; done) | fail) ?_; conv => whnf) | (refine pkT (by first | (simp; done) | fail) ?_; conv => whnf) | (refine pkF (by first | (simp; done) | fail) ?_; conv => whnf) | (refine And.intro ⟨rfl, rfl⟩ ?_; conv => whnf) | (refine And.intro (by first | omega | (simp; done) | (simp; omega) | (simp [ti5]; omega)) ?_; conv => whnf) | (refine And.intro (Nat.le_of_ble_eq_true rfl) ?_; conv => whnf) | (refine And.intro ⟨rfl, Nat.le_of_ble_eq_true rfl⟩ ?_; conv => whnf) | (refine And.intro ⟨Nat.le_of_ble_eq_true rfl, Nat.le_of_ble_eq_true rfl⟩ ?_; conv => whnf) | (refine And.intro ⟨Nat.le_of_ble_eq_true rfl, Nat.le_of_ble_eq_true rfl, Nat.le_of_ble_eq_true rfl⟩ ?_; conv => whnf) | (refine And.intro ⟨Nat.le_of_ble_eq_true rfl, Nat.le_of_ble_eq_true rfl, Nat.le_of_ble_eq_true rfl, Nat.le_of_ble_eq_true rfl⟩ ?_; conv => whnf) | (refine And.intro (by kernel_rfl) ?_; conv => whnf) | (refine And.intro ⟨by first | exact @rfl Nat _ | omega | (simp; done) | (simp; omega) | exact Nat.le_of_ble_eq_true rfl | (show _ * 4 ≤ _; omega) | decide | (simp [ti5]; done) | (simp [ti5]; omega) | (simp only [ti5, List.length_map]; omega) | (simp only [ti5_sz, ti25_sz, List.length_map, List.length_set]; omega) | fail, by first | exact @rfl Nat _ | omega | (simp; done) | (simp; omega) | exact Nat.le_of_ble_eq_true rfl | (show _ * 4 ≤ _; omega) | decide | (simp [ti5]; done) | (simp [ti5]; omega) | (simp only [ti5, List.length_map]; omega) | (simp only [ti5_sz, ti25_sz, List.length_map, List.length_set]; omega) | fail⟩ ?_; conv => whnf) | (refine And.intro ⟨by first | exact @rfl Nat _ | omega | (simp; done) | (simp; omega) | exact Nat.le_of_ble_eq_true rfl | (show _ * 4 ≤ _; omega) | decide | (simp [ti5]; done) | (simp [ti5]; omega) | (simp only [ti5, List.length_map]; omega) | (simp only [ti5_sz, ti25_sz, List.length_map, List.length_set]; omega) | fail, by first | exact @rfl Nat _ | omega | (simp; done) | (simp; omega) | exact Nat.le_of_ble_eq_true rfl | (show _ * 4 ≤ _; omega) | decide | (simp [ti5]; done) | (simp [ti5]; omega) | (simp only [ti5, List.length_map]; omega) | (simp only [ti5_sz, ti25_sz, List.length_map, List.length_set]; omega) | fail, by first | exact @rfl Nat _ | omega | (simp; done) | (simp; omega) | exact Nat.le_of_ble_eq_true rfl | (show _ * 4 ≤ _; omega) | decide | (simp [ti5]; done) | (simp [ti5]; omega) | (simp only [ti5, List.length_map]; omega) | (simp only [ti5_sz, ti25_sz, List.length_map, List.length_set]; omega) | fail⟩ ?_; conv => whnf) | (refine And.intro ⟨by first | exact @rfl Nat _ | omega | (simp; done) | (simp; omega) | exact Nat.le_of_ble_eq_true rfl | (show _ * 4 ≤ _; omega) | decide | (simp [ti5]; done) | (simp [ti5]; omega) | (simp only [ti5, List.length_map]; omega) | (simp only [ti5_sz, ti25_sz, List.length_map, List.length_set]; omega) | fail, by first | exact @rfl Nat _ | omega | (simp; done) | (simp; omega) | exact Nat.le_of_ble_eq_true rfl | (show _ * 4 ≤ _; omega) | decide | (simp [ti5]; done) | (simp [ti5]; omega) | (simp only [ti5, List.length_map]; omega) | (simp only [ti5_sz, ti25_sz, List.length_map, List.length_set]; omega) | fail, by first | exact @rfl Nat _ | omega | (simp; done) | (simp; omega) | exact Nat.le_of_ble_eq_true rfl | (show _ * 4 ≤ _; omega) | decide | (simp [ti5]; done) | (simp [ti5]; omega) | (simp only [ti5, List.length_map]; omega) | (simp only [ti5_sz, ti25_sz, List.length_map, List.length_set]; omega) | fail, by first | exact @rfl Nat _ | omega | (simp; done) | (simp; omega) | exact Nat.le_of_ble_eq_true rfl | (show _ * 4 ≤ _; omega) | decide | (simp [ti5]; done) | (simp [ti5]; omega) | (simp only [ti5, List.length_map]; omega) | (simp only [ti5_sz, ti25_sz, List.length_map, List.length_set]; omega) | fail⟩ ?_; conv => whnf) | fail)
  refine ok1_callF [] [true] false (f89) rfl rfl ⟨⟨rfl, by first | rfl | ((repeat' (first | exact wk_nil | exact ren_z8 | exact ren_m8 rfl | exact ren_m32 rfl | exact ren_m64 rfl | exact ren_mi rfl | exact rfl | (refine wk_agg ?_) | (refine wk_cons ?_ ?_))); done) | (simp [renL, renV]; done) | (simp [renL, renV]; omega)⟩, trivial, by first | rfl | simp [plainHf, plainB], by first | rfl | simp [plainRf, plainR, plainT, plainW], ?_⟩
  conv => whnf
  repeat (first | (refine Exists.intro _ (And.intro bytesOf_all ?_); conv => whnf) | (refine Exists.intro _ (And.intro (bytesOf_cut rfl) ?_); conv => whnf) | (refine brT rfl ?_; conv => whnf) | (refine brF rfl ?_; conv => whnf) | (refine gdT rfl ?_; conv => whnf) | (refine gdF rfl ?_; conv => whnf) | (refine Exists.intro _ (And.intro (sload_all rfl (by first | rfl | (simp; done) | (simp; omega))) ?_); conv => whnf) | (refine Exists.intro _ (And.intro (sput_all rfl (by first | rfl | (simp; done) | (simp; omega))) ?_); conv => whnf) | (refine Exists.intro _ (And.intro rfl ?_); conv => whnf) | (refine pkT rfl ?_; conv => whnf) | (refine pkF rfl ?_; conv => whnf) | (refine gdT (by first | (simp; done) | fail) ?_; conv => whnf) | (refine gdF (by first | (simp; done) | fail) ?_; conv => whnf) | (refine brT (by first | (simp; done) | fail) ?_; conv => whnf) | (refine brF (by first | (simp; done) | fail) ?_; conv => whnf) | (refine pkT (by first | (simp; done) | fail) ?_; conv => whnf) | (refine pkF (by first | (simp; done) | fail) ?_; conv => whnf) | (refine And.intro ⟨rfl, rfl⟩ ?_; conv => whnf) | (refine And.intro (by first | omega | (simp; done) | (simp; omega) | (simp [ti5]; omega)) ?_; conv => whnf) | (refine And.intro (Nat.le_of_ble_eq_true rfl) ?_; conv => whnf) | (refine And.intro ⟨rfl, Nat.le_of_ble_eq_true rfl⟩ ?_; conv => whnf) | (refine And.intro ⟨Nat.le_of_ble_eq_true rfl, Nat.le_of_ble_eq_true rfl⟩ ?_; conv => whnf) | (refine And.intro ⟨Nat.le_of_ble_eq_true rfl, Nat.le_of_ble_eq_true rfl, Nat.le_of_ble_eq_true rfl⟩ ?_; conv => whnf) | (refine And.intro ⟨Nat.le_of_ble_eq_true rfl, Nat.le_of_ble_eq_true rfl, Nat.le_of_ble_eq_true rfl, Nat.le_of_ble_eq_true rfl⟩ ?_; conv => whnf) | (refine And.intro (by kernel_rfl) ?_; conv => whnf) | (refine And.intro ⟨by first | exact @rfl Nat _ | omega | (simp; done) | (simp; omega) | exact Nat.le_of_ble_eq_true rfl | (show _ * 4 ≤ _; omega) | decide | (simp [ti5]; done) | (simp [ti5]; omega) | (simp only [ti5, List.length_map]; omega) | (simp only [ti5_sz, ti25_sz, List.length_map, List.length_set]; omega) | fail, by first | exact @rfl Nat _ | omega | (simp; done) | (simp; omega) | exact Nat.le_of_ble_eq_true rfl | (show _ * 4 ≤ _; omega) | decide | (simp [ti5]; done) | (simp [ti5]; omega) | (simp only [ti5, List.length_map]; omega) | (simp only [ti5_sz, ti25_sz, List.length_map, List.length_set]; omega) | fail⟩ ?_; conv => whnf) | (refine And.intro ⟨by first | exact @rfl Nat _ | omega | (simp; done) | (simp; omega) | exact Nat.le_of_ble_eq_true rfl | (show _ * 4 ≤ _; omega) | decide | (simp [ti5]; done) | (simp [ti5]; omega) | (simp only [ti5, List.length_map]; omega) | (simp only [ti5_sz, ti25_sz, List.length_map, List.length_set]; omega) | fail, by first | exact @rfl Nat _ | omega | (simp; done) | (simp; omega) | exact Nat.le_of_ble_eq_true rfl | (show _ * 4 ≤ _; omega) | decide | (simp [ti5]; done) | (simp [ti5]; omega) | (simp only [ti5, List.length_map]; omega) | (simp only [ti5_sz, ti25_sz, List.length_map, List.length_set]; omega) | fail, by first | exact @rfl Nat _ | omega | (simp; done) | (simp; omega) | exact Nat.le_of_ble_eq_true rfl | (show _ * 4 ≤ _; omega) | decide | (simp [ti5]; done) | (simp [ti5]; omega) | (simp only [ti5, List.length_map]; omega) | (simp only [ti5_sz, ti25_sz, List.length_map, List.length_set]; omega) | fail⟩ ?_; conv => whnf) | (refine And.intro ⟨by first | exact @rfl Nat _ | omega | (simp; done) | (simp; omega) | exact Nat.le_of_ble_eq_true rfl | (show _ * 4 ≤ _; omega) | decide | (simp [ti5]; done) | (simp [ti5]; omega) | (simp only [ti5, List.length_map]; omega) | (simp only [ti5_sz, ti25_sz, List.length_map, List.length_set]; omega) | fail, by first | exact @rfl Nat _ | omega | (simp; done) | (simp; omega) | exact Nat.le_of_ble_eq_true rfl | (show _ * 4 ≤ _; omega) | decide | (simp [ti5]; done) | (simp [ti5]; omega) | (simp only [ti5, List.length_map]; omega) | (simp only [ti5_sz, ti25_sz, List.length_map, List.length_set]; omega) | fail, by first | exact @rfl Nat _ | omega | (simp; done) | (simp; omega) | exact Nat.le_of_ble_eq_true rfl | (show _ * 4 ≤ _; omega) | decide | (simp [ti5]; done) | (simp [ti5]; omega) | (simp only [ti5, List.length_map]; omega) | (simp only [ti5_sz, ti25_sz, List.length_map, List.length_set]; omega) | fail, by first | exact @rfl Nat _ | omega | (simp; done) | (simp; omega) | exact Nat.le_of_ble_eq_true rfl | (show _ * 4 ≤ _; omega) | decide | (simp [ti5]; done) | (simp [ti5]; omega) | (simp only [ti5, List.length_map]; omega) | (simp only [ti5_sz, ti25_sz, List.length_map, List.length_set]; omega) | fail⟩ ?_; conv => whnf) | fail)
  refine loop_rule ttOk mixed (by kernel_rfl) (ι := { i : Nat // i ≤ 16 }) (fun i => [(0, .sl 0 0 16 1 f), (1, .sl 1 0 16 1 g), (5, .sl 2 0 16 1 true), (6, .sl 3 0 16 1 true), (7, .u64 (bo (dg u) (dg v) i.1)), (8, .i (i.1 : Int))]) (fun i => [some (.ro ((dg u).map .u64)), some (.ro ((dg v).map .u64)), some (.row 25 (pp.map .u64)), some (.row 25 ((fil 16 i.1 (bp (dg u) (dg v)) (fun _ => 0)).map .u64))]) (fun _ => 4) (fun i => 16 - i.1) ⟨0, by omega⟩ ?_ ?_
  · have hz : fil 16 0 (bp (dg u) (dg v)) (fun _ => 0) = List.replicate 16 0 := fil_zero ..
    have hz2 := bo_0 (dg u) (dg v)
    dsimp only
    rw [hz]
    refine Weak.sel [0, 1, 2, 3] rfl rfl ?_ ?_ rfl rfl
    · (repeat' (first | exact trivial | exact ren_z8 | exact ren_zi | exact ren_z32 | exact ren_z64 | refine And.intro ?_ ?_ | (refine wk_tup ?_) | (refine wk_agg ?_) | (refine wk_cons ?_ ?_))) <;> first | exact ren_m8 (by first | exact hz2 | exact hz2.symm | fail) | exact wk_i (by first | exact hz2 | exact hz2.symm | fail) | exact wk_u64 (by first | exact hz2 | exact hz2.symm | fail) | exact ren_z8 | exact ren_zi | exact ren_z32 | exact ren_z64 | rfl | exact wk_i (by first | rfl | exact hz2 | exact hz2.symm | omega | (simp [hz2]; done) | (simp [hz2]; omega) | fail) | exact wk_sl rfl (by first | rfl | exact hz2 | exact hz2.symm | omega | (simp [hz2]; done) | (simp [hz2]; omega) | fail) (by first | rfl | exact hz2 | exact hz2.symm | omega | (simp [hz2]; done) | (simp [hz2]; omega) | fail) | exact ren_eq (by first | rfl | (simp; done) | fail) (by first | rfl | exact hz2 | exact hz2.symm | omega | (simp [hz2]; done) | (simp [hz2]; omega) | fail) | exact ren_app2 (by first | rfl | (simp; done) | fail) (by first | rfl | (simp; done) | fail) rfl | exact wk_u64 (by first | rfl | exact hz2 | exact hz2.symm | omega | (simp [hz2]; done) | (simp [hz2]; omega) | fail) | exact wk_u8 (by first | rfl | exact hz2 | exact hz2.symm | omega | (simp [hz2]; done) | (simp [hz2]; omega) | fail) | exact wk_u32 (by first | rfl | exact hz2 | exact hz2.symm | omega | (simp [hz2]; done) | (simp [hz2]; omega) | fail) | exact wk_b (by first | rfl | exact hz2 | exact hz2.symm | omega | (simp [hz2]; done) | (simp [hz2]; omega) | fail) | exact ren_m8 (by first | rfl | exact hz2 | exact hz2.symm | omega | (simp [hz2]; done) | (simp [hz2]; omega) | fail) | exact ren_m32 (by first | rfl | exact hz2 | exact hz2.symm | omega | (simp [hz2]; done) | (simp [hz2]; omega) | fail) | exact ren_m64 (by first | rfl | exact hz2 | exact hz2.symm | omega | (simp [hz2]; done) | (simp [hz2]; omega) | fail) | exact ren_mi (by first | rfl | exact hz2 | exact hz2.symm | omega | (simp [hz2]; done) | (simp [hz2]; omega) | fail) | skip
    · (repeat' (first | exact trivial | exact ren_z8 | exact ren_zi | exact ren_z32 | exact ren_z64 | refine And.intro ?_ ?_ | (refine wk_tup ?_) | (refine wk_agg ?_) | (refine wk_cons ?_ ?_))) <;> first | exact ren_m8 (by first | exact hz2 | exact hz2.symm | fail) | exact wk_i (by first | exact hz2 | exact hz2.symm | fail) | exact wk_u64 (by first | exact hz2 | exact hz2.symm | fail) | exact ren_z8 | exact ren_zi | exact ren_z32 | exact ren_z64 | rfl | exact wk_i (by first | rfl | exact hz2 | exact hz2.symm | omega | (simp [hz2]; done) | (simp [hz2]; omega) | fail) | exact wk_sl rfl (by first | rfl | exact hz2 | exact hz2.symm | omega | (simp [hz2]; done) | (simp [hz2]; omega) | fail) (by first | rfl | exact hz2 | exact hz2.symm | omega | (simp [hz2]; done) | (simp [hz2]; omega) | fail) | exact ren_eq (by first | rfl | (simp; done) | fail) (by first | rfl | exact hz2 | exact hz2.symm | omega | (simp [hz2]; done) | (simp [hz2]; omega) | fail) | exact ren_app2 (by first | rfl | (simp; done) | fail) (by first | rfl | (simp; done) | fail) rfl | exact wk_u64 (by first | rfl | exact hz2 | exact hz2.symm | omega | (simp [hz2]; done) | (simp [hz2]; omega) | fail) | exact wk_u8 (by first | rfl | exact hz2 | exact hz2.symm | omega | (simp [hz2]; done) | (simp [hz2]; omega) | fail) | exact wk_u32 (by first | rfl | exact hz2 | exact hz2.symm | omega | (simp [hz2]; done) | (simp [hz2]; omega) | fail) | exact wk_b (by first | rfl | exact hz2 | exact hz2.symm | omega | (simp [hz2]; done) | (simp [hz2]; omega) | fail) | exact ren_m8 (by first | rfl | exact hz2 | exact hz2.symm | omega | (simp [hz2]; done) | (simp [hz2]; omega) | fail) | exact ren_m32 (by first | rfl | exact hz2 | exact hz2.symm | omega | (simp [hz2]; done) | (simp [hz2]; omega) | fail) | exact ren_m64 (by first | rfl | exact hz2 | exact hz2.symm | omega | (simp [hz2]; done) | (simp [hz2]; omega) | fail) | exact ren_mi (by first | rfl | exact hz2 | exact hz2.symm | omega | (simp [hz2]; done) | (simp [hz2]; omega) | fail) | skip
  · rintro ⟨i, hi⟩
    have hfl := fil_len 16 i (bp (dg u) (dg v)) (fun _ => (0 : UInt64))
    dsimp only
    by_cases hi2 : i < 16
    · have hlt : decide ((i : Int) < 16) = true := by simp; omega
      have hp1 : w64 ((i : Int) + 1) = ((i + 1 : Nat) : Int) := by simp only [w64_eq]; omega
      have hbd := bd_e (dg u) (dg v) i
      have hbp := bp_e (dg u) (dg v) i
      have hbs := bo_s (dg u) (dg v) i
      by_cases hc : bd (dg u) (dg v) i < 65536
      · rw [if_pos hc] at hbs
        have hg : decide (65536 + (dg u).getD i 0 + pp.getD i 0 - (dg v).getD i 0 - bo (dg u) (dg v) i < 65536) = true := by rw [← hbd]; exact decide_eq_true hc
        have hst := fil_setx (g := fun _ => (0 : UInt64)) (f := bp (dg u) (dg v)) (x := 65536 + (dg u).getD i 0 + pp.getD i 0 - (dg v).getD i 0 - bo (dg u) (dg v) i - 65536 * (1 - 1)) hi2 (by rw [hbp, hbd, hbs])
        conv => whnf
        first | refine brT (by exact hlt) ?_ | intro _
        conv => whnf
        repeat (first | (refine Exists.intro _ (And.intro bytesOf_all ?_); conv => whnf) | (refine Exists.intro _ (And.intro (bytesOf_cut rfl) ?_); conv => whnf) | (refine brT rfl ?_; conv => whnf) | (refine brF rfl ?_; conv => whnf) | (refine gdT rfl ?_; conv => whnf) | (refine gdF rfl ?_; conv => whnf) | (refine Exists.intro _ (And.intro (sload_all rfl (by first | rfl | (simp [hfl, hul, hvl, hpl]; done) | (simp [hfl, hul, hvl, hpl]; omega))) ?_); conv => whnf) | (refine Exists.intro _ (And.intro (sput_all rfl (by first | rfl | (simp [hfl, hul, hvl, hpl]; done) | (simp [hfl, hul, hvl, hpl]; omega))) ?_); conv => whnf) | (refine Exists.intro _ (And.intro (sload_end (by first | rfl | (simp [hfl, hul, hvl, hpl]; done) | (simp [hfl, hul, hvl, hpl]; omega))) ?_); conv => whnf) | (refine Exists.intro _ (And.intro (sput_end (by first | rfl | (simp [hfl, hul, hvl, hpl]; done) | (simp [hfl, hul, hvl, hpl]; omega)) rfl) ?_); conv => whnf) | (refine Exists.intro _ (And.intro (sput_m64 (i := i) (by first | rfl | omega | (simp; done) | (simp; omega))) ?_); conv => whnf) | (refine Exists.intro _ (And.intro (sload_u64 (i := i) (by first | rfl | omega | (simp; done) | (simp; omega)) (by first | omega | (simp [hfl, hul, hvl, hpl]; done) | (simp [hfl, hul, hvl, hpl]; omega))) ?_); conv => whnf) | (refine Exists.intro _ (And.intro (idx_i (m := i) (by first | rfl | omega | (simp; done) | (simp; omega))) ?_); conv => whnf) | (refine Exists.intro _ (And.intro (evb_i (m := i) rfl (by first | rfl | omega | (simp; done) | (simp; omega))) ?_); conv => whnf) | (refine gdT hg ?_; conv => whnf) | (refine gdF hg ?_; conv => whnf) | (refine brT hg ?_; conv => whnf) | (refine brF hg ?_; conv => whnf) | (refine pkT hg ?_; conv => whnf) | (refine pkF hg ?_; conv => whnf) | (refine Exists.intro _ (And.intro rfl ?_); conv => whnf) | (refine pkT rfl ?_; conv => whnf) | (refine pkF rfl ?_; conv => whnf) | (refine gdT (by first | (simp; done) | fail) ?_; conv => whnf) | (refine gdF (by first | (simp; done) | fail) ?_; conv => whnf) | (refine brT (by first | (simp; done) | fail) ?_; conv => whnf) | (refine brF (by first | (simp; done) | fail) ?_; conv => whnf) | (refine pkT (by first | (simp; done) | fail) ?_; conv => whnf) | (refine pkF (by first | (simp; done) | fail) ?_; conv => whnf) | (refine And.intro ⟨rfl, rfl⟩ ?_; conv => whnf) | (refine And.intro (by first | omega | (simp; done) | (simp; omega) | (simp [ti5]; omega)) ?_; conv => whnf) | (refine And.intro (Nat.le_of_ble_eq_true rfl) ?_; conv => whnf) | (refine And.intro ⟨rfl, Nat.le_of_ble_eq_true rfl⟩ ?_; conv => whnf) | (refine And.intro ⟨Nat.le_of_ble_eq_true rfl, Nat.le_of_ble_eq_true rfl⟩ ?_; conv => whnf) | (refine And.intro ⟨Nat.le_of_ble_eq_true rfl, Nat.le_of_ble_eq_true rfl, Nat.le_of_ble_eq_true rfl⟩ ?_; conv => whnf) | (refine And.intro ⟨Nat.le_of_ble_eq_true rfl, Nat.le_of_ble_eq_true rfl, Nat.le_of_ble_eq_true rfl, Nat.le_of_ble_eq_true rfl⟩ ?_; conv => whnf) | (refine And.intro (by kernel_rfl) ?_; conv => whnf) | (refine And.intro ⟨by first | exact @rfl Nat _ | omega | (simp [hfl, hul, hvl, hpl]; done) | (simp [hfl, hul, hvl, hpl]; omega) | exact Nat.le_of_ble_eq_true rfl | (show _ * 4 ≤ _; omega) | decide | (simp [hfl, hul, hvl, hpl, ti5]; done) | (simp [hfl, hul, hvl, hpl, ti5]; omega) | (simp only [hfl, hul, hvl, hpl, ti5, List.length_map]; omega) | (simp only [hfl, hul, hvl, hpl, ti5_sz, ti25_sz, List.length_map, List.length_set]; omega) | fail, by first | exact @rfl Nat _ | omega | (simp [hfl, hul, hvl, hpl]; done) | (simp [hfl, hul, hvl, hpl]; omega) | exact Nat.le_of_ble_eq_true rfl | (show _ * 4 ≤ _; omega) | decide | (simp [hfl, hul, hvl, hpl, ti5]; done) | (simp [hfl, hul, hvl, hpl, ti5]; omega) | (simp only [hfl, hul, hvl, hpl, ti5, List.length_map]; omega) | (simp only [hfl, hul, hvl, hpl, ti5_sz, ti25_sz, List.length_map, List.length_set]; omega) | fail⟩ ?_; conv => whnf) | (refine And.intro ⟨by first | exact @rfl Nat _ | omega | (simp [hfl, hul, hvl, hpl]; done) | (simp [hfl, hul, hvl, hpl]; omega) | exact Nat.le_of_ble_eq_true rfl | (show _ * 4 ≤ _; omega) | decide | (simp [hfl, hul, hvl, hpl, ti5]; done) | (simp [hfl, hul, hvl, hpl, ti5]; omega) | (simp only [hfl, hul, hvl, hpl, ti5, List.length_map]; omega) | (simp only [hfl, hul, hvl, hpl, ti5_sz, ti25_sz, List.length_map, List.length_set]; omega) | fail, by first | exact @rfl Nat _ | omega | (simp [hfl, hul, hvl, hpl]; done) | (simp [hfl, hul, hvl, hpl]; omega) | exact Nat.le_of_ble_eq_true rfl | (show _ * 4 ≤ _; omega) | decide | (simp [hfl, hul, hvl, hpl, ti5]; done) | (simp [hfl, hul, hvl, hpl, ti5]; omega) | (simp only [hfl, hul, hvl, hpl, ti5, List.length_map]; omega) | (simp only [hfl, hul, hvl, hpl, ti5_sz, ti25_sz, List.length_map, List.length_set]; omega) | fail, by first | exact @rfl Nat _ | omega | (simp [hfl, hul, hvl, hpl]; done) | (simp [hfl, hul, hvl, hpl]; omega) | exact Nat.le_of_ble_eq_true rfl | (show _ * 4 ≤ _; omega) | decide | (simp [hfl, hul, hvl, hpl, ti5]; done) | (simp [hfl, hul, hvl, hpl, ti5]; omega) | (simp only [hfl, hul, hvl, hpl, ti5, List.length_map]; omega) | (simp only [hfl, hul, hvl, hpl, ti5_sz, ti25_sz, List.length_map, List.length_set]; omega) | fail⟩ ?_; conv => whnf) | (refine And.intro ⟨by first | exact @rfl Nat _ | omega | (simp [hfl, hul, hvl, hpl]; done) | (simp [hfl, hul, hvl, hpl]; omega) | exact Nat.le_of_ble_eq_true rfl | (show _ * 4 ≤ _; omega) | decide | (simp [hfl, hul, hvl, hpl, ti5]; done) | (simp [hfl, hul, hvl, hpl, ti5]; omega) | (simp only [hfl, hul, hvl, hpl, ti5, List.length_map]; omega) | (simp only [hfl, hul, hvl, hpl, ti5_sz, ti25_sz, List.length_map, List.length_set]; omega) | fail, by first | exact @rfl Nat _ | omega | (simp [hfl, hul, hvl, hpl]; done) | (simp [hfl, hul, hvl, hpl]; omega) | exact Nat.le_of_ble_eq_true rfl | (show _ * 4 ≤ _; omega) | decide | (simp [hfl, hul, hvl, hpl, ti5]; done) | (simp [hfl, hul, hvl, hpl, ti5]; omega) | (simp only [hfl, hul, hvl, hpl, ti5, List.length_map]; omega) | (simp only [hfl, hul, hvl, hpl, ti5_sz, ti25_sz, List.length_map, List.length_set]; omega) | fail, by first | exact @rfl Nat _ | omega | (simp [hfl, hul, hvl, hpl]; done) | (simp [hfl, hul, hvl, hpl]; omega) | exact Nat.le_of_ble_eq_true rfl | (show _ * 4 ≤ _; omega) | decide | (simp [hfl, hul, hvl, hpl, ti5]; done) | (simp [hfl, hul, hvl, hpl, ti5]; omega) | (simp only [hfl, hul, hvl, hpl, ti5, List.length_map]; omega) | (simp only [hfl, hul, hvl, hpl, ti5_sz, ti25_sz, List.length_map, List.length_set]; omega) | fail, by first | exact @rfl Nat _ | omega | (simp [hfl, hul, hvl, hpl]; done) | (simp [hfl, hul, hvl, hpl]; omega) | exact Nat.le_of_ble_eq_true rfl | (show _ * 4 ≤ _; omega) | decide | (simp [hfl, hul, hvl, hpl, ti5]; done) | (simp [hfl, hul, hvl, hpl, ti5]; omega) | (simp only [hfl, hul, hvl, hpl, ti5, List.length_map]; omega) | (simp only [hfl, hul, hvl, hpl, ti5_sz, ti25_sz, List.length_map, List.length_set]; omega) | fail⟩ ?_; conv => whnf) | (refine And.intro (by first | (simp [hfl, hul, hvl, hpl]; done) | (simp [hfl, hul, hvl, hpl]; omega) | fail) ?_; conv => whnf) | fail)
        refine ⟨⟨i + 1, by omega⟩, by simp only; omega, ?_⟩
        refine Weak.sel [0, 1, 2, 3] rfl rfl ?_ ?_ rfl rfl
        · (repeat' (first | exact trivial | exact ren_z8 | exact ren_zi | exact ren_z32 | exact ren_z64 | refine And.intro ?_ ?_ | (refine wk_tup ?_) | (refine wk_agg ?_) | (refine wk_cons ?_ ?_))) <;> first | exact ren_m8 (by first | exact hp1 | exact hp1.symm | exact hst | exact hst.symm | exact hbs | exact hbs.symm | fail) | exact wk_i (by first | exact hp1 | exact hp1.symm | exact hst | exact hst.symm | exact hbs | exact hbs.symm | fail) | exact wk_u64 (by first | exact hp1 | exact hp1.symm | exact hst | exact hst.symm | exact hbs | exact hbs.symm | fail) | exact ren_z8 | exact ren_zi | exact ren_z32 | exact ren_z64 | rfl | exact wk_i (by first | rfl | exact hp1 | exact hp1.symm | exact hst | exact hst.symm | exact hbs | exact hbs.symm | omega | (simp [hp1, hst, hbs]; done) | (simp [hp1, hst, hbs]; omega) | fail) | exact wk_sl rfl (by first | rfl | exact hp1 | exact hp1.symm | exact hst | exact hst.symm | exact hbs | exact hbs.symm | omega | (simp [hp1, hst, hbs]; done) | (simp [hp1, hst, hbs]; omega) | fail) (by first | rfl | exact hp1 | exact hp1.symm | exact hst | exact hst.symm | exact hbs | exact hbs.symm | omega | (simp [hp1, hst, hbs]; done) | (simp [hp1, hst, hbs]; omega) | fail) | exact ren_eq (by first | rfl | (simp; done) | fail) (by first | rfl | exact hp1 | exact hp1.symm | exact hst | exact hst.symm | exact hbs | exact hbs.symm | omega | (simp [hp1, hst, hbs]; done) | (simp [hp1, hst, hbs]; omega) | fail) | exact ren_app2 (by first | rfl | (simp; done) | fail) (by first | rfl | (simp; done) | fail) rfl | exact wk_u64 (by first | rfl | exact hp1 | exact hp1.symm | exact hst | exact hst.symm | exact hbs | exact hbs.symm | omega | (simp [hp1, hst, hbs]; done) | (simp [hp1, hst, hbs]; omega) | fail) | exact wk_u8 (by first | rfl | exact hp1 | exact hp1.symm | exact hst | exact hst.symm | exact hbs | exact hbs.symm | omega | (simp [hp1, hst, hbs]; done) | (simp [hp1, hst, hbs]; omega) | fail) | exact wk_u32 (by first | rfl | exact hp1 | exact hp1.symm | exact hst | exact hst.symm | exact hbs | exact hbs.symm | omega | (simp [hp1, hst, hbs]; done) | (simp [hp1, hst, hbs]; omega) | fail) | exact wk_b (by first | rfl | exact hp1 | exact hp1.symm | exact hst | exact hst.symm | exact hbs | exact hbs.symm | omega | (simp [hp1, hst, hbs]; done) | (simp [hp1, hst, hbs]; omega) | fail) | exact ren_m8 (by first | rfl | exact hp1 | exact hp1.symm | exact hst | exact hst.symm | exact hbs | exact hbs.symm | omega | (simp [hp1, hst, hbs]; done) | (simp [hp1, hst, hbs]; omega) | fail) | exact ren_m32 (by first | rfl | exact hp1 | exact hp1.symm | exact hst | exact hst.symm | exact hbs | exact hbs.symm | omega | (simp [hp1, hst, hbs]; done) | (simp [hp1, hst, hbs]; omega) | fail) | exact ren_m64 (by first | rfl | exact hp1 | exact hp1.symm | exact hst | exact hst.symm | exact hbs | exact hbs.symm | omega | (simp [hp1, hst, hbs]; done) | (simp [hp1, hst, hbs]; omega) | fail) | exact ren_mi (by first | rfl | exact hp1 | exact hp1.symm | exact hst | exact hst.symm | exact hbs | exact hbs.symm | omega | (simp [hp1, hst, hbs]; done) | (simp [hp1, hst, hbs]; omega) | fail) | skip
        · (repeat' (first | exact trivial | exact ren_z8 | exact ren_zi | exact ren_z32 | exact ren_z64 | refine And.intro ?_ ?_ | (refine wk_tup ?_) | (refine wk_agg ?_) | (refine wk_cons ?_ ?_))) <;> first | exact ren_m8 (by first | exact hp1 | exact hp1.symm | exact hst | exact hst.symm | exact hbs | exact hbs.symm | fail) | exact wk_i (by first | exact hp1 | exact hp1.symm | exact hst | exact hst.symm | exact hbs | exact hbs.symm | fail) | exact wk_u64 (by first | exact hp1 | exact hp1.symm | exact hst | exact hst.symm | exact hbs | exact hbs.symm | fail) | exact ren_z8 | exact ren_zi | exact ren_z32 | exact ren_z64 | rfl | exact wk_i (by first | rfl | exact hp1 | exact hp1.symm | exact hst | exact hst.symm | exact hbs | exact hbs.symm | omega | (simp [hp1, hst, hbs]; done) | (simp [hp1, hst, hbs]; omega) | fail) | exact wk_sl rfl (by first | rfl | exact hp1 | exact hp1.symm | exact hst | exact hst.symm | exact hbs | exact hbs.symm | omega | (simp [hp1, hst, hbs]; done) | (simp [hp1, hst, hbs]; omega) | fail) (by first | rfl | exact hp1 | exact hp1.symm | exact hst | exact hst.symm | exact hbs | exact hbs.symm | omega | (simp [hp1, hst, hbs]; done) | (simp [hp1, hst, hbs]; omega) | fail) | exact ren_eq (by first | rfl | (simp; done) | fail) (by first | rfl | exact hp1 | exact hp1.symm | exact hst | exact hst.symm | exact hbs | exact hbs.symm | omega | (simp [hp1, hst, hbs]; done) | (simp [hp1, hst, hbs]; omega) | fail) | exact ren_app2 (by first | rfl | (simp; done) | fail) (by first | rfl | (simp; done) | fail) rfl | exact wk_u64 (by first | rfl | exact hp1 | exact hp1.symm | exact hst | exact hst.symm | exact hbs | exact hbs.symm | omega | (simp [hp1, hst, hbs]; done) | (simp [hp1, hst, hbs]; omega) | fail) | exact wk_u8 (by first | rfl | exact hp1 | exact hp1.symm | exact hst | exact hst.symm | exact hbs | exact hbs.symm | omega | (simp [hp1, hst, hbs]; done) | (simp [hp1, hst, hbs]; omega) | fail) | exact wk_u32 (by first | rfl | exact hp1 | exact hp1.symm | exact hst | exact hst.symm | exact hbs | exact hbs.symm | omega | (simp [hp1, hst, hbs]; done) | (simp [hp1, hst, hbs]; omega) | fail) | exact wk_b (by first | rfl | exact hp1 | exact hp1.symm | exact hst | exact hst.symm | exact hbs | exact hbs.symm | omega | (simp [hp1, hst, hbs]; done) | (simp [hp1, hst, hbs]; omega) | fail) | exact ren_m8 (by first | rfl | exact hp1 | exact hp1.symm | exact hst | exact hst.symm | exact hbs | exact hbs.symm | omega | (simp [hp1, hst, hbs]; done) | (simp [hp1, hst, hbs]; omega) | fail) | exact ren_m32 (by first | rfl | exact hp1 | exact hp1.symm | exact hst | exact hst.symm | exact hbs | exact hbs.symm | omega | (simp [hp1, hst, hbs]; done) | (simp [hp1, hst, hbs]; omega) | fail) | exact ren_m64 (by first | rfl | exact hp1 | exact hp1.symm | exact hst | exact hst.symm | exact hbs | exact hbs.symm | omega | (simp [hp1, hst, hbs]; done) | (simp [hp1, hst, hbs]; omega) | fail) | exact ren_mi (by first | rfl | exact hp1 | exact hp1.symm | exact hst | exact hst.symm | exact hbs | exact hbs.symm | omega | (simp [hp1, hst, hbs]; done) | (simp [hp1, hst, hbs]; omega) | fail) | skip
      · rw [if_neg hc] at hbs
        have hg : decide (65536 + (dg u).getD i 0 + pp.getD i 0 - (dg v).getD i 0 - bo (dg u) (dg v) i < 65536) = false := by rw [← hbd]; exact decide_eq_false hc
        have hst := fil_setx (g := fun _ => (0 : UInt64)) (f := bp (dg u) (dg v)) (x := 65536 + (dg u).getD i 0 + pp.getD i 0 - (dg v).getD i 0 - bo (dg u) (dg v) i - 65536 * (1 - 0)) hi2 (by rw [hbp, hbd, hbs])
        conv => whnf
        first | refine brT (by exact hlt) ?_ | intro _
        conv => whnf
        repeat (first | (refine Exists.intro _ (And.intro bytesOf_all ?_); conv => whnf) | (refine Exists.intro _ (And.intro (bytesOf_cut rfl) ?_); conv => whnf) | (refine brT rfl ?_; conv => whnf) | (refine brF rfl ?_; conv => whnf) | (refine gdT rfl ?_; conv => whnf) | (refine gdF rfl ?_; conv => whnf) | (refine Exists.intro _ (And.intro (sload_all rfl (by first | rfl | (simp [hfl, hul, hvl, hpl]; done) | (simp [hfl, hul, hvl, hpl]; omega))) ?_); conv => whnf) | (refine Exists.intro _ (And.intro (sput_all rfl (by first | rfl | (simp [hfl, hul, hvl, hpl]; done) | (simp [hfl, hul, hvl, hpl]; omega))) ?_); conv => whnf) | (refine Exists.intro _ (And.intro (sload_end (by first | rfl | (simp [hfl, hul, hvl, hpl]; done) | (simp [hfl, hul, hvl, hpl]; omega))) ?_); conv => whnf) | (refine Exists.intro _ (And.intro (sput_end (by first | rfl | (simp [hfl, hul, hvl, hpl]; done) | (simp [hfl, hul, hvl, hpl]; omega)) rfl) ?_); conv => whnf) | (refine Exists.intro _ (And.intro (sput_m64 (i := i) (by first | rfl | omega | (simp; done) | (simp; omega))) ?_); conv => whnf) | (refine Exists.intro _ (And.intro (sload_u64 (i := i) (by first | rfl | omega | (simp; done) | (simp; omega)) (by first | omega | (simp [hfl, hul, hvl, hpl]; done) | (simp [hfl, hul, hvl, hpl]; omega))) ?_); conv => whnf) | (refine Exists.intro _ (And.intro (idx_i (m := i) (by first | rfl | omega | (simp; done) | (simp; omega))) ?_); conv => whnf) | (refine Exists.intro _ (And.intro (evb_i (m := i) rfl (by first | rfl | omega | (simp; done) | (simp; omega))) ?_); conv => whnf) | (refine gdT hg ?_; conv => whnf) | (refine gdF hg ?_; conv => whnf) | (refine brT hg ?_; conv => whnf) | (refine brF hg ?_; conv => whnf) | (refine pkT hg ?_; conv => whnf) | (refine pkF hg ?_; conv => whnf) | (refine Exists.intro _ (And.intro rfl ?_); conv => whnf) | (refine pkT rfl ?_; conv => whnf) | (refine pkF rfl ?_; conv => whnf) | (refine gdT (by first | (simp; done) | fail) ?_; conv => whnf) | (refine gdF (by first | (simp; done) | fail) ?_; conv => whnf) | (refine brT (by first | (simp; done) | fail) ?_; conv => whnf) | (refine brF (by first | (simp; done) | fail) ?_; conv => whnf) | (refine pkT (by first | (simp; done) | fail) ?_; conv => whnf) | (refine pkF (by first | (simp; done) | fail) ?_; conv => whnf) | (refine And.intro ⟨rfl, rfl⟩ ?_; conv => whnf) | (refine And.intro (by first | omega | (simp; done) | (simp; omega) | (simp [ti5]; omega)) ?_; conv => whnf) | (refine And.intro (Nat.le_of_ble_eq_true rfl) ?_; conv => whnf) | (refine And.intro ⟨rfl, Nat.le_of_ble_eq_true rfl⟩ ?_; conv => whnf) | (refine And.intro ⟨Nat.le_of_ble_eq_true rfl, Nat.le_of_ble_eq_true rfl⟩ ?_; conv => whnf) | (refine And.intro ⟨Nat.le_of_ble_eq_true rfl, Nat.le_of_ble_eq_true rfl, Nat.le_of_ble_eq_true rfl⟩ ?_; conv => whnf) | (refine And.intro ⟨Nat.le_of_ble_eq_true rfl, Nat.le_of_ble_eq_true rfl, Nat.le_of_ble_eq_true rfl, Nat.le_of_ble_eq_true rfl⟩ ?_; conv => whnf) | (refine And.intro (by kernel_rfl) ?_; conv => whnf) | (refine And.intro ⟨by first | exact @rfl Nat _ | omega | (simp [hfl, hul, hvl, hpl]; done) | (simp [hfl, hul, hvl, hpl]; omega) | exact Nat.le_of_ble_eq_true rfl | (show _ * 4 ≤ _; omega) | decide | (simp [hfl, hul, hvl, hpl, ti5]; done) | (simp [hfl, hul, hvl, hpl, ti5]; omega) | (simp only [hfl, hul, hvl, hpl, ti5, List.length_map]; omega) | (simp only [hfl, hul, hvl, hpl, ti5_sz, ti25_sz, List.length_map, List.length_set]; omega) | fail, by first | exact @rfl Nat _ | omega | (simp [hfl, hul, hvl, hpl]; done) | (simp [hfl, hul, hvl, hpl]; omega) | exact Nat.le_of_ble_eq_true rfl | (show _ * 4 ≤ _; omega) | decide | (simp [hfl, hul, hvl, hpl, ti5]; done) | (simp [hfl, hul, hvl, hpl, ti5]; omega) | (simp only [hfl, hul, hvl, hpl, ti5, List.length_map]; omega) | (simp only [hfl, hul, hvl, hpl, ti5_sz, ti25_sz, List.length_map, List.length_set]; omega) | fail⟩ ?_; conv => whnf) | (refine And.intro ⟨by first | exact @rfl Nat _ | omega | (simp [hfl, hul, hvl, hpl]; done) | (simp [hfl, hul, hvl, hpl]; omega) | exact Nat.le_of_ble_eq_true rfl | (show _ * 4 ≤ _; omega) | decide | (simp [hfl, hul, hvl, hpl, ti5]; done) | (simp [hfl, hul, hvl, hpl, ti5]; omega) | (simp only [hfl, hul, hvl, hpl, ti5, List.length_map]; omega) | (simp only [hfl, hul, hvl, hpl, ti5_sz, ti25_sz, List.length_map, List.length_set]; omega) | fail, by first | exact @rfl Nat _ | omega | (simp [hfl, hul, hvl, hpl]; done) | (simp [hfl, hul, hvl, hpl]; omega) | exact Nat.le_of_ble_eq_true rfl | (show _ * 4 ≤ _; omega) | decide | (simp [hfl, hul, hvl, hpl, ti5]; done) | (simp [hfl, hul, hvl, hpl, ti5]; omega) | (simp only [hfl, hul, hvl, hpl, ti5, List.length_map]; omega) | (simp only [hfl, hul, hvl, hpl, ti5_sz, ti25_sz, List.length_map, List.length_set]; omega) | fail, by first | exact @rfl Nat _ | omega | (simp [hfl, hul, hvl, hpl]; done) | (simp [hfl, hul, hvl, hpl]; omega) | exact Nat.le_of_ble_eq_true rfl | (show _ * 4 ≤ _; omega) | decide | (simp [hfl, hul, hvl, hpl, ti5]; done) | (simp [hfl, hul, hvl, hpl, ti5]; omega) | (simp only [hfl, hul, hvl, hpl, ti5, List.length_map]; omega) | (simp only [hfl, hul, hvl, hpl, ti5_sz, ti25_sz, List.length_map, List.length_set]; omega) | fail⟩ ?_; conv => whnf) | (refine And.intro ⟨by first | exact @rfl Nat _ | omega | (simp [hfl, hul, hvl, hpl]; done) | (simp [hfl, hul, hvl, hpl]; omega) | exact Nat.le_of_ble_eq_true rfl | (show _ * 4 ≤ _; omega) | decide | (simp [hfl, hul, hvl, hpl, ti5]; done) | (simp [hfl, hul, hvl, hpl, ti5]; omega) | (simp only [hfl, hul, hvl, hpl, ti5, List.length_map]; omega) | (simp only [hfl, hul, hvl, hpl, ti5_sz, ti25_sz, List.length_map, List.length_set]; omega) | fail, by first | exact @rfl Nat _ | omega | (simp [hfl, hul, hvl, hpl]; done) | (simp [hfl, hul, hvl, hpl]; omega) | exact Nat.le_of_ble_eq_true rfl | (show _ * 4 ≤ _; omega) | decide | (simp [hfl, hul, hvl, hpl, ti5]; done) | (simp [hfl, hul, hvl, hpl, ti5]; omega) | (simp only [hfl, hul, hvl, hpl, ti5, List.length_map]; omega) | (simp only [hfl, hul, hvl, hpl, ti5_sz, ti25_sz, List.length_map, List.length_set]; omega) | fail, by first | exact @rfl Nat _ | omega | (simp [hfl, hul, hvl, hpl]; done) | (simp [hfl, hul, hvl, hpl]; omega) | exact Nat.le_of_ble_eq_true rfl | (show _ * 4 ≤ _; omega) | decide | (simp [hfl, hul, hvl, hpl, ti5]; done) | (simp [hfl, hul, hvl, hpl, ti5]; omega) | (simp only [hfl, hul, hvl, hpl, ti5, List.length_map]; omega) | (simp only [hfl, hul, hvl, hpl, ti5_sz, ti25_sz, List.length_map, List.length_set]; omega) | fail, by first | exact @rfl Nat _ | omega | (simp [hfl, hul, hvl, hpl]; done) | (simp [hfl, hul, hvl, hpl]; omega) | exact Nat.le_of_ble_eq_true rfl | (show _ * 4 ≤ _; omega) | decide | (simp [hfl, hul, hvl, hpl, ti5]; done) | (simp [hfl, hul, hvl, hpl, ti5]; omega) | (simp only [hfl, hul, hvl, hpl, ti5, List.length_map]; omega) | (simp only [hfl, hul, hvl, hpl, ti5_sz, ti25_sz, List.length_map, List.length_set]; omega) | fail⟩ ?_; conv => whnf) | (refine And.intro (by first | (simp [hfl, hul, hvl, hpl]; done) | (simp [hfl, hul, hvl, hpl]; omega) | fail) ?_; conv => whnf) | fail)
        refine ⟨⟨i + 1, by omega⟩, by simp only; omega, ?_⟩
        refine Weak.sel [0, 1, 2, 3] rfl rfl ?_ ?_ rfl rfl
        · (repeat' (first | exact trivial | exact ren_z8 | exact ren_zi | exact ren_z32 | exact ren_z64 | refine And.intro ?_ ?_ | (refine wk_tup ?_) | (refine wk_agg ?_) | (refine wk_cons ?_ ?_))) <;> first | exact ren_m8 (by first | exact hp1 | exact hp1.symm | exact hst | exact hst.symm | exact hbs | exact hbs.symm | fail) | exact wk_i (by first | exact hp1 | exact hp1.symm | exact hst | exact hst.symm | exact hbs | exact hbs.symm | fail) | exact wk_u64 (by first | exact hp1 | exact hp1.symm | exact hst | exact hst.symm | exact hbs | exact hbs.symm | fail) | exact ren_z8 | exact ren_zi | exact ren_z32 | exact ren_z64 | rfl | exact wk_i (by first | rfl | exact hp1 | exact hp1.symm | exact hst | exact hst.symm | exact hbs | exact hbs.symm | omega | (simp [hp1, hst, hbs]; done) | (simp [hp1, hst, hbs]; omega) | fail) | exact wk_sl rfl (by first | rfl | exact hp1 | exact hp1.symm | exact hst | exact hst.symm | exact hbs | exact hbs.symm | omega | (simp [hp1, hst, hbs]; done) | (simp [hp1, hst, hbs]; omega) | fail) (by first | rfl | exact hp1 | exact hp1.symm | exact hst | exact hst.symm | exact hbs | exact hbs.symm | omega | (simp [hp1, hst, hbs]; done) | (simp [hp1, hst, hbs]; omega) | fail) | exact ren_eq (by first | rfl | (simp; done) | fail) (by first | rfl | exact hp1 | exact hp1.symm | exact hst | exact hst.symm | exact hbs | exact hbs.symm | omega | (simp [hp1, hst, hbs]; done) | (simp [hp1, hst, hbs]; omega) | fail) | exact ren_app2 (by first | rfl | (simp; done) | fail) (by first | rfl | (simp; done) | fail) rfl | exact wk_u64 (by first | rfl | exact hp1 | exact hp1.symm | exact hst | exact hst.symm | exact hbs | exact hbs.symm | omega | (simp [hp1, hst, hbs]; done) | (simp [hp1, hst, hbs]; omega) | fail) | exact wk_u8 (by first | rfl | exact hp1 | exact hp1.symm | exact hst | exact hst.symm | exact hbs | exact hbs.symm | omega | (simp [hp1, hst, hbs]; done) | (simp [hp1, hst, hbs]; omega) | fail) | exact wk_u32 (by first | rfl | exact hp1 | exact hp1.symm | exact hst | exact hst.symm | exact hbs | exact hbs.symm | omega | (simp [hp1, hst, hbs]; done) | (simp [hp1, hst, hbs]; omega) | fail) | exact wk_b (by first | rfl | exact hp1 | exact hp1.symm | exact hst | exact hst.symm | exact hbs | exact hbs.symm | omega | (simp [hp1, hst, hbs]; done) | (simp [hp1, hst, hbs]; omega) | fail) | exact ren_m8 (by first | rfl | exact hp1 | exact hp1.symm | exact hst | exact hst.symm | exact hbs | exact hbs.symm | omega | (simp [hp1, hst, hbs]; done) | (simp [hp1, hst, hbs]; omega) | fail) | exact ren_m32 (by first | rfl | exact hp1 | exact hp1.symm | exact hst | exact hst.symm | exact hbs | exact hbs.symm | omega | (simp [hp1, hst, hbs]; done) | (simp [hp1, hst, hbs]; omega) | fail) | exact ren_m64 (by first | rfl | exact hp1 | exact hp1.symm | exact hst | exact hst.symm | exact hbs | exact hbs.symm | omega | (simp [hp1, hst, hbs]; done) | (simp [hp1, hst, hbs]; omega) | fail) | exact ren_mi (by first | rfl | exact hp1 | exact hp1.symm | exact hst | exact hst.symm | exact hbs | exact hbs.symm | omega | (simp [hp1, hst, hbs]; done) | (simp [hp1, hst, hbs]; omega) | fail) | skip
        · (repeat' (first | exact trivial | exact ren_z8 | exact ren_zi | exact ren_z32 | exact ren_z64 | refine And.intro ?_ ?_ | (refine wk_tup ?_) | (refine wk_agg ?_) | (refine wk_cons ?_ ?_))) <;> first | exact ren_m8 (by first | exact hp1 | exact hp1.symm | exact hst | exact hst.symm | exact hbs | exact hbs.symm | fail) | exact wk_i (by first | exact hp1 | exact hp1.symm | exact hst | exact hst.symm | exact hbs | exact hbs.symm | fail) | exact wk_u64 (by first | exact hp1 | exact hp1.symm | exact hst | exact hst.symm | exact hbs | exact hbs.symm | fail) | exact ren_z8 | exact ren_zi | exact ren_z32 | exact ren_z64 | rfl | exact wk_i (by first | rfl | exact hp1 | exact hp1.symm | exact hst | exact hst.symm | exact hbs | exact hbs.symm | omega | (simp [hp1, hst, hbs]; done) | (simp [hp1, hst, hbs]; omega) | fail) | exact wk_sl rfl (by first | rfl | exact hp1 | exact hp1.symm | exact hst | exact hst.symm | exact hbs | exact hbs.symm | omega | (simp [hp1, hst, hbs]; done) | (simp [hp1, hst, hbs]; omega) | fail) (by first | rfl | exact hp1 | exact hp1.symm | exact hst | exact hst.symm | exact hbs | exact hbs.symm | omega | (simp [hp1, hst, hbs]; done) | (simp [hp1, hst, hbs]; omega) | fail) | exact ren_eq (by first | rfl | (simp; done) | fail) (by first | rfl | exact hp1 | exact hp1.symm | exact hst | exact hst.symm | exact hbs | exact hbs.symm | omega | (simp [hp1, hst, hbs]; done) | (simp [hp1, hst, hbs]; omega) | fail) | exact ren_app2 (by first | rfl | (simp; done) | fail) (by first | rfl | (simp; done) | fail) rfl | exact wk_u64 (by first | rfl | exact hp1 | exact hp1.symm | exact hst | exact hst.symm | exact hbs | exact hbs.symm | omega | (simp [hp1, hst, hbs]; done) | (simp [hp1, hst, hbs]; omega) | fail) | exact wk_u8 (by first | rfl | exact hp1 | exact hp1.symm | exact hst | exact hst.symm | exact hbs | exact hbs.symm | omega | (simp [hp1, hst, hbs]; done) | (simp [hp1, hst, hbs]; omega) | fail) | exact wk_u32 (by first | rfl | exact hp1 | exact hp1.symm | exact hst | exact hst.symm | exact hbs | exact hbs.symm | omega | (simp [hp1, hst, hbs]; done) | (simp [hp1, hst, hbs]; omega) | fail) | exact wk_b (by first | rfl | exact hp1 | exact hp1.symm | exact hst | exact hst.symm | exact hbs | exact hbs.symm | omega | (simp [hp1, hst, hbs]; done) | (simp [hp1, hst, hbs]; omega) | fail) | exact ren_m8 (by first | rfl | exact hp1 | exact hp1.symm | exact hst | exact hst.symm | exact hbs | exact hbs.symm | omega | (simp [hp1, hst, hbs]; done) | (simp [hp1, hst, hbs]; omega) | fail) | exact ren_m32 (by first | rfl | exact hp1 | exact hp1.symm | exact hst | exact hst.symm | exact hbs | exact hbs.symm | omega | (simp [hp1, hst, hbs]; done) | (simp [hp1, hst, hbs]; omega) | fail) | exact ren_m64 (by first | rfl | exact hp1 | exact hp1.symm | exact hst | exact hst.symm | exact hbs | exact hbs.symm | omega | (simp [hp1, hst, hbs]; done) | (simp [hp1, hst, hbs]; omega) | fail) | exact ren_mi (by first | rfl | exact hp1 | exact hp1.symm | exact hst | exact hst.symm | exact hbs | exact hbs.symm | omega | (simp [hp1, hst, hbs]; done) | (simp [hp1, hst, hbs]; omega) | fail) | skip
    · obtain rfl : i = 16 := by omega
      rw [difP_f]
      conv => whnf
      first | refine brF (by rfl) ?_ | intro _
      conv => whnf
      repeat (first | (refine Exists.intro _ (And.intro bytesOf_all ?_); conv => whnf) | (refine Exists.intro _ (And.intro (bytesOf_cut rfl) ?_); conv => whnf) | (refine brT rfl ?_; conv => whnf) | (refine brF rfl ?_; conv => whnf) | (refine gdT rfl ?_; conv => whnf) | (refine gdF rfl ?_; conv => whnf) | (refine Exists.intro _ (And.intro (sload_all rfl (by first | rfl | (simp; done) | (simp; omega))) ?_); conv => whnf) | (refine Exists.intro _ (And.intro (sput_all rfl (by first | rfl | (simp; done) | (simp; omega))) ?_); conv => whnf) | (refine Exists.intro _ (And.intro rfl ?_); conv => whnf) | (refine pkT rfl ?_; conv => whnf) | (refine pkF rfl ?_; conv => whnf) | (refine gdT (by first | (simp; done) | fail) ?_; conv => whnf) | (refine gdF (by first | (simp; done) | fail) ?_; conv => whnf) | (refine brT (by first | (simp; done) | fail) ?_; conv => whnf) | (refine brF (by first | (simp; done) | fail) ?_; conv => whnf) | (refine pkT (by first | (simp; done) | fail) ?_; conv => whnf) | (refine pkF (by first | (simp; done) | fail) ?_; conv => whnf) | (refine And.intro ⟨rfl, rfl⟩ ?_; conv => whnf) | (refine And.intro (by first | omega | (simp; done) | (simp; omega) | (simp [ti5]; omega)) ?_; conv => whnf) | (refine And.intro (Nat.le_of_ble_eq_true rfl) ?_; conv => whnf) | (refine And.intro ⟨rfl, Nat.le_of_ble_eq_true rfl⟩ ?_; conv => whnf) | (refine And.intro ⟨Nat.le_of_ble_eq_true rfl, Nat.le_of_ble_eq_true rfl⟩ ?_; conv => whnf) | (refine And.intro ⟨Nat.le_of_ble_eq_true rfl, Nat.le_of_ble_eq_true rfl, Nat.le_of_ble_eq_true rfl⟩ ?_; conv => whnf) | (refine And.intro ⟨Nat.le_of_ble_eq_true rfl, Nat.le_of_ble_eq_true rfl, Nat.le_of_ble_eq_true rfl, Nat.le_of_ble_eq_true rfl⟩ ?_; conv => whnf) | (refine And.intro (by kernel_rfl) ?_; conv => whnf) | (refine And.intro ⟨by first | exact @rfl Nat _ | omega | (simp; done) | (simp; omega) | exact Nat.le_of_ble_eq_true rfl | (show _ * 4 ≤ _; omega) | decide | (simp [ti5]; done) | (simp [ti5]; omega) | (simp only [ti5, List.length_map]; omega) | (simp only [ti5_sz, ti25_sz, List.length_map, List.length_set]; omega) | fail, by first | exact @rfl Nat _ | omega | (simp; done) | (simp; omega) | exact Nat.le_of_ble_eq_true rfl | (show _ * 4 ≤ _; omega) | decide | (simp [ti5]; done) | (simp [ti5]; omega) | (simp only [ti5, List.length_map]; omega) | (simp only [ti5_sz, ti25_sz, List.length_map, List.length_set]; omega) | fail⟩ ?_; conv => whnf) | (refine And.intro ⟨by first | exact @rfl Nat _ | omega | (simp; done) | (simp; omega) | exact Nat.le_of_ble_eq_true rfl | (show _ * 4 ≤ _; omega) | decide | (simp [ti5]; done) | (simp [ti5]; omega) | (simp only [ti5, List.length_map]; omega) | (simp only [ti5_sz, ti25_sz, List.length_map, List.length_set]; omega) | fail, by first | exact @rfl Nat _ | omega | (simp; done) | (simp; omega) | exact Nat.le_of_ble_eq_true rfl | (show _ * 4 ≤ _; omega) | decide | (simp [ti5]; done) | (simp [ti5]; omega) | (simp only [ti5, List.length_map]; omega) | (simp only [ti5_sz, ti25_sz, List.length_map, List.length_set]; omega) | fail, by first | exact @rfl Nat _ | omega | (simp; done) | (simp; omega) | exact Nat.le_of_ble_eq_true rfl | (show _ * 4 ≤ _; omega) | decide | (simp [ti5]; done) | (simp [ti5]; omega) | (simp only [ti5, List.length_map]; omega) | (simp only [ti5_sz, ti25_sz, List.length_map, List.length_set]; omega) | fail⟩ ?_; conv => whnf) | (refine And.intro ⟨by first | exact @rfl Nat _ | omega | (simp; done) | (simp; omega) | exact Nat.le_of_ble_eq_true rfl | (show _ * 4 ≤ _; omega) | decide | (simp [ti5]; done) | (simp [ti5]; omega) | (simp only [ti5, List.length_map]; omega) | (simp only [ti5_sz, ti25_sz, List.length_map, List.length_set]; omega) | fail, by first | exact @rfl Nat _ | omega | (simp; done) | (simp; omega) | exact Nat.le_of_ble_eq_true rfl | (show _ * 4 ≤ _; omega) | decide | (simp [ti5]; done) | (simp [ti5]; omega) | (simp only [ti5, List.length_map]; omega) | (simp only [ti5_sz, ti25_sz, List.length_map, List.length_set]; omega) | fail, by first | exact @rfl Nat _ | omega | (simp; done) | (simp; omega) | exact Nat.le_of_ble_eq_true rfl | (show _ * 4 ≤ _; omega) | decide | (simp [ti5]; done) | (simp [ti5]; omega) | (simp only [ti5, List.length_map]; omega) | (simp only [ti5_sz, ti25_sz, List.length_map, List.length_set]; omega) | fail, by first | exact @rfl Nat _ | omega | (simp; done) | (simp; omega) | exact Nat.le_of_ble_eq_true rfl | (show _ * 4 ≤ _; omega) | decide | (simp [ti5]; done) | (simp [ti5]; omega) | (simp only [ti5, List.length_map]; omega) | (simp only [ti5_sz, ti25_sz, List.length_map, List.length_set]; omega) | fail⟩ ?_; conv => whnf) | fail)
      refine ok1_callF [3] [false, true] false (h84) rfl rfl ⟨⟨rfl, by first | rfl | ((repeat' (first | exact wk_nil | exact ren_z8 | exact ren_m8 rfl | exact ren_m32 rfl | exact ren_m64 rfl | exact ren_mi rfl | exact rfl | (refine wk_agg ?_) | (refine wk_cons ?_ ?_))); done) | (simp [renL, renV]; done) | (simp [renL, renV]; omega)⟩, by (repeat' (first | exact trivial | refine And.intro ?_ ?_)) <;> first | rfl | exact ren_eq (by first | (simp; done) | fail) (by first | rfl | (simp; done) | fail) | exact ren_app2 (by first | (simp; done) | fail) (by first | rfl | (simp; done) | fail) (by first | rfl | (simp; done) | fail) | ((repeat' (first | exact wk_nil | (refine wk_cons ?_ ?_))) <;> first | rfl | exact wk_sl rfl (by first | rfl | omega) (by first | rfl | omega)), by first | rfl | simp [plainHf, plainB], by first | rfl | simp [plainRf, plainR, plainT, plainW], ?_⟩
      conv => whnf
      repeat (first | (refine Exists.intro _ (And.intro bytesOf_all ?_); conv => whnf) | (refine Exists.intro _ (And.intro (bytesOf_cut rfl) ?_); conv => whnf) | (refine brT rfl ?_; conv => whnf) | (refine brF rfl ?_; conv => whnf) | (refine gdT rfl ?_; conv => whnf) | (refine gdF rfl ?_; conv => whnf) | (refine Exists.intro _ (And.intro (sload_all rfl (by first | rfl | (simp; done) | (simp; omega))) ?_); conv => whnf) | (refine Exists.intro _ (And.intro (sput_all rfl (by first | rfl | (simp; done) | (simp; omega))) ?_); conv => whnf) | (refine Exists.intro _ (And.intro rfl ?_); conv => whnf) | (refine pkT rfl ?_; conv => whnf) | (refine pkF rfl ?_; conv => whnf) | (refine gdT (by first | (simp; done) | fail) ?_; conv => whnf) | (refine gdF (by first | (simp; done) | fail) ?_; conv => whnf) | (refine brT (by first | (simp; done) | fail) ?_; conv => whnf) | (refine brF (by first | (simp; done) | fail) ?_; conv => whnf) | (refine pkT (by first | (simp; done) | fail) ?_; conv => whnf) | (refine pkF (by first | (simp; done) | fail) ?_; conv => whnf) | (refine And.intro ⟨rfl, rfl⟩ ?_; conv => whnf) | (refine And.intro (by first | omega | (simp; done) | (simp; omega) | (simp [ti5]; omega)) ?_; conv => whnf) | (refine And.intro (Nat.le_of_ble_eq_true rfl) ?_; conv => whnf) | (refine And.intro ⟨rfl, Nat.le_of_ble_eq_true rfl⟩ ?_; conv => whnf) | (refine And.intro ⟨Nat.le_of_ble_eq_true rfl, Nat.le_of_ble_eq_true rfl⟩ ?_; conv => whnf) | (refine And.intro ⟨Nat.le_of_ble_eq_true rfl, Nat.le_of_ble_eq_true rfl, Nat.le_of_ble_eq_true rfl⟩ ?_; conv => whnf) | (refine And.intro ⟨Nat.le_of_ble_eq_true rfl, Nat.le_of_ble_eq_true rfl, Nat.le_of_ble_eq_true rfl, Nat.le_of_ble_eq_true rfl⟩ ?_; conv => whnf) | (refine And.intro (by kernel_rfl) ?_; conv => whnf) | (refine And.intro ⟨by first | exact @rfl Nat _ | omega | (simp; done) | (simp; omega) | exact Nat.le_of_ble_eq_true rfl | (show _ * 4 ≤ _; omega) | decide | (simp [ti5]; done) | (simp [ti5]; omega) | (simp only [ti5, List.length_map]; omega) | (simp only [ti5_sz, ti25_sz, List.length_map, List.length_set]; omega) | fail, by first | exact @rfl Nat _ | omega | (simp; done) | (simp; omega) | exact Nat.le_of_ble_eq_true rfl | (show _ * 4 ≤ _; omega) | decide | (simp [ti5]; done) | (simp [ti5]; omega) | (simp only [ti5, List.length_map]; omega) | (simp only [ti5_sz, ti25_sz, List.length_map, List.length_set]; omega) | fail⟩ ?_; conv => whnf) | (refine And.intro ⟨by first | exact @rfl Nat _ | omega | (simp; done) | (simp; omega) | exact Nat.le_of_ble_eq_true rfl | (show _ * 4 ≤ _; omega) | decide | (simp [ti5]; done) | (simp [ti5]; omega) | (simp only [ti5, List.length_map]; omega) | (simp only [ti5_sz, ti25_sz, List.length_map, List.length_set]; omega) | fail, by first | exact @rfl Nat _ | omega | (simp; done) | (simp; omega) | exact Nat.le_of_ble_eq_true rfl | (show _ * 4 ≤ _; omega) | decide | (simp [ti5]; done) | (simp [ti5]; omega) | (simp only [ti5, List.length_map]; omega) | (simp only [ti5_sz, ti25_sz, List.length_map, List.length_set]; omega) | fail, by first | exact @rfl Nat _ | omega | (simp; done) | (simp; omega) | exact Nat.le_of_ble_eq_true rfl | (show _ * 4 ≤ _; omega) | decide | (simp [ti5]; done) | (simp [ti5]; omega) | (simp only [ti5, List.length_map]; omega) | (simp only [ti5_sz, ti25_sz, List.length_map, List.length_set]; omega) | fail⟩ ?_; conv => whnf) | (refine And.intro ⟨by first | exact @rfl Nat _ | omega | (simp; done) | (simp; omega) | exact Nat.le_of_ble_eq_true rfl | (show _ * 4 ≤ _; omega) | decide | (simp [ti5]; done) | (simp [ti5]; omega) | (simp only [ti5, List.length_map]; omega) | (simp only [ti5_sz, ti25_sz, List.length_map, List.length_set]; omega) | fail, by first | exact @rfl Nat _ | omega | (simp; done) | (simp; omega) | exact Nat.le_of_ble_eq_true rfl | (show _ * 4 ≤ _; omega) | decide | (simp [ti5]; done) | (simp [ti5]; omega) | (simp only [ti5, List.length_map]; omega) | (simp only [ti5_sz, ti25_sz, List.length_map, List.length_set]; omega) | fail, by first | exact @rfl Nat _ | omega | (simp; done) | (simp; omega) | exact Nat.le_of_ble_eq_true rfl | (show _ * 4 ≤ _; omega) | decide | (simp [ti5]; done) | (simp [ti5]; omega) | (simp only [ti5, List.length_map]; omega) | (simp only [ti5_sz, ti25_sz, List.length_map, List.length_set]; omega) | fail, by first | exact @rfl Nat _ | omega | (simp; done) | (simp; omega) | exact Nat.le_of_ble_eq_true rfl | (show _ * 4 ≤ _; omega) | decide | (simp [ti5]; done) | (simp [ti5]; omega) | (simp only [ti5, List.length_map]; omega) | (simp only [ti5_sz, ti25_sz, List.length_map, List.length_set]; omega) | fail⟩ ?_; conv => whnf) | fail)
      refine ⟨[0, 1, 4], ?_, rfl, rfl, ?_, rfl⟩
      · (repeat' (first | exact trivial | exact ren_z8 | exact ren_zi | exact ren_z32 | exact ren_z64 | refine And.intro ?_ ?_ | (refine wk_tup ?_) | (refine wk_agg ?_) | (refine wk_cons ?_ ?_))) <;> first | exact ren_z8 | exact ren_zi | exact ren_z32 | exact ren_z64 | rfl | exact wk_i (by first | rfl | omega | (simp; done) | (simp; omega) | fail) | exact wk_sl rfl (by first | rfl | omega | (simp; done) | (simp; omega) | fail) (by first | rfl | omega | (simp; done) | (simp; omega) | fail) | exact ren_eq (by first | rfl | (simp; done) | fail) (by first | rfl | omega | (simp; done) | (simp; omega) | fail) | exact ren_app2 (by first | rfl | (simp; done) | fail) (by first | rfl | (simp; done) | fail) rfl | exact wk_u64 (by first | rfl | omega | (simp; done) | (simp; omega) | fail) | exact wk_u8 (by first | rfl | omega | (simp; done) | (simp; omega) | fail) | exact wk_u32 (by first | rfl | omega | (simp; done) | (simp; omega) | fail) | exact wk_b (by first | rfl | omega | (simp; done) | (simp; omega) | fail) | exact ren_m8 (by first | rfl | omega | (simp; done) | (simp; omega) | fail) | exact ren_m32 (by first | rfl | omega | (simp; done) | (simp; omega) | fail) | exact ren_m64 (by first | rfl | omega | (simp; done) | (simp; omega) | fail) | exact ren_mi (by first | rfl | omega | (simp; done) | (simp; omega) | fail) | skip
      · (repeat' (first | exact trivial | exact ren_z8 | exact ren_zi | exact ren_z32 | exact ren_z64 | refine And.intro ?_ ?_ | (refine wk_tup ?_) | (refine wk_agg ?_) | (refine wk_cons ?_ ?_))) <;> first | exact ren_z8 | exact ren_zi | exact ren_z32 | exact ren_z64 | rfl | exact wk_i (by first | rfl | omega | (simp; done) | (simp; omega) | fail) | exact wk_sl rfl (by first | rfl | omega | (simp; done) | (simp; omega) | fail) (by first | rfl | omega | (simp; done) | (simp; omega) | fail) | exact ren_eq (by first | rfl | (simp; done) | fail) (by first | rfl | omega | (simp; done) | (simp; omega) | fail) | exact ren_app2 (by first | rfl | (simp; done) | fail) (by first | rfl | (simp; done) | fail) rfl | exact wk_u64 (by first | rfl | omega | (simp; done) | (simp; omega) | fail) | exact wk_u8 (by first | rfl | omega | (simp; done) | (simp; omega) | fail) | exact wk_u32 (by first | rfl | omega | (simp; done) | (simp; omega) | fail) | exact wk_b (by first | rfl | omega | (simp; done) | (simp; omega) | fail) | exact ren_m8 (by first | rfl | omega | (simp; done) | (simp; omega) | fail) | exact ren_m32 (by first | rfl | omega | (simp; done) | (simp; omega) | fail) | exact ren_m64 (by first | rfl | omega | (simp; done) | (simp; omega) | fail) | exact ren_mi (by first | rfl | omega | (simp; done) | (simp; omega) | fail) | skip
end Go.Sh
/- field's reference: Bytes (f34), Is (f36), Of (f23), walked. -/
namespace Go.Sh
open Go.Proofs
set_option maxHeartbeats 8000000
set_option linter.unusedSimpArgs false
set_option linter.unusedVariables false

theorem tk_len (v i : Nat) (h : i ≤ 16) : ((le32 v).take (2 * i)).length = 2 * i := by rw [List.length_take, le32_len]; omega
theorem ap2 {l : List UInt8} {n : Nat} {a b : UInt8} (h : l.length = n) : List.take (n * 1) (List.drop 0 (l.map SV.u8)) ++ List.take (2 * 1) (List.drop 0 [SV.u8 a, SV.u8 b]) = (l ++ [a, b]).map SV.u8 := by
  rw [List.drop_zero, List.take_of_length_le (by simp; omega)]; simp
theorem b2_e (v i : Nat) : b2 v i = [((dg v).getD i 0 % 256).toUInt8, ((dg v).getD i 0 / 256).toUInt8] := rfl
attribute [local irreducible] dg le32 oPL cB b2
theorem f34 (v : Nat) (f : Bool) : SCall Try.prog 34 [.sl 0 0 16 1 f] [some (.ro ((dg v).map .u64))] (.sl 1 0 32 1 false) [some (.ro ((dg v).map .u64)), some (.row 5 ((le32 v).map .u8))] := by
  have hdl := dg_len v
  refine scall_of ttOk (by kernel_rfl : Try.prog.funcs[34]? = some Try.f34) rfl rfl rfl ?_
  try simp only [List.length_cons, List.length_nil, Nat.zero_add, Nat.reduceAdd]
  refine sw_ok ttOk mixed (by kernel_rfl) ?_
  conv => whnf
  repeat (fail)
  refine SWp.weak (Weak.virt 3 5 1 rfl) ?_
  refine loop_rule ttOk mixed (by kernel_rfl) (ι := { i : Nat // i ≤ 16 }) (fun i => [(0, .sl 0 0 16 1 f), (3, .sl 1 0 (2 * i.1) 1 false), (4, .i (i.1 : Int))]) (fun i => [some (.ro ((dg v).map .u64)), some (.row 5 (((le32 v).take (2 * i.1)).map .u8))]) (fun _ => 2) (fun i => 16 - i.1) ⟨0, by omega⟩ ?_ ?_
  · have hz : (le32 v).take (2 * 0) = [] := rfl
    dsimp only
    rw [hz]
    refine Weak.sel [0, 1] rfl rfl ?_ ?_ rfl rfl
    · (repeat' (first | exact trivial | refine And.intro ?_ ?_ | fail)) <;> first | rfl | fail
    · (repeat' (first | exact trivial | refine And.intro ?_ ?_ | fail)) <;> first | rfl | exact ren_eq (by first | (simp; done) | fail) (by first | rfl | fail) | fail
  · rintro ⟨i, hi⟩
    have htl := tk_len v i hi
    dsimp only
    by_cases hi2 : i < 16
    · have hlt : decide ((i : Int) < 16) = true := by simp; omega
      have hp1 : w64 ((i : Int) + 1) = ((i + 1 : Nat) : Int) := by simp only [w64_eq]; omega
      have h2 := le32_2 v i hi2
      rw [b2_e] at h2
      obtain ⟨Y, hY⟩ : ∃ Y, Y = (le32 v).take (2 * i) := ⟨_, rfl⟩
      rw [← hY] at h2 htl ⊢
      have hap : ((le32 v).take (2 * (i + 1))).map SV.u8 = List.take (2 * i * 1) (List.drop 0 (Y.map SV.u8)) ++ List.take (2 * 1) (List.drop 0 [SV.u8 ((dg v).getD i 0 % 256).toUInt8, SV.u8 ((dg v).getD i 0 / 256).toUInt8]) := by rw [ap2 htl, h2]
      have hn : 2 * (i + 1) = 2 * i + 2 := by omega
      conv => whnf
      first | refine brT (by exact hlt) ?_ | fail
      conv => whnf
      repeat (first | (refine Exists.intro _ (And.intro (sload_u64 (i := i) (by first | rfl | omega | fail) (by first | omega | fail)) ?_); conv => whnf) | (refine Exists.intro _ (And.intro (idx_i (m := i) (by first | rfl | fail)) ?_); conv => whnf) | (refine Exists.intro _ (And.intro rfl ?_); conv => whnf) | (refine And.intro (by first | omega | (simp [ti5]; omega)) ?_; conv => whnf) | (refine And.intro (by kernel_rfl) ?_; conv => whnf) | fail)
      refine ⟨⟨i + 1, by omega⟩, by simp only; omega, ?_⟩
      refine Weak.sel [0, 3] rfl rfl ?_ ?_ rfl rfl
      · (repeat' (first | exact trivial | refine And.intro ?_ ?_ | fail)) <;> first | exact wk_i (by first | exact hp1 | exact hp1.symm | fail) | rfl | fail
      · (repeat' (first | exact trivial | exact ren_eq (plainL_u8 _) hap | refine And.intro ?_ ?_ | fail)) <;> first | rfl | exact ren_eq (by first | (simp; done) | fail) (by first | rfl | fail) | fail
    · obtain rfl : i = 16 := by omega
      have hfin : (le32 v).take (2 * 16) = le32 v := List.take_of_length_le (by rw [le32_len]; omega)
      rw [hfin]
      conv => whnf
      first | refine brF (by rfl) ?_ | fail
      conv => whnf
      repeat (fail)
      refine ⟨[0, 1], ?_, rfl, rfl, ?_, rfl⟩
      · (repeat' (fail)) <;> first | rfl | fail
      · (repeat' (first | exact trivial | refine And.intro ?_ ?_ | fail)) <;> first | rfl | exact ren_eq (by first | (simp; done) | fail) (by first | rfl | fail) | fail
theorem f36 {u v : Nat} (hu : u < P25519) (hv : v < P25519) (f g : Bool) : SCall Try.prog 36 [.sl 0 0 16 1 f, .sl 1 0 16 1 g] [some (.ro ((dg u).map .u64)), some (.ro ((dg v).map .u64))] (.b (decide (u = v))) [some (.ro ((dg u).map .u64)), some (.ro ((dg v).map .u64))] := by
  have h1 := f34 u f
  have h2 := f34 v g
  have hul := le32_len u
  have hvl := le32_len v
  have heq : (List.take 32 (List.drop 0 (le32 u)) == List.take 32 (List.drop 0 (le32 v))) = decide (u = v) := by
    rw [List.drop_zero, List.drop_zero, List.take_of_length_le (by omega), List.take_of_length_le (by omega), Bool.eq_iff_iff]
    simp [le32_ne hu hv]
  rw [← heq]
  refine scall_of ttOk (by kernel_rfl : Try.prog.funcs[36]? = some Try.f36) rfl rfl rfl ?_
  try simp only [List.length_cons, List.length_nil, Nat.zero_add, Nat.reduceAdd]
  refine sw_ok ttOk mixed (by kernel_rfl) ?_
  conv => whnf
  repeat (fail)
  refine ok1_callF [0] [false, true] false (h1) rfl rfl ⟨⟨rfl, by first | rfl | fail⟩, by (repeat' (first | exact trivial | refine And.intro ?_ ?_)) <;> first | exact ren_eq (by first | (simp; done) | fail) (by first | rfl | fail) | fail, by first | simp [plainHf, plainB], by first | rfl | fail, ?_⟩
  conv => whnf
  repeat (first | (refine Exists.intro _ (And.intro (bytesOf_cut rfl) ?_); conv => whnf) | (refine And.intro (by first | omega | (simp; omega) | fail) ?_; conv => whnf) | fail)
  refine ok1_callF [1] [false, true] false (h2) rfl rfl ⟨⟨rfl, by first | rfl | fail⟩, by (repeat' (first | exact trivial | refine And.intro ?_ ?_)) <;> first | exact ren_eq (by first | (simp; done) | fail) (by first | rfl | fail) | fail, by first | simp [plainHf, plainB], by first | rfl | fail, ?_⟩
  conv => whnf
  repeat (first | (refine Exists.intro _ (And.intro (bytesOf_cut rfl) ?_); conv => whnf) | (refine And.intro (by first | omega | (simp; omega) | fail) ?_; conv => whnf) | (refine And.intro (by kernel_rfl) ?_; conv => whnf) | fail)
  refine ⟨[0, 1], ?_, rfl, rfl, ?_, rfl⟩
  · (repeat' (fail)) <;> first | rfl | fail
  · (repeat' (first | exact trivial | refine And.intro ?_ ?_ | fail)) <;> first | exact ren_eq (by first | (simp; done) | fail) (by first | rfl | fail) | fail
theorem cB_o31 (b : List UInt8) : cB b 31 = 256 * ((b.getD 31 0).toUInt64 % 128) := by unfold cB; rfl
theorem cB_o (b : List UInt8) (i : Nat) (h : i % 2 = 1) (h2 : i ≠ 31) : cB b i = 256 * (b.getD i 0).toUInt64 := by unfold cB; rw [if_pos h, if_neg h2]
theorem cB_e (b : List UInt8) (i : Nat) (h : ¬ i % 2 = 1) : cB b i = (b.getD i 0).toUInt64 := by unfold cB; rw [if_neg h]
theorem t2 (i : Nat) (h : i < 32) : (i : Int).tmod 2 = ((i % 2 : Nat) : Int) ∧ w64 ((i : Int).tdiv 2) = ((i / 2 : Nat) : Int) := by
  have : ∀ i : Nat, i < 32 → (i : Int).tmod 2 = ((i % 2 : Nat) : Int) ∧ w64 ((i : Int).tdiv 2) = ((i / 2 : Nat) : Int) := by decide +kernel
  exact this i h
theorem f23 (b : List UInt8) (hb : b.length = 32) (f : Bool) : SCall Try.prog 23 [.sl 0 0 32 1 f] [some (.ro (b.map .u8))] (.sl 1 0 16 1 true) [some (.ro (b.map .u8)), some (.row 25 ((dg (br b)).map .u64))] := by
  obtain ⟨W, w1, w2, w3⟩ := oPL_ok b
  have h84 := f84 (oPL b 32) (.inl (oPL_len b 32)) W w1 w2 true
  rw [w3, oPL_len b 32] at h84
  refine scall_of ttOk (by kernel_rfl : Try.prog.funcs[23]? = some Try.f23) rfl rfl rfl ?_
  try simp only [List.length_cons, List.length_nil, Nat.zero_add, Nat.reduceAdd]
  refine sw_ok ttOk mixed (by kernel_rfl) ?_
  conv => whnf
  repeat (first | (refine And.intro ⟨by first | omega | fail, by first | decide | fail⟩ ?_; conv => whnf) | fail)
  refine loop_rule ttOk mixed (by kernel_rfl) (ι := { i : Nat // i ≤ 32 }) (fun i => [(0, .sl 0 0 32 1 f), (3, .sl 1 0 16 1 true), (4, .i (i.1 : Int))]) (fun i => [some (.ro (b.map .u8)), some (.row 25 ((oPL b i.1).map .u64))]) (fun _ => 2) (fun i => 32 - i.1) ⟨0, by omega⟩ ?_ ?_
  · have hz := oPL_0 b
    dsimp only
    rw [hz]
    refine Weak.sel [0, 1] rfl rfl ?_ ?_ rfl rfl
    · (repeat' (first | exact trivial | refine And.intro ?_ ?_ | fail)) <;> first | rfl | fail
    · (repeat' (first | exact trivial | exact ren_z64 | refine And.intro ?_ ?_ | fail)) <;> first | rfl | exact ren_eq (by first | (simp; done) | fail) (by first | rfl | fail) | fail
  · rintro ⟨i, hi⟩
    have hol := oPL_len b i
    dsimp only
    by_cases hi2 : i < 32
    · have hlt : decide ((i : Int) < 32) = true := by simp; omega
      have hp1 : w64 ((i : Int) + 1) = ((i + 1 : Nat) : Int) := by simp only [w64_eq]; omega
      obtain ⟨hm, hd⟩ := t2 i hi2
      by_cases h31 : i = 31
      · subst h31
        have hst := oPL_s b 31 hi2 (cB_o31 b).symm
        conv => whnf
        first | refine brT (by exact hlt) ?_ | fail
        conv => whnf
        repeat (first | (refine brT rfl ?_; conv => whnf) | (refine Exists.intro _ (And.intro (sload_u8 (i := 31) (by first | rfl | fail) (by first | omega | fail)) ?_); conv => whnf) | (refine Exists.intro _ (And.intro (idx_i (m := 31) (by first | rfl | fail)) ?_); conv => whnf) | (refine Exists.intro _ (And.intro (sput_m64 (i := 15) (by first | rfl | fail)) ?_); conv => whnf) | (refine Exists.intro _ (And.intro (sload_u64 (i := 15) (by first | rfl | fail) (by first | omega | fail)) ?_); conv => whnf) | (refine Exists.intro _ (And.intro (idx_i (m := 15) (by first | rfl | fail)) ?_); conv => whnf) | (refine Exists.intro _ (And.intro rfl ?_); conv => whnf) | (refine And.intro (by first | omega | (simp; omega) | fail) ?_; conv => whnf) | fail)
        refine ⟨⟨32, by omega⟩, by simp only; omega, ?_⟩
        refine Weak.sel [0, 1] rfl rfl ?_ ?_ rfl rfl
        · (repeat' (first | exact trivial | refine And.intro ?_ ?_ | fail)) <;> first | exact wk_i (by first | exact hp1 | fail) | rfl | fail
        · (repeat' (first | exact trivial | refine And.intro ?_ ?_ | fail)) <;> first | rfl | exact ren_eq (by first | (simp; done) | fail) (by first | rfl | fail) | exact ren_m64 (by first | exact hst.symm | fail) | fail
      · have g1 : ((i : Int) == 31) = false := by simp; omega
        by_cases hp : i % 2 = 1
        · have g2 : ((i : Int).tmod 2 == 1) = true := by rw [hm, hp]; rfl
          have hst := oPL_s b i hi2 (cB_o b i hp h31).symm
          conv => whnf
          first | refine brT (by exact hlt) ?_ | fail
          conv => whnf
          repeat (first | (refine Exists.intro _ (And.intro (sload_u8 (i := i) (by first | rfl | omega | fail) (by first | omega | fail)) ?_); conv => whnf) | (refine Exists.intro _ (And.intro (idx_i (m := i) (by first | rfl | fail)) ?_); conv => whnf) | (refine Exists.intro _ (And.intro (sput_m64 (i := i / 2) (by first | rfl | omega | fail)) ?_); conv => whnf) | (refine Exists.intro _ (And.intro (sload_u64 (i := i / 2) (by first | rfl | omega | fail) (by first | omega | fail)) ?_); conv => whnf) | (refine Exists.intro _ (And.intro (idx_i (m := i / 2) (by first | rfl | omega | fail)) ?_); conv => whnf) | (refine gdF g1 ?_; conv => whnf) | (refine gdT g2 ?_; conv => whnf) | (refine Exists.intro _ (And.intro rfl ?_); conv => whnf) | (refine And.intro (by first | omega | (simp; omega) | fail) ?_; conv => whnf) | fail)
          refine ⟨⟨i + 1, by omega⟩, by simp only; omega, ?_⟩
          refine Weak.sel [0, 1] rfl rfl ?_ ?_ rfl rfl
          · (repeat' (first | exact trivial | refine And.intro ?_ ?_ | fail)) <;> first | exact wk_i (by first | exact hp1 | exact hp1.symm | fail) | rfl | fail
          · (repeat' (first | exact trivial | refine And.intro ?_ ?_ | fail)) <;> first | rfl | exact ren_eq (by first | (simp; done) | fail) (by first | rfl | fail) | exact ren_m64 (by first | exact hst.symm | fail) | fail
        · have g2 : ((i : Int).tmod 2 == 1) = false := by rw [hm]; simp; omega
          have hst := oPL_s b i hi2 (cB_e b i hp).symm
          conv => whnf
          first | refine brT (by exact hlt) ?_ | fail
          conv => whnf
          repeat (first | (refine Exists.intro _ (And.intro (sload_u8 (i := i) (by first | rfl | omega | fail) (by first | omega | fail)) ?_); conv => whnf) | (refine Exists.intro _ (And.intro (idx_i (m := i) (by first | rfl | fail)) ?_); conv => whnf) | (refine Exists.intro _ (And.intro (sput_m64 (i := i / 2) (by first | rfl | omega | fail)) ?_); conv => whnf) | (refine Exists.intro _ (And.intro (sload_u64 (i := i / 2) (by first | rfl | omega | fail) (by first | omega | fail)) ?_); conv => whnf) | (refine Exists.intro _ (And.intro (idx_i (m := i / 2) (by first | rfl | omega | fail)) ?_); conv => whnf) | (refine gdF g1 ?_; conv => whnf) | (refine gdF g2 ?_; conv => whnf) | (refine Exists.intro _ (And.intro rfl ?_); conv => whnf) | (refine And.intro (by first | omega | (simp; omega) | fail) ?_; conv => whnf) | fail)
          refine ⟨⟨i + 1, by omega⟩, by simp only; omega, ?_⟩
          refine Weak.sel [0, 1] rfl rfl ?_ ?_ rfl rfl
          · (repeat' (first | exact trivial | refine And.intro ?_ ?_ | fail)) <;> first | exact wk_i (by first | exact hp1 | exact hp1.symm | fail) | rfl | fail
          · (repeat' (first | exact trivial | refine And.intro ?_ ?_ | fail)) <;> first | rfl | exact ren_eq (by first | (simp; done) | fail) (by first | rfl | fail) | exact ren_m64 (by first | exact hst.symm | fail) | fail
    · obtain rfl : i = 32 := by omega
      conv => whnf
      first | refine brF (by rfl) ?_ | fail
      conv => whnf
      repeat (fail)
      refine ok1_callF [1] [false, true] false (h84) rfl rfl ⟨⟨rfl, by first | rfl | fail⟩, by (repeat' (first | exact trivial | refine And.intro ?_ ?_)) <;> first | exact ren_eq (by first | (simp; done) | fail) (by first | rfl | fail) | fail, by first | simp [plainHf, plainB], by first | rfl | fail, ?_⟩
      conv => whnf
      repeat (fail)
      refine ⟨[0, 2], ?_, rfl, rfl, ?_, rfl⟩
      · (repeat' (fail)) <;> first | rfl | fail
      · (repeat' (first | exact trivial | refine And.intro ?_ ?_ | fail)) <;> first | rfl | exact ren_eq (by first | (simp; done) | fail) (by first | rfl | fail) | fail
end Go.Sh
/- field's law FieldTells (f3), walked. -/
namespace Go.Sh
open Go.Proofs
set_option maxHeartbeats 8000000
set_option linter.unusedSimpArgs false
set_option linter.unusedVariables false

theorem fill_s (P Q A : List SV) (rest : List (Nat × SV)) (i : Nat) (hP : P.length = i * 32) (hA : A.length = 32) (hQ : 32 ≤ Q.length) : sfill (fun i => some (i * 32, 32)) (P ++ Q) ((i, .agg A) :: rest) = sfill (fun i => some (i * 32, 32)) (P ++ A ++ Q.drop 32) rest := by
  show (if _ ∧ _ ∧ _ then sfill _ (sput (P ++ Q) (i * 32) (.agg A)) rest else none) = _
  rw [if_pos ⟨rfl, hA, by rw [List.length_append]; omega⟩]
  congr 1
  show List.take (i * 32) (P ++ Q) ++ A ++ List.drop (i * 32 + A.length) (P ++ Q) = _
  rw [← hP, List.take_left, hA, List.drop_append, List.drop_of_length_le (by omega)]
  simp
theorem grab (X A Y : List UInt8) (k : Nat) (hX : X.length = k) (hA : A.length = 32) : List.take 32 (List.drop k (X ++ A ++ Y)) = A := by
  subst hX
  rw [List.append_assoc, List.drop_left, ← hA, List.take_left]
theorem load_m {C A : List UInt8} (k : Nat) (c : List.take 32 (List.drop k C) = A) (hl : C.length = 224) (hk : k + 32 ≤ 224) : (if k + 32 ≤ (SB.row 22 (C.map .u8)).cells.length then some (SV.agg (List.take 32 (List.drop k (SB.row 22 (C.map .u8)).cells))) else none) = some (.agg (A.map .u8)) := by
  rw [if_pos (by simp [SB.cells, hl]; omega)]
  simp only [SB.cells]
  rw [← List.map_drop, ← List.map_take, c]
theorem fill8 {a0 a1 a2 a3 a4 a5 a6 : List UInt8} (h0 : a0.length = 32) (h1 : a1.length = 32) (h2 : a2.length = 32) (h3 : a3.length = 32) (h4 : a4.length = 32) (h5 : a5.length = 32) (h6 : a6.length = 32) :
    ∃ C : List UInt8, sfill (fun i => some (i * 32, 32)) (reps 7 (List.replicate 32 (SV.u8 0))) [(0, .agg (a0.map .u8)), (1, .agg (a1.map .u8)), (2, .agg (a2.map .u8)), (3, .agg (a3.map .u8)), (4, .agg (a4.map .u8)), (5, .agg (a5.map .u8)), (6, .agg (a6.map .u8))] = some (C.map .u8) ∧ C.length = 224 ∧
    List.take 32 (List.drop 0 C) = a0 ∧ List.take 32 (List.drop 32 C) = a1 ∧ List.take 32 (List.drop 64 C) = a2 ∧ List.take 32 (List.drop 96 C) = a3 ∧ List.take 32 (List.drop 128 C) = a4 ∧ List.take 32 (List.drop 160 C) = a5 ∧ List.take 32 (List.drop 192 C) = a6 := by
  have hQ : (reps 7 (List.replicate 32 (SV.u8 0))).length = 224 := rfl
  obtain ⟨Q, hq⟩ : ∃ Q, Q = reps 7 (List.replicate 32 (SV.u8 0)) := ⟨_, rfl⟩
  rw [← hq] at hQ ⊢
  refine ⟨a0 ++ a1 ++ a2 ++ a3 ++ a4 ++ a5 ++ a6, ?_, by simp only [List.length_append]; omega, ?_, ?_, ?_, ?_, ?_, ?_, ?_⟩
  · rw [show Q = [] ++ Q from rfl]
    rw [fill_s _ _ _ _ 0 (by first | rfl | fail) (by simp [h0]) (by first | omega | fail), fill_s _ _ _ _ 1 (by first | (simp; omega)) (by simp [h1]) (by first | (simp; omega)), fill_s _ _ _ _ 2 (by first | (simp; omega)) (by simp [h2]) (by first | (simp; omega)), fill_s _ _ _ _ 3 (by first | (simp; omega)) (by simp [h3]) (by first | (simp; omega)), fill_s _ _ _ _ 4 (by first | (simp; omega)) (by simp [h4]) (by first | (simp; omega)), fill_s _ _ _ _ 5 (by first | (simp; omega)) (by simp [h5]) (by first | (simp; omega)), fill_s _ _ _ _ 6 (by first | (simp; omega)) (by simp [h6]) (by first | (simp; omega))]
    simp only [sfill, List.drop_drop]
    rw [List.drop_of_length_le (by omega)]
    simp
  · simpa only [List.append_assoc, List.nil_append, List.append_nil] using grab ([]) a0 (a1 ++ a2 ++ a3 ++ a4 ++ a5 ++ a6) 0 (by first | rfl | fail) h0
  · simpa only [List.append_assoc, List.nil_append, List.append_nil] using grab (a0) a1 (a2 ++ a3 ++ a4 ++ a5 ++ a6) 32 (by first | omega | fail) h1
  · simpa only [List.append_assoc, List.nil_append, List.append_nil] using grab (a0 ++ a1) a2 (a3 ++ a4 ++ a5 ++ a6) 64 (by first | (simp only [List.length_append, List.length_nil]; omega)) h2
  · simpa only [List.append_assoc, List.nil_append, List.append_nil] using grab (a0 ++ a1 ++ a2) a3 (a4 ++ a5 ++ a6) 96 (by first | (simp only [List.length_append, List.length_nil]; omega)) h3
  · simpa only [List.append_assoc, List.nil_append, List.append_nil] using grab (a0 ++ a1 ++ a2 ++ a3) a4 (a5 ++ a6) 128 (by first | (simp only [List.length_append, List.length_nil]; omega)) h4
  · simpa only [List.append_assoc, List.nil_append, List.append_nil] using grab (a0 ++ a1 ++ a2 ++ a3 ++ a4) a5 (a6) 160 (by first | (simp only [List.length_append, List.length_nil]; omega)) h5
  · simpa only [List.append_assoc, List.nil_append, List.append_nil] using grab (a0 ++ a1 ++ a2 ++ a3 ++ a4 ++ a5) a6 [] 192 (by first | (simp only [List.length_append, List.length_nil]; omega)) h6
attribute [local irreducible] ofB addL subL mulL invL smallL dg le32 invN br
theorem f3 (a b : List UInt8) (n : UInt32) (ha : a.length = 32) (hb : b.length = 32) : SCall Try.prog 3 [.agg (a.map .u8), .agg (b.map .u8), .u32 n] [] (.b true) [] := by
  have oa := f21 a ha
  have ob := f21 b hb
  have nx := (ofB_ok a).1
  have ny := (ofB_ok b).1
  have ra := nr_of a
  have rb := nr_of b
  have fa := f23 a ha true
  have fb := f23 b hb true
  have fn := f24 n
  have oz := f22 n
  obtain ⟨nz, rz⟩ := Nm_small n
  obtain ⟨x, hx⟩ : ∃ x, x = ofB a := ⟨_, rfl⟩
  obtain ⟨y, hy⟩ : ∃ y, y = ofB b := ⟨_, rfl⟩
  obtain ⟨z, hz⟩ : ∃ z, z = smallL n := ⟨_, rfl⟩
  obtain ⟨u, hu⟩ : ∃ u, u = br a := ⟨_, rfl⟩
  obtain ⟨v, hv⟩ : ∃ v, v = br b := ⟨_, rfl⟩
  obtain ⟨w, hw⟩ : ∃ w, w = n.toNat := ⟨_, rfl⟩
  rw [← hx] at oa nx ra
  rw [← hy] at ob ny rb
  rw [← hz] at oz nz rz
  rw [← hu] at fa ra
  rw [← hv] at fb rb
  rw [← hw] at fn rz
  clear hx hy hz hu hv hw
  have pu : u < P25519 := by rw [← ra]; exact nr_lt x
  have pv : v < P25519 := by rw [← rb]; exact nr_lt y
  have pw : w < P25519 := by rw [← rz]; exact nr_lt z
  have lx := nx.1
  have ly := ny.1
  have lz := nz.1
  obtain ⟨n2, v2⟩ := addL_ok nx ny
  obtain ⟨n3, v3⟩ := subL_ok nx ny
  obtain ⟨n4, v4⟩ := mulL_ok nx ny
  obtain ⟨n5, v5⟩ := mulL_ok nx nz
  obtain ⟨n6, v6⟩ := invL_ok nx
  have g0 := f25 nx
  have g1 := f25 nz
  have g2 := f25 n2
  have g3 := f25 n3
  have g4 := f25 n4
  have g5 := f25 n5
  have g6 := f25 n6
  have e35 := f35 nx ny
  rw [ra] at g0
  rw [rz] at g1
  rw [v2, ra, rb] at g2
  rw [v3, ra, rb] at g3
  rw [v4, ra, rb] at g4
  rw [v5, ra, rz] at g5
  rw [v6, ra] at g6
  rw [ra, rb] at e35
  obtain ⟨V2, hV2⟩ : ∃ V, V = (u + v) % P25519 := ⟨_, rfl⟩
  obtain ⟨V3, hV3⟩ : ∃ V, V = (u + (P25519 - v)) % P25519 := ⟨_, rfl⟩
  obtain ⟨V4, hV4⟩ : ∃ V, V = u * v % P25519 := ⟨_, rfl⟩
  obtain ⟨V5, hV5⟩ : ∃ V, V = u * w % P25519 := ⟨_, rfl⟩
  obtain ⟨V6, hV6⟩ : ∃ V, V = invN u := ⟨_, rfl⟩
  have q2 := f30 pu pv true true
  have q3 := f31 pu pv true true
  have q4 := f32 pu pv true true
  have q5 := f32 pu pw true true
  have q6 := f33 pu true
  have q7 := f36 pu pv true true
  rw [← hV2] at g2 q2
  rw [← hV3] at g3 q3
  rw [← hV4] at g4 q4
  rw [← hV5] at g5 q5
  rw [← hV6] at g6 q6
  clear hV2 hV3 hV4 hV5 hV6
  have m0 := le32_len u
  have m1 := le32_len w
  have m2 := le32_len V2
  have m3 := le32_len V3
  have m4 := le32_len V4
  have m5 := le32_len V5
  have m6 := le32_len V6
  refine scall_of ttOk (by kernel_rfl : Try.prog.funcs[3]? = some Try.f3) rfl rfl rfl ?_
  try simp only [List.length_cons, List.length_nil, Nat.zero_add, Nat.reduceAdd]
  refine sw_ok ttOk mixed (by kernel_rfl) ?_
  conv => whnf
  repeat (fail)
  refine ok1_callF [] [] true (f20) rfl rfl ⟨⟨rfl, by first | rfl | fail⟩, trivial, by first | rfl | fail, by first | rfl | fail, ?_⟩
  conv => whnf
  repeat (first | (refine brF rfl ?_; conv => whnf) | (refine Exists.intro _ (And.intro (sload_all rfl (by first | rfl | (simp [ha, hb]; done) | fail)) ?_); conv => whnf) | fail)
  refine ok1_callF [] [] true (oa) rfl rfl ⟨⟨rfl, by first | ((repeat' (first | exact wk_nil | exact ren_m8 rfl | (refine wk_agg ?_) | (refine wk_cons ?_ ?_))); done) | fail⟩, trivial, by first | rfl | fail, by first | simp [plainRf, plainR, plainT, plainW], ?_⟩
  conv => whnf
  repeat (first | (refine Exists.intro _ (And.intro (sload_all rfl (by first | rfl | (simp [ha, hb]; done) | fail)) ?_); conv => whnf) | fail)
  refine ok1_callF [] [] true (ob) rfl rfl ⟨⟨rfl, by first | ((repeat' (first | exact wk_nil | exact ren_m8 rfl | (refine wk_agg ?_) | (refine wk_cons ?_ ?_))); done) | fail⟩, trivial, by first | rfl | fail, by first | simp [plainRf, plainR, plainT, plainW], ?_⟩
  conv => whnf
  repeat (fail)
  refine ok1_callF [] [] true (oz) rfl rfl ⟨⟨rfl, by first | rfl | fail⟩, trivial, by first | rfl | fail, by first | simp [plainRf, plainR, plainT, plainW], ?_⟩
  conv => whnf
  repeat (first | (refine Exists.intro _ (And.intro (sput_all rfl (by first | rfl | (simp [ha, hb, lx, ly, lz]; done) | fail)) ?_); conv => whnf) | (refine Exists.intro _ (And.intro rfl ?_); conv => whnf) | (refine And.intro (by first | omega | (simp; omega) | fail) ?_; conv => whnf) | (refine And.intro (by kernel_rfl) ?_; conv => whnf) | fail)
  refine ok1_callF [0] [false, true] false (fa) rfl rfl ⟨⟨rfl, by first | rfl | fail⟩, by (repeat' (first | exact trivial | refine And.intro ?_ ?_)) <;> first | exact ren_eq (by first | (simp; done) | fail) (by first | rfl | fail) | fail, by first | simp [plainHf, plainB], by first | rfl | fail, ?_⟩
  conv => whnf
  repeat (first | (refine Exists.intro _ (And.intro rfl ?_); conv => whnf) | (refine And.intro (by first | omega | (simp; omega) | fail) ?_; conv => whnf) | fail)
  refine ok1_callF [1] [false, true] false (fb) rfl rfl ⟨⟨rfl, by first | rfl | fail⟩, by (repeat' (first | exact trivial | refine And.intro ?_ ?_)) <;> first | exact ren_eq (by first | (simp; done) | fail) (by first | rfl | fail) | fail, by first | simp [plainHf, plainB], by first | rfl | fail, ?_⟩
  conv => whnf
  repeat (fail)
  refine ok1_callF [] [true] false (fn) rfl rfl ⟨⟨rfl, by first | rfl | fail⟩, trivial, by first | simp [plainHf, plainB], by first | rfl | fail, ?_⟩
  conv => whnf
  repeat (first | (refine Exists.intro _ (And.intro (sload_all rfl (by first | rfl | (simp [ha, hb, lx, ly, lz]; done) | fail)) ?_); conv => whnf) | (refine And.intro (by kernel_rfl) ?_; conv => whnf) | fail)
  refine ok1_callF [] [] true (g0) rfl rfl ⟨⟨rfl, by first | ((repeat' (first | exact wk_nil | exact ren_m64 rfl | (refine wk_agg ?_) | (refine wk_cons ?_ ?_))); done) | fail⟩, trivial, by first | rfl | fail, by first | simp [plainRf, plainR, plainT, plainW], ?_⟩
  conv => whnf
  repeat (first | (refine Exists.intro _ (And.intro (sload_all rfl (by first | rfl | (simp [lx, ly, lz]; done) | fail)) ?_); conv => whnf) | fail)
  refine ok1_callF [] [] true (g1) rfl rfl ⟨⟨rfl, by first | ((repeat' (first | exact wk_nil | exact ren_m64 rfl | (refine wk_agg ?_) | (refine wk_cons ?_ ?_))); done) | fail⟩, trivial, by first | rfl | fail, by first | simp [plainRf, plainR, plainT, plainW], ?_⟩
  conv => whnf
  repeat (first | (refine Exists.intro _ (And.intro (sload_all rfl (by first | rfl | (simp [lx, ly, lz]; done) | fail)) ?_); conv => whnf) | fail)
  refine ok1_callF [] [] true (f26 lx ly) rfl rfl ⟨⟨rfl, by first | ((repeat' (first | exact wk_nil | exact ren_m64 rfl | (refine wk_agg ?_) | (refine wk_cons ?_ ?_))); done) | fail⟩, trivial, by first | rfl | fail, by first | simp [plainRf, plainR, plainT, plainW], ?_⟩
  conv => whnf
  repeat (fail)
  refine ok1_callF [] [] true (g2) rfl rfl ⟨⟨rfl, by first | ((repeat' (first | exact wk_nil | exact ren_m64 rfl | (refine wk_agg ?_) | (refine wk_cons ?_ ?_))); done) | fail⟩, trivial, by first | rfl | fail, by first | simp [plainRf, plainR, plainT, plainW], ?_⟩
  conv => whnf
  repeat (first | (refine Exists.intro _ (And.intro (sload_all rfl (by first | rfl | (simp [lx, ly, lz]; done) | fail)) ?_); conv => whnf) | fail)
  refine ok1_callF [] [] true (f27 lx ly) rfl rfl ⟨⟨rfl, by first | ((repeat' (first | exact wk_nil | exact ren_m64 rfl | (refine wk_agg ?_) | (refine wk_cons ?_ ?_))); done) | fail⟩, trivial, by first | rfl | fail, by first | simp [plainRf, plainR, plainT, plainW], ?_⟩
  conv => whnf
  repeat (fail)
  refine ok1_callF [] [] true (g3) rfl rfl ⟨⟨rfl, by first | ((repeat' (first | exact wk_nil | exact ren_m64 rfl | (refine wk_agg ?_) | (refine wk_cons ?_ ?_))); done) | fail⟩, trivial, by first | rfl | fail, by first | simp [plainRf, plainR, plainT, plainW], ?_⟩
  conv => whnf
  repeat (first | (refine Exists.intro _ (And.intro (sload_all rfl (by first | rfl | (simp [lx, ly, lz]; done) | fail)) ?_); conv => whnf) | fail)
  refine ok1_callF [] [] true (f28 lx ly) rfl rfl ⟨⟨rfl, by first | ((repeat' (first | exact wk_nil | exact ren_m64 rfl | (refine wk_agg ?_) | (refine wk_cons ?_ ?_))); done) | fail⟩, trivial, by first | rfl | fail, by first | simp [plainRf, plainR, plainT, plainW], ?_⟩
  conv => whnf
  repeat (fail)
  refine ok1_callF [] [] true (g4) rfl rfl ⟨⟨rfl, by first | ((repeat' (first | exact wk_nil | exact ren_m64 rfl | (refine wk_agg ?_) | (refine wk_cons ?_ ?_))); done) | fail⟩, trivial, by first | rfl | fail, by first | simp [plainRf, plainR, plainT, plainW], ?_⟩
  conv => whnf
  repeat (first | (refine Exists.intro _ (And.intro (sload_all rfl (by first | rfl | (simp [lx, ly, lz]; done) | fail)) ?_); conv => whnf) | fail)
  refine ok1_callF [] [] true (f28 lx lz) rfl rfl ⟨⟨rfl, by first | ((repeat' (first | exact wk_nil | exact ren_m64 rfl | (refine wk_agg ?_) | (refine wk_cons ?_ ?_))); done) | fail⟩, trivial, by first | rfl | fail, by first | simp [plainRf, plainR, plainT, plainW], ?_⟩
  conv => whnf
  repeat (fail)
  refine ok1_callF [] [] true (g5) rfl rfl ⟨⟨rfl, by first | ((repeat' (first | exact wk_nil | exact ren_m64 rfl | (refine wk_agg ?_) | (refine wk_cons ?_ ?_))); done) | fail⟩, trivial, by first | rfl | fail, by first | simp [plainRf, plainR, plainT, plainW], ?_⟩
  conv => whnf
  repeat (first | (refine Exists.intro _ (And.intro (sload_all rfl (by first | rfl | (simp [lx, ly, lz]; done) | fail)) ?_); conv => whnf) | fail)
  refine ok1_callF [] [] true (f29 lx) rfl rfl ⟨⟨rfl, by first | ((repeat' (first | exact wk_nil | exact ren_m64 rfl | (refine wk_agg ?_) | (refine wk_cons ?_ ?_))); done) | fail⟩, trivial, by first | rfl | fail, by first | simp [plainRf, plainR, plainT, plainW], ?_⟩
  conv => whnf
  repeat (fail)
  refine ok1_callF [] [] true (g6) rfl rfl ⟨⟨rfl, by first | ((repeat' (first | exact wk_nil | exact ren_m64 rfl | (refine wk_agg ?_) | (refine wk_cons ?_ ?_))); done) | fail⟩, trivial, by first | rfl | fail, by first | simp [plainRf, plainR, plainT, plainW], ?_⟩
  conv => whnf
  conv => whnf
  obtain ⟨C, hC, hCl, c0, c1, c2, c3, c4, c5, c6⟩ := fill8 m0 m1 m2 m3 m4 m5 m6
  refine ⟨C.map .u8, hC, ?_⟩
  clear hC
  repeat (first | (refine And.intro (by kernel_rfl) ?_; conv => whnf) | fail)
  refine loop_rule ttOk mixed (by kernel_rfl) (ι := { i : Nat // i ≤ 7 }) (fun i => [(7, .p 0 0), (8, .p 1 0), (10, .sl 2 0 16 1 true), (11, .sl 3 0 16 1 true), (12, .sl 4 0 16 1 true), (53, .sl 5 0 7 32 true), (54, .i 7), (55, .i (i.1 : Int))]) (fun i => [some (.box (x.map .u64)), some (.box (y.map .u64)), some (.row 25 ((dg u).map .u64)), some (.row 25 ((dg v).map .u64)), some (.row 25 ((dg w).map .u64)), some (.row 22 (C.map .u8))]) (fun _ => 6) (fun i => 7 - i.1) ⟨0, by omega⟩ ?_ ?_
  · dsimp only
    refine Weak.sel [2, 3, 5, 6, 7, 8] rfl rfl ?_ ?_ rfl rfl
    · (repeat' (first | exact trivial | refine And.intro ?_ ?_ | fail)) <;> first | rfl | fail
    · (repeat' (first | exact trivial | refine And.intro ?_ ?_ | fail)) <;> first | rfl | exact ren_eq (by first | (simp; done) | fail) (by first | rfl | fail) | fail
  · rintro ⟨i, hi⟩
    dsimp only
    have hcs : i = 0 ∨ i = 1 ∨ i = 2 ∨ i = 3 ∨ i = 4 ∨ i = 5 ∨ i = 6 ∨ i = 7 := by omega
    rcases hcs with rfl | rfl | rfl | rfl | rfl | rfl | rfl | rfl
    · have k34 := f34 u true
      conv => whnf
      first | refine brT (by rfl) ?_ | fail
      conv => whnf
      repeat (first | (refine Exists.intro _ (And.intro rfl ?_); conv => whnf) | (refine pkT rfl ?_; conv => whnf) | (refine And.intro (by first | omega | fail) ?_; conv => whnf) | fail)
      erw [load_m 0 c0 hCl (by omega)]
      repeat (first | (refine Exists.intro _ (And.intro (sput_all rfl (by first | rfl | (simp [m0]; done) | fail)) ?_); conv => whnf) | (refine And.intro (by first | omega | (simp; omega) | fail) ?_; conv => whnf) | fail)
      refine ok1_callF [2, 3] [false, false, true] false (q2) rfl rfl ⟨⟨rfl, by first | rfl | fail⟩, by (repeat' (first | exact trivial | refine And.intro ?_ ?_)) <;> first | exact ren_eq (by first | (simp; done) | fail) (by first | rfl | fail) | fail, by first | simp [plainHf, plainB], by first | rfl | fail, ?_⟩
      conv => whnf
      repeat (fail)
      refine ok1_callF [2, 3] [false, false, true] false (q3) rfl rfl ⟨⟨rfl, by first | rfl | fail⟩, by (repeat' (first | exact trivial | refine And.intro ?_ ?_)) <;> first | exact ren_eq (by first | (simp; done) | fail) (by first | rfl | fail) | fail, by first | simp [plainHf, plainB], by first | rfl | fail, ?_⟩
      conv => whnf
      repeat (fail)
      refine ok1_callF [2, 3] [false, false, true] false (q4) rfl rfl ⟨⟨rfl, by first | rfl | fail⟩, by (repeat' (first | exact trivial | refine And.intro ?_ ?_)) <;> first | exact ren_eq (by first | (simp; done) | fail) (by first | rfl | fail) | fail, by first | simp [plainHf, plainB], by first | rfl | fail, ?_⟩
      conv => whnf
      repeat (fail)
      refine ok1_callF [2, 4] [false, false, true] false (q5) rfl rfl ⟨⟨rfl, by first | rfl | fail⟩, by (repeat' (first | exact trivial | refine And.intro ?_ ?_)) <;> first | exact ren_eq (by first | (simp; done) | fail) (by first | rfl | fail) | fail, by first | simp [plainHf, plainB], by first | rfl | fail, ?_⟩
      conv => whnf
      repeat (fail)
      refine ok1_callF [2] [false, true] false (q6) rfl rfl ⟨⟨rfl, by first | rfl | fail⟩, by (repeat' (first | exact trivial | refine And.intro ?_ ?_)) <;> first | exact ren_eq (by first | (simp; done) | fail) (by first | rfl | fail) | fail, by first | simp [plainHf, plainB], by first | rfl | fail, ?_⟩
      conv => whnf
      repeat (first | (refine Exists.intro _ (And.intro (bytesOf_cut rfl) ?_); conv => whnf) | (refine Exists.intro _ (And.intro rfl ?_); conv => whnf) | (refine And.intro (by first | omega | (simp; omega) | fail) ?_; conv => whnf) | fail)
      refine ok1_callF [2] [false, true] false (k34) rfl rfl ⟨⟨rfl, by first | rfl | fail⟩, by (repeat' (first | exact trivial | refine And.intro ?_ ?_)) <;> first | exact ren_eq (by first | (simp; done) | fail) (by first | rfl | fail) | fail, by first | simp [plainHf, plainB], by first | rfl | fail, ?_⟩
      conv => whnf
      repeat (first | (refine Exists.intro _ (And.intro (bytesOf_cut rfl) ?_); conv => whnf) | (refine gdF (by first | (simp; done) | fail) ?_; conv => whnf) | (refine And.intro (by first | omega | (simp; omega) | fail) ?_; conv => whnf) | (refine And.intro (by kernel_rfl) ?_; conv => whnf) | fail)
      refine ⟨⟨1, by omega⟩, by simp only; omega, ?_⟩
      refine Weak.sel [0, 1, 2, 3, 4, 5] rfl rfl ?_ ?_ rfl rfl
      · (repeat' (first | exact trivial | refine And.intro ?_ ?_ | fail)) <;> first | rfl | fail
      · (repeat' (first | exact trivial | refine And.intro ?_ ?_ | fail)) <;> first | rfl | exact ren_eq (by first | (simp; done) | fail) (by first | rfl | fail) | fail
    · have k34 := f34 w true
      conv => whnf
      first | refine brT (by rfl) ?_ | fail
      conv => whnf
      repeat (first | (refine Exists.intro _ (And.intro rfl ?_); conv => whnf) | (refine pkT rfl ?_; conv => whnf) | (refine And.intro (by first | omega | fail) ?_; conv => whnf) | fail)
      erw [load_m 32 c1 hCl (by omega)]
      repeat (first | (refine Exists.intro _ (And.intro (sput_all rfl (by first | rfl | (simp [m1]; done) | fail)) ?_); conv => whnf) | (refine And.intro (by first | omega | (simp; omega) | fail) ?_; conv => whnf) | fail)
      refine ok1_callF [2, 3] [false, false, true] false (q2) rfl rfl ⟨⟨rfl, by first | rfl | fail⟩, by (repeat' (first | exact trivial | refine And.intro ?_ ?_)) <;> first | exact ren_eq (by first | (simp; done) | fail) (by first | rfl | fail) | fail, by first | simp [plainHf, plainB], by first | rfl | fail, ?_⟩
      conv => whnf
      repeat (fail)
      refine ok1_callF [2, 3] [false, false, true] false (q3) rfl rfl ⟨⟨rfl, by first | rfl | fail⟩, by (repeat' (first | exact trivial | refine And.intro ?_ ?_)) <;> first | exact ren_eq (by first | (simp; done) | fail) (by first | rfl | fail) | fail, by first | simp [plainHf, plainB], by first | rfl | fail, ?_⟩
      conv => whnf
      repeat (fail)
      refine ok1_callF [2, 3] [false, false, true] false (q4) rfl rfl ⟨⟨rfl, by first | rfl | fail⟩, by (repeat' (first | exact trivial | refine And.intro ?_ ?_)) <;> first | exact ren_eq (by first | (simp; done) | fail) (by first | rfl | fail) | fail, by first | simp [plainHf, plainB], by first | rfl | fail, ?_⟩
      conv => whnf
      repeat (fail)
      refine ok1_callF [2, 4] [false, false, true] false (q5) rfl rfl ⟨⟨rfl, by first | rfl | fail⟩, by (repeat' (first | exact trivial | refine And.intro ?_ ?_)) <;> first | exact ren_eq (by first | (simp; done) | fail) (by first | rfl | fail) | fail, by first | simp [plainHf, plainB], by first | rfl | fail, ?_⟩
      conv => whnf
      repeat (fail)
      refine ok1_callF [2] [false, true] false (q6) rfl rfl ⟨⟨rfl, by first | rfl | fail⟩, by (repeat' (first | exact trivial | refine And.intro ?_ ?_)) <;> first | exact ren_eq (by first | (simp; done) | fail) (by first | rfl | fail) | fail, by first | simp [plainHf, plainB], by first | rfl | fail, ?_⟩
      conv => whnf
      repeat (first | (refine Exists.intro _ (And.intro (bytesOf_cut rfl) ?_); conv => whnf) | (refine Exists.intro _ (And.intro rfl ?_); conv => whnf) | (refine And.intro (by first | omega | (simp; omega) | fail) ?_; conv => whnf) | fail)
      refine ok1_callF [4] [false, true] false (k34) rfl rfl ⟨⟨rfl, by first | rfl | fail⟩, by (repeat' (first | exact trivial | refine And.intro ?_ ?_)) <;> first | exact ren_eq (by first | (simp; done) | fail) (by first | rfl | fail) | fail, by first | simp [plainHf, plainB], by first | rfl | fail, ?_⟩
      conv => whnf
      repeat (first | (refine Exists.intro _ (And.intro (bytesOf_cut rfl) ?_); conv => whnf) | (refine gdF (by first | (simp; done) | fail) ?_; conv => whnf) | (refine And.intro (by first | omega | (simp; omega) | fail) ?_; conv => whnf) | (refine And.intro (by kernel_rfl) ?_; conv => whnf) | fail)
      refine ⟨⟨2, by omega⟩, by simp only; omega, ?_⟩
      refine Weak.sel [0, 1, 2, 3, 4, 5] rfl rfl ?_ ?_ rfl rfl
      · (repeat' (first | exact trivial | refine And.intro ?_ ?_ | fail)) <;> first | rfl | fail
      · (repeat' (first | exact trivial | refine And.intro ?_ ?_ | fail)) <;> first | rfl | exact ren_eq (by first | (simp; done) | fail) (by first | rfl | fail) | fail
    · have k34 := f34 V2 true
      conv => whnf
      first | refine brT (by rfl) ?_ | fail
      conv => whnf
      repeat (first | (refine Exists.intro _ (And.intro rfl ?_); conv => whnf) | (refine pkT rfl ?_; conv => whnf) | (refine And.intro (by first | omega | fail) ?_; conv => whnf) | fail)
      erw [load_m 64 c2 hCl (by omega)]
      repeat (first | (refine Exists.intro _ (And.intro (sput_all rfl (by first | rfl | (simp [m2]; done) | fail)) ?_); conv => whnf) | (refine And.intro (by first | omega | (simp; omega) | fail) ?_; conv => whnf) | fail)
      refine ok1_callF [2, 3] [false, false, true] false (q2) rfl rfl ⟨⟨rfl, by first | rfl | fail⟩, by (repeat' (first | exact trivial | refine And.intro ?_ ?_)) <;> first | exact ren_eq (by first | (simp; done) | fail) (by first | rfl | fail) | fail, by first | simp [plainHf, plainB], by first | rfl | fail, ?_⟩
      conv => whnf
      repeat (fail)
      refine ok1_callF [2, 3] [false, false, true] false (q3) rfl rfl ⟨⟨rfl, by first | rfl | fail⟩, by (repeat' (first | exact trivial | refine And.intro ?_ ?_)) <;> first | exact ren_eq (by first | (simp; done) | fail) (by first | rfl | fail) | fail, by first | simp [plainHf, plainB], by first | rfl | fail, ?_⟩
      conv => whnf
      repeat (fail)
      refine ok1_callF [2, 3] [false, false, true] false (q4) rfl rfl ⟨⟨rfl, by first | rfl | fail⟩, by (repeat' (first | exact trivial | refine And.intro ?_ ?_)) <;> first | exact ren_eq (by first | (simp; done) | fail) (by first | rfl | fail) | fail, by first | simp [plainHf, plainB], by first | rfl | fail, ?_⟩
      conv => whnf
      repeat (fail)
      refine ok1_callF [2, 4] [false, false, true] false (q5) rfl rfl ⟨⟨rfl, by first | rfl | fail⟩, by (repeat' (first | exact trivial | refine And.intro ?_ ?_)) <;> first | exact ren_eq (by first | (simp; done) | fail) (by first | rfl | fail) | fail, by first | simp [plainHf, plainB], by first | rfl | fail, ?_⟩
      conv => whnf
      repeat (fail)
      refine ok1_callF [2] [false, true] false (q6) rfl rfl ⟨⟨rfl, by first | rfl | fail⟩, by (repeat' (first | exact trivial | refine And.intro ?_ ?_)) <;> first | exact ren_eq (by first | (simp; done) | fail) (by first | rfl | fail) | fail, by first | simp [plainHf, plainB], by first | rfl | fail, ?_⟩
      conv => whnf
      repeat (first | (refine Exists.intro _ (And.intro (bytesOf_cut rfl) ?_); conv => whnf) | (refine Exists.intro _ (And.intro rfl ?_); conv => whnf) | (refine And.intro (by first | omega | (simp; omega) | fail) ?_; conv => whnf) | fail)
      refine ok1_callF [7] [false, true] false (k34) rfl rfl ⟨⟨rfl, by first | rfl | fail⟩, by (repeat' (first | exact trivial | refine And.intro ?_ ?_)) <;> first | exact ren_eq (by first | (simp; done) | fail) (by first | rfl | fail) | fail, by first | simp [plainHf, plainB], by first | rfl | fail, ?_⟩
      conv => whnf
      repeat (first | (refine Exists.intro _ (And.intro (bytesOf_cut rfl) ?_); conv => whnf) | (refine gdF (by first | (simp; done) | fail) ?_; conv => whnf) | (refine And.intro (by first | omega | (simp; omega) | fail) ?_; conv => whnf) | (refine And.intro (by kernel_rfl) ?_; conv => whnf) | fail)
      refine ⟨⟨3, by omega⟩, by simp only; omega, ?_⟩
      refine Weak.sel [0, 1, 2, 3, 4, 5] rfl rfl ?_ ?_ rfl rfl
      · (repeat' (first | exact trivial | refine And.intro ?_ ?_ | fail)) <;> first | rfl | fail
      · (repeat' (first | exact trivial | refine And.intro ?_ ?_ | fail)) <;> first | rfl | exact ren_eq (by first | (simp; done) | fail) (by first | rfl | fail) | fail
    · have k34 := f34 V3 true
      conv => whnf
      first | refine brT (by rfl) ?_ | fail
      conv => whnf
      repeat (first | (refine Exists.intro _ (And.intro rfl ?_); conv => whnf) | (refine pkT rfl ?_; conv => whnf) | (refine And.intro (by first | omega | fail) ?_; conv => whnf) | fail)
      erw [load_m 96 c3 hCl (by omega)]
      repeat (first | (refine Exists.intro _ (And.intro (sput_all rfl (by first | rfl | (simp [m3]; done) | fail)) ?_); conv => whnf) | (refine And.intro (by first | omega | (simp; omega) | fail) ?_; conv => whnf) | fail)
      refine ok1_callF [2, 3] [false, false, true] false (q2) rfl rfl ⟨⟨rfl, by first | rfl | fail⟩, by (repeat' (first | exact trivial | refine And.intro ?_ ?_)) <;> first | exact ren_eq (by first | (simp; done) | fail) (by first | rfl | fail) | fail, by first | simp [plainHf, plainB], by first | rfl | fail, ?_⟩
      conv => whnf
      repeat (fail)
      refine ok1_callF [2, 3] [false, false, true] false (q3) rfl rfl ⟨⟨rfl, by first | rfl | fail⟩, by (repeat' (first | exact trivial | refine And.intro ?_ ?_)) <;> first | exact ren_eq (by first | (simp; done) | fail) (by first | rfl | fail) | fail, by first | simp [plainHf, plainB], by first | rfl | fail, ?_⟩
      conv => whnf
      repeat (fail)
      refine ok1_callF [2, 3] [false, false, true] false (q4) rfl rfl ⟨⟨rfl, by first | rfl | fail⟩, by (repeat' (first | exact trivial | refine And.intro ?_ ?_)) <;> first | exact ren_eq (by first | (simp; done) | fail) (by first | rfl | fail) | fail, by first | simp [plainHf, plainB], by first | rfl | fail, ?_⟩
      conv => whnf
      repeat (fail)
      refine ok1_callF [2, 4] [false, false, true] false (q5) rfl rfl ⟨⟨rfl, by first | rfl | fail⟩, by (repeat' (first | exact trivial | refine And.intro ?_ ?_)) <;> first | exact ren_eq (by first | (simp; done) | fail) (by first | rfl | fail) | fail, by first | simp [plainHf, plainB], by first | rfl | fail, ?_⟩
      conv => whnf
      repeat (fail)
      refine ok1_callF [2] [false, true] false (q6) rfl rfl ⟨⟨rfl, by first | rfl | fail⟩, by (repeat' (first | exact trivial | refine And.intro ?_ ?_)) <;> first | exact ren_eq (by first | (simp; done) | fail) (by first | rfl | fail) | fail, by first | simp [plainHf, plainB], by first | rfl | fail, ?_⟩
      conv => whnf
      repeat (first | (refine Exists.intro _ (And.intro (bytesOf_cut rfl) ?_); conv => whnf) | (refine Exists.intro _ (And.intro rfl ?_); conv => whnf) | (refine And.intro (by first | omega | (simp; omega) | fail) ?_; conv => whnf) | fail)
      refine ok1_callF [8] [false, true] false (k34) rfl rfl ⟨⟨rfl, by first | rfl | fail⟩, by (repeat' (first | exact trivial | refine And.intro ?_ ?_)) <;> first | exact ren_eq (by first | (simp; done) | fail) (by first | rfl | fail) | fail, by first | simp [plainHf, plainB], by first | rfl | fail, ?_⟩
      conv => whnf
      repeat (first | (refine Exists.intro _ (And.intro (bytesOf_cut rfl) ?_); conv => whnf) | (refine gdF (by first | (simp; done) | fail) ?_; conv => whnf) | (refine And.intro (by first | omega | (simp; omega) | fail) ?_; conv => whnf) | (refine And.intro (by kernel_rfl) ?_; conv => whnf) | fail)
      refine ⟨⟨4, by omega⟩, by simp only; omega, ?_⟩
      refine Weak.sel [0, 1, 2, 3, 4, 5] rfl rfl ?_ ?_ rfl rfl
      · (repeat' (first | exact trivial | refine And.intro ?_ ?_ | fail)) <;> first | rfl | fail
      · (repeat' (first | exact trivial | refine And.intro ?_ ?_ | fail)) <;> first | rfl | exact ren_eq (by first | (simp; done) | fail) (by first | rfl | fail) | fail
    · have k34 := f34 V4 true
      conv => whnf
      first | refine brT (by rfl) ?_ | fail
      conv => whnf
      repeat (first | (refine Exists.intro _ (And.intro rfl ?_); conv => whnf) | (refine pkT rfl ?_; conv => whnf) | (refine And.intro (by first | omega | fail) ?_; conv => whnf) | fail)
      erw [load_m 128 c4 hCl (by omega)]
      repeat (first | (refine Exists.intro _ (And.intro (sput_all rfl (by first | rfl | (simp [m4]; done) | fail)) ?_); conv => whnf) | (refine And.intro (by first | omega | (simp; omega) | fail) ?_; conv => whnf) | fail)
      refine ok1_callF [2, 3] [false, false, true] false (q2) rfl rfl ⟨⟨rfl, by first | rfl | fail⟩, by (repeat' (first | exact trivial | refine And.intro ?_ ?_)) <;> first | exact ren_eq (by first | (simp; done) | fail) (by first | rfl | fail) | fail, by first | simp [plainHf, plainB], by first | rfl | fail, ?_⟩
      conv => whnf
      repeat (fail)
      refine ok1_callF [2, 3] [false, false, true] false (q3) rfl rfl ⟨⟨rfl, by first | rfl | fail⟩, by (repeat' (first | exact trivial | refine And.intro ?_ ?_)) <;> first | exact ren_eq (by first | (simp; done) | fail) (by first | rfl | fail) | fail, by first | simp [plainHf, plainB], by first | rfl | fail, ?_⟩
      conv => whnf
      repeat (fail)
      refine ok1_callF [2, 3] [false, false, true] false (q4) rfl rfl ⟨⟨rfl, by first | rfl | fail⟩, by (repeat' (first | exact trivial | refine And.intro ?_ ?_)) <;> first | exact ren_eq (by first | (simp; done) | fail) (by first | rfl | fail) | fail, by first | simp [plainHf, plainB], by first | rfl | fail, ?_⟩
      conv => whnf
      repeat (fail)
      refine ok1_callF [2, 4] [false, false, true] false (q5) rfl rfl ⟨⟨rfl, by first | rfl | fail⟩, by (repeat' (first | exact trivial | refine And.intro ?_ ?_)) <;> first | exact ren_eq (by first | (simp; done) | fail) (by first | rfl | fail) | fail, by first | simp [plainHf, plainB], by first | rfl | fail, ?_⟩
      conv => whnf
      repeat (fail)
      refine ok1_callF [2] [false, true] false (q6) rfl rfl ⟨⟨rfl, by first | rfl | fail⟩, by (repeat' (first | exact trivial | refine And.intro ?_ ?_)) <;> first | exact ren_eq (by first | (simp; done) | fail) (by first | rfl | fail) | fail, by first | simp [plainHf, plainB], by first | rfl | fail, ?_⟩
      conv => whnf
      repeat (first | (refine Exists.intro _ (And.intro (bytesOf_cut rfl) ?_); conv => whnf) | (refine Exists.intro _ (And.intro rfl ?_); conv => whnf) | (refine And.intro (by first | omega | (simp; omega) | fail) ?_; conv => whnf) | fail)
      refine ok1_callF [9] [false, true] false (k34) rfl rfl ⟨⟨rfl, by first | rfl | fail⟩, by (repeat' (first | exact trivial | refine And.intro ?_ ?_)) <;> first | exact ren_eq (by first | (simp; done) | fail) (by first | rfl | fail) | fail, by first | simp [plainHf, plainB], by first | rfl | fail, ?_⟩
      conv => whnf
      repeat (first | (refine Exists.intro _ (And.intro (bytesOf_cut rfl) ?_); conv => whnf) | (refine gdF (by first | (simp; done) | fail) ?_; conv => whnf) | (refine And.intro (by first | omega | (simp; omega) | fail) ?_; conv => whnf) | (refine And.intro (by kernel_rfl) ?_; conv => whnf) | fail)
      refine ⟨⟨5, by omega⟩, by simp only; omega, ?_⟩
      refine Weak.sel [0, 1, 2, 3, 4, 5] rfl rfl ?_ ?_ rfl rfl
      · (repeat' (first | exact trivial | refine And.intro ?_ ?_ | fail)) <;> first | rfl | fail
      · (repeat' (first | exact trivial | refine And.intro ?_ ?_ | fail)) <;> first | rfl | exact ren_eq (by first | (simp; done) | fail) (by first | rfl | fail) | fail
    · have k34 := f34 V5 true
      conv => whnf
      first | refine brT (by rfl) ?_ | fail
      conv => whnf
      repeat (first | (refine Exists.intro _ (And.intro rfl ?_); conv => whnf) | (refine pkT rfl ?_; conv => whnf) | (refine And.intro (by first | omega | fail) ?_; conv => whnf) | fail)
      erw [load_m 160 c5 hCl (by omega)]
      repeat (first | (refine Exists.intro _ (And.intro (sput_all rfl (by first | rfl | (simp [m5]; done) | fail)) ?_); conv => whnf) | (refine And.intro (by first | omega | (simp; omega) | fail) ?_; conv => whnf) | fail)
      refine ok1_callF [2, 3] [false, false, true] false (q2) rfl rfl ⟨⟨rfl, by first | rfl | fail⟩, by (repeat' (first | exact trivial | refine And.intro ?_ ?_)) <;> first | exact ren_eq (by first | (simp; done) | fail) (by first | rfl | fail) | fail, by first | simp [plainHf, plainB], by first | rfl | fail, ?_⟩
      conv => whnf
      repeat (fail)
      refine ok1_callF [2, 3] [false, false, true] false (q3) rfl rfl ⟨⟨rfl, by first | rfl | fail⟩, by (repeat' (first | exact trivial | refine And.intro ?_ ?_)) <;> first | exact ren_eq (by first | (simp; done) | fail) (by first | rfl | fail) | fail, by first | simp [plainHf, plainB], by first | rfl | fail, ?_⟩
      conv => whnf
      repeat (fail)
      refine ok1_callF [2, 3] [false, false, true] false (q4) rfl rfl ⟨⟨rfl, by first | rfl | fail⟩, by (repeat' (first | exact trivial | refine And.intro ?_ ?_)) <;> first | exact ren_eq (by first | (simp; done) | fail) (by first | rfl | fail) | fail, by first | simp [plainHf, plainB], by first | rfl | fail, ?_⟩
      conv => whnf
      repeat (fail)
      refine ok1_callF [2, 4] [false, false, true] false (q5) rfl rfl ⟨⟨rfl, by first | rfl | fail⟩, by (repeat' (first | exact trivial | refine And.intro ?_ ?_)) <;> first | exact ren_eq (by first | (simp; done) | fail) (by first | rfl | fail) | fail, by first | simp [plainHf, plainB], by first | rfl | fail, ?_⟩
      conv => whnf
      repeat (fail)
      refine ok1_callF [2] [false, true] false (q6) rfl rfl ⟨⟨rfl, by first | rfl | fail⟩, by (repeat' (first | exact trivial | refine And.intro ?_ ?_)) <;> first | exact ren_eq (by first | (simp; done) | fail) (by first | rfl | fail) | fail, by first | simp [plainHf, plainB], by first | rfl | fail, ?_⟩
      conv => whnf
      repeat (first | (refine Exists.intro _ (And.intro (bytesOf_cut rfl) ?_); conv => whnf) | (refine Exists.intro _ (And.intro rfl ?_); conv => whnf) | (refine And.intro (by first | omega | (simp; omega) | fail) ?_; conv => whnf) | fail)
      refine ok1_callF [10] [false, true] false (k34) rfl rfl ⟨⟨rfl, by first | rfl | fail⟩, by (repeat' (first | exact trivial | refine And.intro ?_ ?_)) <;> first | exact ren_eq (by first | (simp; done) | fail) (by first | rfl | fail) | fail, by first | simp [plainHf, plainB], by first | rfl | fail, ?_⟩
      conv => whnf
      repeat (first | (refine Exists.intro _ (And.intro (bytesOf_cut rfl) ?_); conv => whnf) | (refine gdF (by first | (simp; done) | fail) ?_; conv => whnf) | (refine And.intro (by first | omega | (simp; omega) | fail) ?_; conv => whnf) | (refine And.intro (by kernel_rfl) ?_; conv => whnf) | fail)
      refine ⟨⟨6, by omega⟩, by simp only; omega, ?_⟩
      refine Weak.sel [0, 1, 2, 3, 4, 5] rfl rfl ?_ ?_ rfl rfl
      · (repeat' (first | exact trivial | refine And.intro ?_ ?_ | fail)) <;> first | rfl | fail
      · (repeat' (first | exact trivial | refine And.intro ?_ ?_ | fail)) <;> first | rfl | exact ren_eq (by first | (simp; done) | fail) (by first | rfl | fail) | fail
    · have k34 := f34 V6 true
      conv => whnf
      first | refine brT (by rfl) ?_ | fail
      conv => whnf
      repeat (first | (refine Exists.intro _ (And.intro rfl ?_); conv => whnf) | (refine pkT rfl ?_; conv => whnf) | (refine And.intro (by first | omega | fail) ?_; conv => whnf) | fail)
      erw [load_m 192 c6 hCl (by omega)]
      repeat (first | (refine Exists.intro _ (And.intro (sput_all rfl (by first | rfl | (simp [m6]; done) | fail)) ?_); conv => whnf) | (refine And.intro (by first | omega | (simp; omega) | fail) ?_; conv => whnf) | fail)
      refine ok1_callF [2, 3] [false, false, true] false (q2) rfl rfl ⟨⟨rfl, by first | rfl | fail⟩, by (repeat' (first | exact trivial | refine And.intro ?_ ?_)) <;> first | exact ren_eq (by first | (simp; done) | fail) (by first | rfl | fail) | fail, by first | simp [plainHf, plainB], by first | rfl | fail, ?_⟩
      conv => whnf
      repeat (fail)
      refine ok1_callF [2, 3] [false, false, true] false (q3) rfl rfl ⟨⟨rfl, by first | rfl | fail⟩, by (repeat' (first | exact trivial | refine And.intro ?_ ?_)) <;> first | exact ren_eq (by first | (simp; done) | fail) (by first | rfl | fail) | fail, by first | simp [plainHf, plainB], by first | rfl | fail, ?_⟩
      conv => whnf
      repeat (fail)
      refine ok1_callF [2, 3] [false, false, true] false (q4) rfl rfl ⟨⟨rfl, by first | rfl | fail⟩, by (repeat' (first | exact trivial | refine And.intro ?_ ?_)) <;> first | exact ren_eq (by first | (simp; done) | fail) (by first | rfl | fail) | fail, by first | simp [plainHf, plainB], by first | rfl | fail, ?_⟩
      conv => whnf
      repeat (fail)
      refine ok1_callF [2, 4] [false, false, true] false (q5) rfl rfl ⟨⟨rfl, by first | rfl | fail⟩, by (repeat' (first | exact trivial | refine And.intro ?_ ?_)) <;> first | exact ren_eq (by first | (simp; done) | fail) (by first | rfl | fail) | fail, by first | simp [plainHf, plainB], by first | rfl | fail, ?_⟩
      conv => whnf
      repeat (fail)
      refine ok1_callF [2] [false, true] false (q6) rfl rfl ⟨⟨rfl, by first | rfl | fail⟩, by (repeat' (first | exact trivial | refine And.intro ?_ ?_)) <;> first | exact ren_eq (by first | (simp; done) | fail) (by first | rfl | fail) | fail, by first | simp [plainHf, plainB], by first | rfl | fail, ?_⟩
      conv => whnf
      repeat (first | (refine Exists.intro _ (And.intro (bytesOf_cut rfl) ?_); conv => whnf) | (refine Exists.intro _ (And.intro rfl ?_); conv => whnf) | (refine And.intro (by first | omega | (simp; omega) | fail) ?_; conv => whnf) | fail)
      refine ok1_callF [11] [false, true] false (k34) rfl rfl ⟨⟨rfl, by first | rfl | fail⟩, by (repeat' (first | exact trivial | refine And.intro ?_ ?_)) <;> first | exact ren_eq (by first | (simp; done) | fail) (by first | rfl | fail) | fail, by first | simp [plainHf, plainB], by first | rfl | fail, ?_⟩
      conv => whnf
      repeat (first | (refine Exists.intro _ (And.intro (bytesOf_cut rfl) ?_); conv => whnf) | (refine gdF (by first | (simp; done) | fail) ?_; conv => whnf) | (refine And.intro (by first | omega | (simp; omega) | fail) ?_; conv => whnf) | (refine And.intro (by kernel_rfl) ?_; conv => whnf) | fail)
      refine ⟨⟨7, by omega⟩, by simp only; omega, ?_⟩
      refine Weak.sel [0, 1, 2, 3, 4, 5] rfl rfl ?_ ?_ rfl rfl
      · (repeat' (first | exact trivial | refine And.intro ?_ ?_ | fail)) <;> first | rfl | fail
      · (repeat' (first | exact trivial | refine And.intro ?_ ?_ | fail)) <;> first | rfl | exact ren_eq (by first | (simp; done) | fail) (by first | rfl | fail) | fail
    · conv => whnf
      first | refine brF (by rfl) ?_ | fail
      conv => whnf
      repeat (first | (refine Exists.intro _ (And.intro (sload_all rfl (by first | rfl | (simp; omega))) ?_); conv => whnf) | fail)
      refine ok1_callF [] [] true (e35) rfl rfl ⟨⟨rfl, by first | ((repeat' (first | exact wk_nil | exact ren_m64 rfl | (refine wk_agg ?_) | (refine wk_cons ?_ ?_))); done) | fail⟩, trivial, by first | rfl | fail, by first | rfl | fail, ?_⟩
      conv => whnf
      repeat (fail)
      refine ok1_callF [2, 3] [false, false] true (q7) rfl rfl ⟨⟨rfl, by first | rfl | fail⟩, by (repeat' (first | exact trivial | refine And.intro ?_ ?_)) <;> first | exact ren_eq (by first | (simp; done) | fail) (by first | rfl | fail) | fail, by first | rfl | fail, by first | rfl | fail, ?_⟩
      conv => whnf
      repeat (first | (refine And.intro (by kernel_rfl) ?_; conv => whnf) | fail)
      refine ⟨[], ?_, rfl, rfl, ?_, rfl⟩
      · (repeat' (fail)) <;> first | exact wk_b (by first | (simp; done) | fail) | fail
      · (repeat' (first | exact trivial | fail)) <;> fail
end Go.Sh
