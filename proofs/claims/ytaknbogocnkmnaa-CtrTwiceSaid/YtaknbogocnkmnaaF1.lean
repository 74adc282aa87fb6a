/- ctr: the next counter (f54). -/
import Derived.Test.YtaknbogocnkmnaaF1a
import Derived.Test.YtaknbogocnkmnaaSh25
namespace Go.Sh
open Go.Proofs
set_option maxHeartbeats 1000000
set_option linter.unusedSimpArgs false

theorem f54 (c0 c1 c2 c3 c4 c5 c6 c7 c8 c9 c10 c11 c12 c13 c14 c15 : UInt8) : SCall Try.prog 54 [.agg ([c0, c1, c2, c3, c4, c5, c6, c7, c8, c9, c10, c11, c12, c13, c14, c15].map .u8)] [] (.agg ((nextC [c0, c1, c2, c3, c4, c5, c6, c7, c8, c9, c10, c11, c12, c13, c14, c15]).map .u8)) [] := by
  have hn : nextC [c0, c1, c2, c3, c4, c5, c6, c7, c8, c9, c10, c11, c12, c13, c14, c15] = [c0, c1, c2, c3, c4, c5, c6, c7, c8, c9, c10, c11] ++ inc4 c12 c13 c14 c15 := rfl
  rw [hn]
  refine scall_of ttOk (by kernel_rfl : Try.prog.funcs[54]? = some Try.f54) rfl rfl rfl ?_
  refine sw_ok ttOk mixed (by kernel_rfl) ?_
  conv => whnf
  repeat (fail)
  refine loop_rounds ttOk mixed (by kernel_rfl) 5 ?_
  conv => whnf
  by_cases h15 : c15 + 1 ≠ 0
  · have hq : inc4 c12 c13 c14 c15 = [c12, c13, c14, c15 + 1] := by unfold inc4; rw [if_pos h15]
    have g15 : (c15 + 1 != 0) = true := by simp [h15]
    rw [hq]
    repeat (first | (refine brT rfl ?_; conv => whnf) | (refine Exists.intro _ (And.intro (sload_all rfl (by first | rfl | fail)) ?_); conv => whnf) | (refine Exists.intro _ (And.intro (sput_all rfl (by first | rfl | fail)) ?_); conv => whnf) | (refine gdT g15 ?_; conv => whnf) | (refine Exists.intro _ (And.intro rfl ?_); conv => whnf) | (refine And.intro (by first | omega | (simp; done) | fail) ?_; conv => whnf) | fail)
    refine ⟨[], ?_, rfl, rfl, ?_, rfl⟩
    · (repeat' (first | (refine wk_agg ?_) | (refine wk_cons ?_ ?_))) <;> first | rfl | fail
    · (repeat' (first | exact trivial | fail)) <;> fail
  · have g15 : (c15 + 1 != 0) = false := by simpa using h15
    by_cases h14 : c14 + 1 ≠ 0
    · have hq : inc4 c12 c13 c14 c15 = [c12, c13, c14 + 1, c15 + 1] := by unfold inc4; rw [if_neg h15, if_pos h14]
      have g14 : (c14 + 1 != 0) = true := by simp [h14]
      rw [hq]
      repeat (first | (refine brT rfl ?_; conv => whnf) | (refine Exists.intro _ (And.intro (sload_all rfl (by first | rfl | fail)) ?_); conv => whnf) | (refine Exists.intro _ (And.intro (sput_all rfl (by first | rfl | fail)) ?_); conv => whnf) | (refine gdF g15 ?_; conv => whnf) | (refine gdT g14 ?_; conv => whnf) | (refine Exists.intro _ (And.intro rfl ?_); conv => whnf) | (refine And.intro (by first | omega | (simp; done) | fail) ?_; conv => whnf) | (refine And.intro (Nat.le_of_ble_eq_true rfl) ?_; conv => whnf) | (refine And.intro ⟨rfl, Nat.le_of_ble_eq_true rfl⟩ ?_; conv => whnf) | fail)
      refine ⟨[], ?_, rfl, rfl, ?_, rfl⟩
      · (repeat' (first | (refine wk_agg ?_) | (refine wk_cons ?_ ?_))) <;> first | rfl | fail
      · (repeat' (first | exact trivial | fail)) <;> fail
    · have g14 : (c14 + 1 != 0) = false := by simpa using h14
      by_cases h13 : c13 + 1 ≠ 0
      · have hq : inc4 c12 c13 c14 c15 = [if c13 + 1 ≠ 0 then c12 else c12 + 1, c13 + 1, c14 + 1, c15 + 1] := by unfold inc4; rw [if_neg h15, if_neg h14]; simp only [if_pos h13]
        have g13 : (c13 + 1 != 0) = true := by simpa using h13
        rw [hq]
        simp only [if_pos h13]
        by_cases h12 : c12 + 1 ≠ 0
        · have g12 : (c12 + 1 != 0) = true := by simp [h12]
          repeat (first | (refine brT rfl ?_; conv => whnf) | (refine Exists.intro _ (And.intro (sload_all rfl (by first | rfl | fail)) ?_); conv => whnf) | (refine Exists.intro _ (And.intro (sput_all rfl (by first | rfl | fail)) ?_); conv => whnf) | (refine gdF g15 ?_; conv => whnf) | (refine gdF g14 ?_; conv => whnf) | (refine gdT g13 ?_; conv => whnf) | (refine Exists.intro _ (And.intro rfl ?_); conv => whnf) | (refine And.intro (by first | omega | (simp; done) | fail) ?_; conv => whnf) | (refine And.intro (Nat.le_of_ble_eq_true rfl) ?_; conv => whnf) | (refine And.intro ⟨rfl, Nat.le_of_ble_eq_true rfl⟩ ?_; conv => whnf) | fail)
          refine ⟨[], ?_, rfl, rfl, ?_, rfl⟩
          · (repeat' (first | (refine wk_agg ?_) | (refine wk_cons ?_ ?_))) <;> first | rfl | fail
          · (repeat' (first | exact trivial | fail)) <;> fail
        · have g12 : (c12 + 1 != 0) = false := by simpa using h12
          repeat (first | (refine brT rfl ?_; conv => whnf) | (refine Exists.intro _ (And.intro (sload_all rfl (by first | rfl | fail)) ?_); conv => whnf) | (refine Exists.intro _ (And.intro (sput_all rfl (by first | rfl | fail)) ?_); conv => whnf) | (refine gdF g15 ?_; conv => whnf) | (refine gdF g14 ?_; conv => whnf) | (refine gdT g13 ?_; conv => whnf) | (refine Exists.intro _ (And.intro rfl ?_); conv => whnf) | (refine And.intro (by first | omega | (simp; done) | fail) ?_; conv => whnf) | (refine And.intro (Nat.le_of_ble_eq_true rfl) ?_; conv => whnf) | (refine And.intro ⟨rfl, Nat.le_of_ble_eq_true rfl⟩ ?_; conv => whnf) | fail)
          refine ⟨[], ?_, rfl, rfl, ?_, rfl⟩
          · (repeat' (first | (refine wk_agg ?_) | (refine wk_cons ?_ ?_))) <;> first | rfl | fail
          · (repeat' (first | exact trivial | fail)) <;> fail
      · have hq : inc4 c12 c13 c14 c15 = [if c13 + 1 ≠ 0 then c12 else c12 + 1, c13 + 1, c14 + 1, c15 + 1] := by unfold inc4; rw [if_neg h15, if_neg h14]; simp only [if_neg h13]
        have g13 : (c13 + 1 != 0) = false := by simpa using h13
        rw [hq]
        simp only [if_neg h13]
        by_cases h12 : c12 + 1 ≠ 0
        · have g12 : (c12 + 1 != 0) = true := by simp [h12]
          repeat (first | (refine brT rfl ?_; conv => whnf) | (refine Exists.intro _ (And.intro (sload_all rfl (by first | rfl | fail)) ?_); conv => whnf) | (refine Exists.intro _ (And.intro (sput_all rfl (by first | rfl | fail)) ?_); conv => whnf) | (refine gdF g15 ?_; conv => whnf) | (refine gdF g14 ?_; conv => whnf) | (refine gdF g13 ?_; conv => whnf) | (refine gdT g12 ?_; conv => whnf) | (refine Exists.intro _ (And.intro rfl ?_); conv => whnf) | (refine And.intro (by first | omega | (simp; done) | fail) ?_; conv => whnf) | (refine And.intro (Nat.le_of_ble_eq_true rfl) ?_; conv => whnf) | (refine And.intro ⟨rfl, Nat.le_of_ble_eq_true rfl⟩ ?_; conv => whnf) | fail)
          refine ⟨[], ?_, rfl, rfl, ?_, rfl⟩
          · (repeat' (first | (refine wk_agg ?_) | (refine wk_cons ?_ ?_))) <;> first | rfl | fail
          · (repeat' (first | exact trivial | fail)) <;> fail
        · have g12 : (c12 + 1 != 0) = false := by simpa using h12
          repeat (first | (refine brT rfl ?_; conv => whnf) | (refine brF rfl ?_; conv => whnf) | (refine Exists.intro _ (And.intro (sload_all rfl (by first | rfl | fail)) ?_); conv => whnf) | (refine Exists.intro _ (And.intro (sput_all rfl (by first | rfl | fail)) ?_); conv => whnf) | (refine gdF g15 ?_; conv => whnf) | (refine gdF g14 ?_; conv => whnf) | (refine gdF g13 ?_; conv => whnf) | (refine gdF g12 ?_; conv => whnf) | (refine Exists.intro _ (And.intro rfl ?_); conv => whnf) | (refine And.intro (by first | omega | (simp; done) | fail) ?_; conv => whnf) | (refine And.intro (Nat.le_of_ble_eq_true rfl) ?_; conv => whnf) | (refine And.intro ⟨rfl, Nat.le_of_ble_eq_true rfl⟩ ?_; conv => whnf) | fail)
          refine ⟨[], ?_, rfl, rfl, ?_, rfl⟩
          · (repeat' (first | (refine wk_agg ?_) | (refine wk_cons ?_ ?_))) <;> first | rfl | fail
          · (repeat' (first | exact trivial | fail)) <;> fail

end Go.Sh
