/- Merged for a claim: E4, E5, E10, E7, E8, E11, E12a, G9, F1, F4, Sh28. -/
import Derived.Test.YtaknbogocnkmnaaGs3
/- aes.Seal, walked. -/
namespace Go.Sh
open Go.Proofs
set_option maxHeartbeats 8000000
set_option linter.unusedSimpArgs false

theorem f47n (b : List UInt8) : SCall Try.prog 47 [.pnil, .agg (b.map .u8)] [] (.agg (List.replicate 16 (.u8 0))) [] := by
  refine scall_of ttOk (by kernel_rfl : Try.prog.funcs[47]? = some Try.f47) rfl rfl rfl ?_
  refine sw_ok ttOk mixed (by kernel_rfl) ?_
  conv => whnf
  repeat (first | (refine brT rfl ?_; conv => whnf) | (refine Exists.intro _ (And.intro (sload_all rfl (by first | rfl | fail)) ?_); conv => whnf) | (refine Exists.intro _ (And.intro (sput_all rfl (by first | rfl | fail)) ?_); conv => whnf) | (refine Exists.intro _ (And.intro rfl ?_); conv => whnf) | (refine And.intro (by first | (simp; done) | fail) ?_; conv => whnf) | (refine And.intro (by kernel_rfl) ?_; conv => whnf) | fail)
  refine ⟨[], ?_, rfl, rfl, ?_, rfl⟩
  · (repeat' (first | (refine wk_agg ?_) | (refine wk_cons ?_ ?_))) <;> first | rfl | fail
  · (repeat' (first | exact trivial | fail)) <;> fail

theorem f47 (fl : Bool) (w : List UInt8) (R : Nat) (hR : w.length = 16 * (R + 1)) (hR1 : 1 ≤ R) (hR2 : R ≤ 20) (b0 b1 b2 b3 b4 b5 b6 b7 b8 b9 b10 b11 b12 b13 b14 b15 : UInt8) :
    SCall Try.prog 47 [.p 0 0, .agg ([b0, b1, b2, b3, b4, b5, b6, b7, b8, b9, b10, b11, b12, b13, b14, b15].map .u8)] [some (ciB (4 * (R + 1)) fl), some (ciW w)]
      (.agg ((sealSt w R [b0, b1, b2, b3, b4, b5, b6, b7, b8, b9, b10, b11, b12, b13, b14, b15] R).map .u8)) [some (ciB (4 * (R + 1)) fl), some (ciW w)] := by
  have hl := sbx_len
  obtain ⟨nW, hnW⟩ : ∃ nW, nW = 4 * (R + 1) := ⟨_, rfl⟩
  rw [← hnW]
  unfold ciB ciW
  refine scall_of ttOk (by kernel_rfl : Try.prog.funcs[47]? = some Try.f47) rfl rfl rfl ?_
  refine sw_ok ttOk mixed (by kernel_rfl) ?_
  conv => whnf
  repeat (first | (refine brF rfl ?_; conv => whnf) | (refine Exists.intro _ (And.intro rfl ?_); conv => whnf) | (refine And.intro (by kernel_rfl) ?_; conv => whnf) | fail)
  refine loop_rounds ttOk mixed (by kernel_rfl) 5 ?_
  conv => whnf
  repeat (first | (refine brT rfl ?_; conv => whnf) | (refine Exists.intro _ (And.intro (sload_end (by first | rfl | (simp [hl]; done) | fail)) ?_); conv => whnf) | (refine Exists.intro _ (And.intro (idx_i (m := 0) (by first | rfl | fail)) ?_); conv => whnf) | (refine Exists.intro _ (And.intro (evb_i (m := 0) rfl (by first | rfl | fail)) ?_); conv => whnf) | (refine Exists.intro _ (And.intro (evb_i (m := 4) rfl (by first | rfl | fail)) ?_); conv => whnf) | (refine Exists.intro _ (And.intro (sload_col (i := 0) (by first | rfl | fail) (by first | omega | (simp [hl]; done) | fail)) ?_); conv => whnf) | (refine Exists.intro _ (And.intro rfl ?_); conv => whnf) | (refine And.intro (by first | omega | (simp; done) | fail) ?_; conv => whnf) | fail)
  refine ok1_callP [] (f86 _ _ _ _ _ _ _ _) rfl rfl ⟨⟨rfl, by first | rfl | fail⟩, trivial, by first | rfl | fail, ?_⟩
  conv => whnf
  repeat (first | (refine brT rfl ?_; conv => whnf) | (refine Exists.intro _ (And.intro (sload_end (by first | rfl | (simp [hl]; done) | fail)) ?_); conv => whnf) | (refine Exists.intro _ (And.intro (idx_i (m := 0) (by first | rfl | fail)) ?_); conv => whnf) | (refine Exists.intro _ (And.intro (idx_i (m := 1) (by first | rfl | fail)) ?_); conv => whnf) | (refine Exists.intro _ (And.intro (evb_i (m := 4) rfl (by first | rfl | fail)) ?_); conv => whnf) | (refine Exists.intro _ (And.intro (evb_i (m := 8) rfl (by first | rfl | fail)) ?_); conv => whnf) | (refine Exists.intro _ (And.intro (sload_col (i := 4) (by first | rfl | fail) (by first | omega | (simp [hl]; done) | fail)) ?_); conv => whnf) | (refine Exists.intro _ (And.intro rfl ?_); conv => whnf) | (refine And.intro (by first | omega | (simp; done) | fail) ?_; conv => whnf) | (refine And.intro (by kernel_rfl) ?_; conv => whnf) | fail)
  refine ok1_callP [] (f86 _ _ _ _ _ _ _ _) rfl rfl ⟨⟨rfl, by first | rfl | fail⟩, trivial, by first | rfl | fail, ?_⟩
  conv => whnf
  repeat (first | (refine brT rfl ?_; conv => whnf) | (refine Exists.intro _ (And.intro (sload_end (by first | rfl | (simp [hl]; done) | fail)) ?_); conv => whnf) | (refine Exists.intro _ (And.intro (idx_i (m := 1) (by first | rfl | fail)) ?_); conv => whnf) | (refine Exists.intro _ (And.intro (idx_i (m := 2) (by first | rfl | fail)) ?_); conv => whnf) | (refine Exists.intro _ (And.intro (evb_i (m := 8) rfl (by first | rfl | fail)) ?_); conv => whnf) | (refine Exists.intro _ (And.intro (evb_i (m := 12) rfl (by first | rfl | fail)) ?_); conv => whnf) | (refine Exists.intro _ (And.intro (sload_col (i := 8) (by first | rfl | fail) (by first | omega | (simp [hl]; done) | fail)) ?_); conv => whnf) | (refine Exists.intro _ (And.intro rfl ?_); conv => whnf) | (refine And.intro (by first | omega | (simp; done) | fail) ?_; conv => whnf) | (refine And.intro ⟨rfl, Nat.le_of_ble_eq_true rfl⟩ ?_; conv => whnf) | (refine And.intro (by kernel_rfl) ?_; conv => whnf) | fail)
  refine ok1_callP [] (f86 _ _ _ _ _ _ _ _) rfl rfl ⟨⟨rfl, by first | rfl | fail⟩, trivial, by first | rfl | fail, ?_⟩
  conv => whnf
  repeat (first | (refine brT rfl ?_; conv => whnf) | (refine Exists.intro _ (And.intro (sload_end (by first | rfl | (simp [hl]; done) | fail)) ?_); conv => whnf) | (refine Exists.intro _ (And.intro (idx_i (m := 2) (by first | rfl | fail)) ?_); conv => whnf) | (refine Exists.intro _ (And.intro (idx_i (m := 3) (by first | rfl | fail)) ?_); conv => whnf) | (refine Exists.intro _ (And.intro (evb_i (m := 12) rfl (by first | rfl | fail)) ?_); conv => whnf) | (refine Exists.intro _ (And.intro (evb_i (m := 16) rfl (by first | rfl | fail)) ?_); conv => whnf) | (refine Exists.intro _ (And.intro (sload_col (i := 12) (by first | rfl | fail) (by first | omega | (simp [hl]; done) | fail)) ?_); conv => whnf) | (refine Exists.intro _ (And.intro rfl ?_); conv => whnf) | (refine And.intro (by first | omega | (simp; done) | fail) ?_; conv => whnf) | (refine And.intro ⟨rfl, Nat.le_of_ble_eq_true rfl⟩ ?_; conv => whnf) | (refine And.intro (by kernel_rfl) ?_; conv => whnf) | fail)
  refine ok1_callP [] (f86 _ _ _ _ _ _ _ _) rfl rfl ⟨⟨rfl, by first | rfl | fail⟩, trivial, by first | rfl | fail, ?_⟩
  conv => whnf
  repeat (first | (refine brF rfl ?_; conv => whnf) | (refine Exists.intro _ (And.intro (idx_i (m := 3) (by first | rfl | fail)) ?_); conv => whnf) | (refine Exists.intro _ (And.intro rfl ?_); conv => whnf) | (refine And.intro (by first | omega | (simp; done) | fail) ?_; conv => whnf) | (refine And.intro ⟨rfl, Nat.le_of_ble_eq_true rfl⟩ ?_; conv => whnf) | (refine And.intro (by kernel_rfl) ?_; conv => whnf) | fail)
  refine loop_rule ttOk mixed (by kernel_rfl) (ι := { n : Nat // 1 ≤ n ∧ n ≤ R + 1 }) (fun n => [(2, .p 2 0), (4, .p 4 0), (5, .p 5 0), (6, .p 6 0), (8, .p 7 0)]) (fun n => [some (.ro (sbx.map .u8 ++ [.sl 1 0 nW 4 fl])), some (.ro (w.map .u8)), some (.box [.p 0 0]), some (.box ([b0, b1, b2, b3, b4, b5, b6, b7, b8, b9, b10, b11, b12, b13, b14, b15].map .u8)), some (.box (List.replicate 16 (.u8 0))), some (.box (List.replicate 16 (.u8 0))), some (.box ((sealSt w R [b0, b1, b2, b3, b4, b5, b6, b7, b8, b9, b10, b11, b12, b13, b14, b15] (n.1 - 1)).map .u8)), some (.box [.i (n.1 : Int)])]) (fun _ => 8) (fun n => R + 1 - n.1) ⟨1, by omega⟩ ?_ ?_
  · refine Weak.sel [0, 1, 2, 3, 4, 5, 6, 7] rfl rfl ?_ ?_ rfl rfl
    · (repeat' (first | exact trivial | refine And.intro ?_ ?_ | fail)) <;> first | rfl | fail
    · (repeat' (first | exact trivial | refine And.intro ?_ ?_ | (refine wk_cons ?_ ?_))) <;> first | rfl | exact ren_eq (by first | (simp; done) | fail) (by first | rfl | fail) | exact ren_app2 (by first | (simp; done) | fail) (by first | rfl | fail) rfl | fail
  · rintro ⟨n, hn1, hn2⟩
    have hlen := sealSt_len w R [b0, b1, b2, b3, b4, b5, b6, b7, b8, b9, b10, b11, b12, b13, b14, b15] rfl (n - 1)
    obtain ⟨st, hst⟩ : ∃ st, st = sealSt w R [b0, b1, b2, b3, b4, b5, b6, b7, b8, b9, b10, b11, b12, b13, b14, b15] (n - 1) := ⟨_, rfl⟩
    rw [← hst] at hlen
    obtain ⟨s0, s1, s2, s3, s4, s5, s6, s7, s8, s9, s10, s11, s12, s13, s14, s15, rfl⟩ := ex16 hlen
    dsimp only
    rw [← hst]
    have h48 := f48 nW (by omega) fl w
    unfold ciB ciW at h48
    conv => whnf
    repeat (first | (refine Exists.intro _ (And.intro rfl ?_); conv => whnf) | fail)
    refine ok1_callF [0, 1] [false, false] false (h48) rfl rfl ⟨⟨rfl, by first | rfl | fail⟩, by (repeat' (first | exact trivial | refine And.intro ?_ ?_)) <;> first | exact ren_eq (by first | (simp; done) | fail) (by first | rfl | fail) | exact ren_app2 (by first | (simp; done) | fail) (by first | rfl | fail) (by first | rfl | fail), by first | rfl | fail, by first | rfl | fail, ?_⟩
    conv => whnf
    repeat (first | (refine And.intro (by kernel_rfl) ?_; conv => whnf) | fail)
    have hq : ((nW / 4 : Nat) : Int) - 1 = (R : Int) := by omega
    rw [hq] at h48
    refine ⟨fun hc => ?_, fun hc => ?_⟩
    · have hc' : n ≤ R := by
        have h2 : decide ((n : Int) ≤ ((nW / 4 : Nat) : Int) - 1) = true := hc
        rw [hq] at h2; simp at h2; omega
      conv => whnf
      repeat (first | (refine Exists.intro _ (And.intro (sload_all rfl (by first | rfl | fail)) ?_); conv => whnf) | (refine Exists.intro _ (And.intro (sput_all rfl (by first | rfl | fail)) ?_); conv => whnf) | (refine Exists.intro _ (And.intro rfl ?_); conv => whnf) | (refine And.intro (by first | omega | (simp; done) | fail) ?_; conv => whnf) | fail)
      have h87 := f87 nW fl w [s0, s1, s2, s3, s4, s5, s6, s7, s8, s9, s10, s11, s12, s13, s14, s15]
      unfold ciB ciW at h87
      refine ok1_callF [0, 1] [false, false, false, false] false (h87) rfl rfl ⟨⟨rfl, by first | rfl | fail⟩, by (repeat' (first | exact trivial | refine And.intro ?_ ?_)) <;> first | exact ren_eq (by first | (simp; done) | fail) (by first | rfl | fail) | exact ren_app2 (by first | (simp; done) | fail) (by first | rfl | fail) (by first | rfl | fail), by first | rfl | fail, by first | rfl | fail, ?_⟩
      conv => whnf
      repeat (fail)
      refine SWp.weak (R0 := [(2, .p 2 0), (4, .p 4 0), (5, .p 5 0), (6, .p 6 0), (8, .p 7 0), (48, .fn 101 [.p 9 0, .p 8 0])]) (H0 := [some (.ro (sbx.map .u8 ++ [.sl 1 0 nW 4 fl])), some (.ro (w.map .u8)), some (.box [.p 0 0]), some (.box ([b0, b1, b2, b3, b4, b5, b6, b7, b8, b9, b10, b11, b12, b13, b14, b15].map .u8)), some (.box (List.replicate 16 (.u8 0))), some (.box (List.replicate 16 (.u8 0))), some (.box ([s0, s1, s2, s3, s4, s5, s6, s7, s8, s9, s10, s11, s12, s13, s14, s15].map .u8)), some (.box [.i (n : Int)]), some (.box [.p 0 0]), some (.box ([s0, s1, s2, s3, s4, s5, s6, s7, s8, s9, s10, s11, s12, s13, s14, s15].map .u8))]) (L0 := 10) ?_ ?_
      · refine Weak.sel [0, 1, 2, 3, 4, 5, 6, 7, 9, 10] rfl rfl ?_ ?_ rfl rfl
        · (repeat' (first | exact trivial | refine And.intro ?_ ?_ | fail)) <;> first | rfl | fail
        · (repeat' (first | exact trivial | refine And.intro ?_ ?_ | (refine wk_cons ?_ ?_))) <;> first | rfl | exact ren_eq (by first | (simp; done) | fail) (by first | rfl | fail) | exact ren_app2 (by first | (simp; done) | fail) (by first | rfl | fail) rfl | fail
      refine range_rule (ps := [49, 50]) rfl rfl rfl (by kernel_rfl : Try.prog.funcs[101]? = some Try.f101) rfl rfl rfl rfl ?_
      refine sw_ok ttOk mixed (by kernel_rfl) ?_
      have hf84 := fun a b c d => f84 a b c d nW fl w
      unfold ciB ciW at hf84
      conv => whnf
      repeat (fail)
      have hw0 : w64 (w64 (4 * (n : Int)) + 0) = ((4 * n + 0 : Nat) : Int) := w64_4n n 0 (by omega) (by omega)
      have hw1 : w64 (w64 (4 * (n : Int)) + 1) = ((4 * n + 1 : Nat) : Int) := w64_4n n 1 (by omega) (by omega)
      have hw2 : w64 (w64 (4 * (n : Int)) + 2) = ((4 * n + 2 : Nat) : Int) := w64_4n n 2 (by omega) (by omega)
      have hw3 : w64 (w64 (4 * (n : Int)) + 3) = ((4 * n + 3 : Nat) : Int) := w64_4n n 3 (by omega) (by omega)
      by_cases hlast : n < R
      · have hlt : decide ((n : Int) < (R : Int)) = true := by simp; omega
        refine loop_rounds ttOk mixed (by kernel_rfl) 5 ?_
        conv => whnf
        repeat (first | (refine brT rfl ?_; conv => whnf) | (refine Exists.intro _ (And.intro (sload_all rfl (by first | rfl | fail)) ?_); conv => whnf) | (refine Exists.intro _ (And.intro (sput_all rfl (by first | rfl | fail)) ?_); conv => whnf) | (refine Exists.intro _ (And.intro rfl ?_); conv => whnf) | (refine And.intro (by first | omega | (simp; done) | fail) ?_; conv => whnf) | (refine And.intro (Nat.le_of_ble_eq_true rfl) ?_; conv => whnf) | (refine And.intro (by kernel_rfl) ?_; conv => whnf) | fail)
        refine ok1_callF [0, 1] [false, false] true (hf84 _ _ _ _) rfl rfl ⟨⟨rfl, by first | rfl | fail⟩, by (repeat' (first | exact trivial | refine And.intro ?_ ?_)) <;> first | exact ren_eq (by first | (simp; done) | fail) (by first | rfl | fail) | exact ren_app2 (by first | (simp; done) | fail) (by first | rfl | fail) (by first | rfl | fail), by first | rfl | fail, by first | rfl | fail, ?_⟩
        conv => whnf
        repeat (fail)
        refine ok1_yield 10 [0, 1, 2, 6, 7] [false, false, false, false, true, true] (syield_of (ps := [49, 50]) (N := Try.f47.ntmps) (R0 := [(2, .p 3 0), (6, .p 4 0), (8, .p 5 0)]) (args0 := [.i 0, .agg ((movC [s0, s1, s2, s3, s4, s5, s6, s7, s8, s9, s10, s11, s12, s13, s14, s15] 0).map .u8)]) (ex := .normal) (H0t := [some (.ro (sbx.map .u8 ++ [.sl 2 0 nW 4 fl])), some (.ro (w.map .u8)), some (.box [.p 1 0]), some (.box (([s0, s1, s2, s3, s4, s5, s6, s7, s8, s9, s10, s11, s12, s13, s14, s15]).map .u8)), some (.box [.i (n : Int)])]) (H1t := [some (.ro (sbx.map .u8 ++ [.sl 2 0 nW 4 fl])), some (.ro (w.map .u8)), some (.box [.p 1 0]), some (.box ((rndC false w n [s0, s1, s2, s3, s4, s5, s6, s7, s8, s9, s10, s11, s12, s13, s14, s15] 0 ++ [s4, s5, s6, s7, s8, s9, s10, s11, s12, s13, s14, s15]).map .u8)), some (.box [.i (n : Int)])]) (.inl rfl) rfl rfl rfl ?_) rfl rfl ⟨⟨rfl, rfl⟩, by (repeat' (first | exact trivial | refine And.intro ?_ ?_)) <;> first | rfl | exact ren_app2 (by first | (simp; done) | fail) rfl rfl | exact ren_eq (by first | (simp; done) | fail) (by first | rfl | fail), rfl, ?_⟩
        · refine sw_ok ttOk mixed (by kernel_rfl) ?_
          conv => whnf
          repeat (first | (refine Exists.intro _ (And.intro (sput_all rfl (by first | rfl | fail)) ?_); conv => whnf) | (refine And.intro (by first | omega | (simp; done) | fail) ?_; conv => whnf) | (refine And.intro ⟨rfl, Nat.le_of_ble_eq_true rfl⟩ ?_; conv => whnf) | (refine And.intro (by kernel_rfl) ?_; conv => whnf) | fail)
          refine sw_ok ttOk mixed (by kernel_rfl) ?_
          conv => whnf
          repeat (first | (refine Exists.intro _ (And.intro rfl ?_); conv => whnf) | fail)
          refine ok1_callF [1, 2] [false, false] false (h48) rfl rfl ⟨⟨rfl, by first | rfl | fail⟩, by (repeat' (first | exact trivial | refine And.intro ?_ ?_)) <;> first | exact ren_eq (by first | (simp; done) | fail) (by first | rfl | fail) | exact ren_app2 (by first | (simp; done) | fail) (by first | rfl | fail) (by first | rfl | fail), by first | rfl | fail, by first | rfl | fail, ?_⟩
          conv => whnf
          repeat (first | (refine Exists.intro _ (And.intro (sload_all rfl (by first | rfl | fail)) ?_); conv => whnf) | (refine gdT hlt ?_; conv => whnf) | (refine And.intro (by kernel_rfl) ?_; conv => whnf) | fail)
          refine ok1_callP [] (f88 _ _ _ _) rfl rfl ⟨⟨rfl, by first | rfl | fail⟩, trivial, by first | rfl | fail, ?_⟩
          conv => whnf
          repeat (first | (refine Exists.intro _ (And.intro (sload_all rfl (by first | rfl | fail)) ?_); conv => whnf) | (refine Exists.intro _ (And.intro (sput_all rfl (by first | rfl | fail)) ?_); conv => whnf) | (refine Exists.intro _ (And.intro (sload_end (by first | rfl | (simp [hl]; done) | fail)) ?_); conv => whnf) | (refine Exists.intro _ (And.intro (idx_i (m := 4 * n + 0) (by first | rfl | omega | fail)) ?_); conv => whnf) | (refine Exists.intro _ (And.intro (sload_col (i := 4 * (4 * n + 0)) (by first | rfl | omega | fail) (by first | omega | fail)) ?_); conv => whnf) | (refine Exists.intro _ (And.intro rfl ?_); conv => whnf) | (refine And.intro (by first | omega | fail) ?_; conv => whnf) | (refine And.intro ⟨rfl, Nat.le_of_ble_eq_true rfl⟩ ?_; conv => whnf) | fail)
          refine ok1_callP [] (f86 _ _ _ _ _ _ _ _) rfl rfl ⟨⟨rfl, by first | rfl | fail⟩, trivial, by first | rfl | fail, ?_⟩
          conv => whnf
          repeat (first | (refine Exists.intro _ (And.intro (idx_i (m := 0) (by first | rfl | fail)) ?_); conv => whnf) | (refine Exists.intro _ (And.intro rfl ?_); conv => whnf) | (refine And.intro (by first | omega | (simp; done) | fail) ?_; conv => whnf) | (refine And.intro (by kernel_rfl) ?_; conv => whnf) | fail)
          exact ⟨[0, 1, 2, 3, 4, 5], rfl, rfl, by (repeat' (first | exact trivial | refine And.intro ?_ ?_)) <;> first | rfl | exact ren_app2 (by first | (simp; done) | fail) rfl rfl | exact ren_eq (by first | (simp; done) | fail) (by first | rfl | fail), rfl⟩
        conv => whnf
        repeat (first | (refine brT rfl ?_; conv => whnf) | (refine brF rfl ?_; conv => whnf) | (refine Exists.intro _ (And.intro (sload_all rfl (by first | rfl | fail)) ?_); conv => whnf) | (refine Exists.intro _ (And.intro (sput_all rfl (by first | rfl | fail)) ?_); conv => whnf) | (refine Exists.intro _ (And.intro rfl ?_); conv => whnf) | (refine And.intro (by first | omega | (simp; done) | fail) ?_; conv => whnf) | (refine And.intro (Nat.le_of_ble_eq_true rfl) ?_; conv => whnf) | (refine And.intro (by kernel_rfl) ?_; conv => whnf) | fail)
        refine ok1_callF [0, 1] [false, false] true (hf84 _ _ _ _) rfl rfl ⟨⟨rfl, by first | rfl | fail⟩, by (repeat' (first | exact trivial | refine And.intro ?_ ?_)) <;> first | exact ren_eq (by first | (simp; done) | fail) (by first | rfl | fail) | exact ren_app2 (by first | (simp; done) | fail) (by first | rfl | fail) (by first | rfl | fail), by first | rfl | fail, by first | rfl | fail, ?_⟩
        conv => whnf
        repeat (fail)
        refine ok1_yield 10 [0, 1, 2, 6, 7] [false, false, false, false, true, true] (syield_of (ps := [49, 50]) (N := Try.f47.ntmps) (R0 := [(2, .p 3 0), (6, .p 4 0), (8, .p 5 0)]) (args0 := [.i 1, .agg ((movC [s0, s1, s2, s3, s4, s5, s6, s7, s8, s9, s10, s11, s12, s13, s14, s15] 1).map .u8)]) (ex := .normal) (H0t := [some (.ro (sbx.map .u8 ++ [.sl 2 0 nW 4 fl])), some (.ro (w.map .u8)), some (.box [.p 1 0]), some (.box ((rndC false w n [s0, s1, s2, s3, s4, s5, s6, s7, s8, s9, s10, s11, s12, s13, s14, s15] 0 ++ [s4, s5, s6, s7, s8, s9, s10, s11, s12, s13, s14, s15]).map .u8)), some (.box [.i (n : Int)])]) (H1t := [some (.ro (sbx.map .u8 ++ [.sl 2 0 nW 4 fl])), some (.ro (w.map .u8)), some (.box [.p 1 0]), some (.box ((rndC false w n [s0, s1, s2, s3, s4, s5, s6, s7, s8, s9, s10, s11, s12, s13, s14, s15] 0 ++ rndC false w n [s0, s1, s2, s3, s4, s5, s6, s7, s8, s9, s10, s11, s12, s13, s14, s15] 1 ++ [s8, s9, s10, s11, s12, s13, s14, s15]).map .u8)), some (.box [.i (n : Int)])]) (.inl rfl) rfl rfl rfl ?_) rfl rfl ⟨⟨rfl, rfl⟩, by (repeat' (first | exact trivial | refine And.intro ?_ ?_)) <;> first | rfl | exact ren_app2 (by first | (simp; done) | fail) rfl rfl | exact ren_eq (by first | (simp; done) | fail) (by first | rfl | fail), rfl, ?_⟩
        · refine sw_ok ttOk mixed (by kernel_rfl) ?_
          conv => whnf
          repeat (first | (refine Exists.intro _ (And.intro (sput_all rfl (by first | rfl | fail)) ?_); conv => whnf) | (refine And.intro (by first | omega | (simp; done) | fail) ?_; conv => whnf) | (refine And.intro ⟨rfl, Nat.le_of_ble_eq_true rfl⟩ ?_; conv => whnf) | (refine And.intro (by kernel_rfl) ?_; conv => whnf) | fail)
          refine sw_ok ttOk mixed (by kernel_rfl) ?_
          conv => whnf
          repeat (first | (refine Exists.intro _ (And.intro rfl ?_); conv => whnf) | fail)
          refine ok1_callF [1, 2] [false, false] false (h48) rfl rfl ⟨⟨rfl, by first | rfl | fail⟩, by (repeat' (first | exact trivial | refine And.intro ?_ ?_)) <;> first | exact ren_eq (by first | (simp; done) | fail) (by first | rfl | fail) | exact ren_app2 (by first | (simp; done) | fail) (by first | rfl | fail) (by first | rfl | fail), by first | rfl | fail, by first | rfl | fail, ?_⟩
          conv => whnf
          repeat (first | (refine Exists.intro _ (And.intro (sload_all rfl (by first | rfl | fail)) ?_); conv => whnf) | (refine gdT hlt ?_; conv => whnf) | (refine And.intro (by kernel_rfl) ?_; conv => whnf) | fail)
          refine ok1_callP [] (f88 _ _ _ _) rfl rfl ⟨⟨rfl, by first | rfl | fail⟩, trivial, by first | rfl | fail, ?_⟩
          conv => whnf
          repeat (first | (refine Exists.intro _ (And.intro (sload_all rfl (by first | rfl | fail)) ?_); conv => whnf) | (refine Exists.intro _ (And.intro (sput_all rfl (by first | rfl | fail)) ?_); conv => whnf) | (refine Exists.intro _ (And.intro (sload_end (by first | rfl | (simp [hl]; done) | fail)) ?_); conv => whnf) | (refine Exists.intro _ (And.intro (idx_i (m := 4 * n + 1) (by first | rfl | omega | fail)) ?_); conv => whnf) | (refine Exists.intro _ (And.intro (sload_col (i := 4 * (4 * n + 1)) (by first | rfl | omega | fail) (by first | omega | fail)) ?_); conv => whnf) | (refine Exists.intro _ (And.intro rfl ?_); conv => whnf) | (refine And.intro (by first | omega | fail) ?_; conv => whnf) | (refine And.intro ⟨rfl, Nat.le_of_ble_eq_true rfl⟩ ?_; conv => whnf) | fail)
          refine ok1_callP [] (f86 _ _ _ _ _ _ _ _) rfl rfl ⟨⟨rfl, by first | rfl | fail⟩, trivial, by first | rfl | fail, ?_⟩
          conv => whnf
          repeat (first | (refine Exists.intro _ (And.intro (idx_i (m := 1) (by first | rfl | fail)) ?_); conv => whnf) | (refine Exists.intro _ (And.intro rfl ?_); conv => whnf) | (refine And.intro (by first | omega | (simp; done) | fail) ?_; conv => whnf) | (refine And.intro (by kernel_rfl) ?_; conv => whnf) | fail)
          exact ⟨[0, 1, 2, 3, 4, 5], rfl, rfl, by (repeat' (first | exact trivial | refine And.intro ?_ ?_)) <;> first | rfl | exact ren_app2 (by first | (simp; done) | fail) rfl rfl | exact ren_eq (by first | (simp; done) | fail) (by first | rfl | fail), rfl⟩
        conv => whnf
        repeat (first | (refine brT rfl ?_; conv => whnf) | (refine brF rfl ?_; conv => whnf) | (refine Exists.intro _ (And.intro (sload_all rfl (by first | rfl | fail)) ?_); conv => whnf) | (refine Exists.intro _ (And.intro (sput_all rfl (by first | rfl | fail)) ?_); conv => whnf) | (refine Exists.intro _ (And.intro rfl ?_); conv => whnf) | (refine And.intro (by first | omega | (simp; done) | fail) ?_; conv => whnf) | (refine And.intro (Nat.le_of_ble_eq_true rfl) ?_; conv => whnf) | (refine And.intro (by kernel_rfl) ?_; conv => whnf) | fail)
        refine ok1_callF [0, 1] [false, false] true (hf84 _ _ _ _) rfl rfl ⟨⟨rfl, by first | rfl | fail⟩, by (repeat' (first | exact trivial | refine And.intro ?_ ?_)) <;> first | exact ren_eq (by first | (simp; done) | fail) (by first | rfl | fail) | exact ren_app2 (by first | (simp; done) | fail) (by first | rfl | fail) (by first | rfl | fail), by first | rfl | fail, by first | rfl | fail, ?_⟩
        conv => whnf
        repeat (fail)
        refine ok1_yield 10 [0, 1, 2, 6, 7] [false, false, false, false, true, true] (syield_of (ps := [49, 50]) (N := Try.f47.ntmps) (R0 := [(2, .p 3 0), (6, .p 4 0), (8, .p 5 0)]) (args0 := [.i 2, .agg ((movC [s0, s1, s2, s3, s4, s5, s6, s7, s8, s9, s10, s11, s12, s13, s14, s15] 2).map .u8)]) (ex := .normal) (H0t := [some (.ro (sbx.map .u8 ++ [.sl 2 0 nW 4 fl])), some (.ro (w.map .u8)), some (.box [.p 1 0]), some (.box ((rndC false w n [s0, s1, s2, s3, s4, s5, s6, s7, s8, s9, s10, s11, s12, s13, s14, s15] 0 ++ rndC false w n [s0, s1, s2, s3, s4, s5, s6, s7, s8, s9, s10, s11, s12, s13, s14, s15] 1 ++ [s8, s9, s10, s11, s12, s13, s14, s15]).map .u8)), some (.box [.i (n : Int)])]) (H1t := [some (.ro (sbx.map .u8 ++ [.sl 2 0 nW 4 fl])), some (.ro (w.map .u8)), some (.box [.p 1 0]), some (.box ((rndC false w n [s0, s1, s2, s3, s4, s5, s6, s7, s8, s9, s10, s11, s12, s13, s14, s15] 0 ++ rndC false w n [s0, s1, s2, s3, s4, s5, s6, s7, s8, s9, s10, s11, s12, s13, s14, s15] 1 ++ rndC false w n [s0, s1, s2, s3, s4, s5, s6, s7, s8, s9, s10, s11, s12, s13, s14, s15] 2 ++ [s12, s13, s14, s15]).map .u8)), some (.box [.i (n : Int)])]) (.inl rfl) rfl rfl rfl ?_) rfl rfl ⟨⟨rfl, rfl⟩, by (repeat' (first | exact trivial | refine And.intro ?_ ?_)) <;> first | rfl | exact ren_app2 (by first | (simp; done) | fail) rfl rfl | exact ren_eq (by first | (simp; done) | fail) (by first | rfl | fail), rfl, ?_⟩
        · refine sw_ok ttOk mixed (by kernel_rfl) ?_
          conv => whnf
          repeat (first | (refine Exists.intro _ (And.intro (sput_all rfl (by first | rfl | fail)) ?_); conv => whnf) | (refine And.intro (by first | omega | (simp; done) | fail) ?_; conv => whnf) | (refine And.intro ⟨rfl, Nat.le_of_ble_eq_true rfl⟩ ?_; conv => whnf) | (refine And.intro (by kernel_rfl) ?_; conv => whnf) | fail)
          refine sw_ok ttOk mixed (by kernel_rfl) ?_
          conv => whnf
          repeat (first | (refine Exists.intro _ (And.intro rfl ?_); conv => whnf) | fail)
          refine ok1_callF [1, 2] [false, false] false (h48) rfl rfl ⟨⟨rfl, by first | rfl | fail⟩, by (repeat' (first | exact trivial | refine And.intro ?_ ?_)) <;> first | exact ren_eq (by first | (simp; done) | fail) (by first | rfl | fail) | exact ren_app2 (by first | (simp; done) | fail) (by first | rfl | fail) (by first | rfl | fail), by first | rfl | fail, by first | rfl | fail, ?_⟩
          conv => whnf
          repeat (first | (refine Exists.intro _ (And.intro (sload_all rfl (by first | rfl | fail)) ?_); conv => whnf) | (refine gdT hlt ?_; conv => whnf) | (refine And.intro (by kernel_rfl) ?_; conv => whnf) | fail)
          refine ok1_callP [] (f88 _ _ _ _) rfl rfl ⟨⟨rfl, by first | rfl | fail⟩, trivial, by first | rfl | fail, ?_⟩
          conv => whnf
          repeat (first | (refine Exists.intro _ (And.intro (sload_all rfl (by first | rfl | fail)) ?_); conv => whnf) | (refine Exists.intro _ (And.intro (sput_all rfl (by first | rfl | fail)) ?_); conv => whnf) | (refine Exists.intro _ (And.intro (sload_end (by first | rfl | (simp [hl]; done) | fail)) ?_); conv => whnf) | (refine Exists.intro _ (And.intro (idx_i (m := 4 * n + 2) (by first | rfl | omega | fail)) ?_); conv => whnf) | (refine Exists.intro _ (And.intro (sload_col (i := 4 * (4 * n + 2)) (by first | rfl | omega | fail) (by first | omega | fail)) ?_); conv => whnf) | (refine Exists.intro _ (And.intro rfl ?_); conv => whnf) | (refine And.intro (by first | omega | fail) ?_; conv => whnf) | (refine And.intro ⟨rfl, Nat.le_of_ble_eq_true rfl⟩ ?_; conv => whnf) | fail)
          refine ok1_callP [] (f86 _ _ _ _ _ _ _ _) rfl rfl ⟨⟨rfl, by first | rfl | fail⟩, trivial, by first | rfl | fail, ?_⟩
          conv => whnf
          repeat (first | (refine Exists.intro _ (And.intro (idx_i (m := 2) (by first | rfl | fail)) ?_); conv => whnf) | (refine Exists.intro _ (And.intro rfl ?_); conv => whnf) | (refine And.intro (by first | omega | (simp; done) | fail) ?_; conv => whnf) | (refine And.intro ⟨rfl, Nat.le_of_ble_eq_true rfl⟩ ?_; conv => whnf) | (refine And.intro (by kernel_rfl) ?_; conv => whnf) | fail)
          exact ⟨[0, 1, 2, 3, 4, 5], rfl, rfl, by (repeat' (first | exact trivial | refine And.intro ?_ ?_)) <;> first | rfl | exact ren_app2 (by first | (simp; done) | fail) rfl rfl | exact ren_eq (by first | (simp; done) | fail) (by first | rfl | fail), rfl⟩
        conv => whnf
        repeat (first | (refine brT rfl ?_; conv => whnf) | (refine brF rfl ?_; conv => whnf) | (refine Exists.intro _ (And.intro (sload_all rfl (by first | rfl | fail)) ?_); conv => whnf) | (refine Exists.intro _ (And.intro (sput_all rfl (by first | rfl | fail)) ?_); conv => whnf) | (refine Exists.intro _ (And.intro rfl ?_); conv => whnf) | (refine And.intro (by first | omega | (simp; done) | fail) ?_; conv => whnf) | (refine And.intro (Nat.le_of_ble_eq_true rfl) ?_; conv => whnf) | (refine And.intro (by kernel_rfl) ?_; conv => whnf) | fail)
        refine ok1_callF [0, 1] [false, false] true (hf84 _ _ _ _) rfl rfl ⟨⟨rfl, by first | rfl | fail⟩, by (repeat' (first | exact trivial | refine And.intro ?_ ?_)) <;> first | exact ren_eq (by first | (simp; done) | fail) (by first | rfl | fail) | exact ren_app2 (by first | (simp; done) | fail) (by first | rfl | fail) (by first | rfl | fail), by first | rfl | fail, by first | rfl | fail, ?_⟩
        conv => whnf
        repeat (fail)
        refine ok1_yield 10 [0, 1, 2, 6, 7] [false, false, false, false, true, true] (syield_of (ps := [49, 50]) (N := Try.f47.ntmps) (R0 := [(2, .p 3 0), (6, .p 4 0), (8, .p 5 0)]) (args0 := [.i 3, .agg ((movC [s0, s1, s2, s3, s4, s5, s6, s7, s8, s9, s10, s11, s12, s13, s14, s15] 3).map .u8)]) (ex := .normal) (H0t := [some (.ro (sbx.map .u8 ++ [.sl 2 0 nW 4 fl])), some (.ro (w.map .u8)), some (.box [.p 1 0]), some (.box ((rndC false w n [s0, s1, s2, s3, s4, s5, s6, s7, s8, s9, s10, s11, s12, s13, s14, s15] 0 ++ rndC false w n [s0, s1, s2, s3, s4, s5, s6, s7, s8, s9, s10, s11, s12, s13, s14, s15] 1 ++ rndC false w n [s0, s1, s2, s3, s4, s5, s6, s7, s8, s9, s10, s11, s12, s13, s14, s15] 2 ++ [s12, s13, s14, s15]).map .u8)), some (.box [.i (n : Int)])]) (H1t := [some (.ro (sbx.map .u8 ++ [.sl 2 0 nW 4 fl])), some (.ro (w.map .u8)), some (.box [.p 1 0]), some (.box ((rndC false w n [s0, s1, s2, s3, s4, s5, s6, s7, s8, s9, s10, s11, s12, s13, s14, s15] 0 ++ rndC false w n [s0, s1, s2, s3, s4, s5, s6, s7, s8, s9, s10, s11, s12, s13, s14, s15] 1 ++ rndC false w n [s0, s1, s2, s3, s4, s5, s6, s7, s8, s9, s10, s11, s12, s13, s14, s15] 2 ++ rndC false w n [s0, s1, s2, s3, s4, s5, s6, s7, s8, s9, s10, s11, s12, s13, s14, s15] 3 ++ []).map .u8)), some (.box [.i (n : Int)])]) (.inl rfl) rfl rfl rfl ?_) rfl rfl ⟨⟨rfl, rfl⟩, by (repeat' (first | exact trivial | refine And.intro ?_ ?_)) <;> first | rfl | exact ren_app2 (by first | (simp; done) | fail) rfl rfl | exact ren_eq (by first | (simp; done) | fail) (by first | rfl | fail), rfl, ?_⟩
        · refine sw_ok ttOk mixed (by kernel_rfl) ?_
          conv => whnf
          repeat (first | (refine Exists.intro _ (And.intro (sput_all rfl (by first | rfl | fail)) ?_); conv => whnf) | (refine And.intro (by first | omega | (simp; done) | fail) ?_; conv => whnf) | (refine And.intro ⟨rfl, Nat.le_of_ble_eq_true rfl⟩ ?_; conv => whnf) | (refine And.intro (by kernel_rfl) ?_; conv => whnf) | fail)
          refine sw_ok ttOk mixed (by kernel_rfl) ?_
          conv => whnf
          repeat (first | (refine Exists.intro _ (And.intro rfl ?_); conv => whnf) | fail)
          refine ok1_callF [1, 2] [false, false] false (h48) rfl rfl ⟨⟨rfl, by first | rfl | fail⟩, by (repeat' (first | exact trivial | refine And.intro ?_ ?_)) <;> first | exact ren_eq (by first | (simp; done) | fail) (by first | rfl | fail) | exact ren_app2 (by first | (simp; done) | fail) (by first | rfl | fail) (by first | rfl | fail), by first | rfl | fail, by first | rfl | fail, ?_⟩
          conv => whnf
          repeat (first | (refine Exists.intro _ (And.intro (sload_all rfl (by first | rfl | fail)) ?_); conv => whnf) | (refine gdT hlt ?_; conv => whnf) | (refine And.intro (by kernel_rfl) ?_; conv => whnf) | fail)
          refine ok1_callP [] (f88 _ _ _ _) rfl rfl ⟨⟨rfl, by first | rfl | fail⟩, trivial, by first | rfl | fail, ?_⟩
          conv => whnf
          repeat (first | (refine Exists.intro _ (And.intro (sload_all rfl (by first | rfl | fail)) ?_); conv => whnf) | (refine Exists.intro _ (And.intro (sput_all rfl (by first | rfl | fail)) ?_); conv => whnf) | (refine Exists.intro _ (And.intro (sload_end (by first | rfl | (simp [hl]; done) | fail)) ?_); conv => whnf) | (refine Exists.intro _ (And.intro (idx_i (m := 4 * n + 3) (by first | rfl | omega | fail)) ?_); conv => whnf) | (refine Exists.intro _ (And.intro (sload_col (i := 4 * (4 * n + 3)) (by first | rfl | omega | fail) (by first | omega | fail)) ?_); conv => whnf) | (refine Exists.intro _ (And.intro rfl ?_); conv => whnf) | (refine And.intro (by first | omega | fail) ?_; conv => whnf) | (refine And.intro ⟨rfl, Nat.le_of_ble_eq_true rfl⟩ ?_; conv => whnf) | fail)
          refine ok1_callP [] (f86 _ _ _ _ _ _ _ _) rfl rfl ⟨⟨rfl, by first | rfl | fail⟩, trivial, by first | rfl | fail, ?_⟩
          conv => whnf
          repeat (first | (refine Exists.intro _ (And.intro (idx_i (m := 3) (by first | rfl | fail)) ?_); conv => whnf) | (refine Exists.intro _ (And.intro rfl ?_); conv => whnf) | (refine And.intro (by first | omega | (simp; done) | fail) ?_; conv => whnf) | (refine And.intro ⟨rfl, Nat.le_of_ble_eq_true rfl⟩ ?_; conv => whnf) | (refine And.intro (by kernel_rfl) ?_; conv => whnf) | fail)
          exact ⟨[0, 1, 2, 3, 4, 5], rfl, rfl, by (repeat' (first | exact trivial | refine And.intro ?_ ?_)) <;> first | rfl | exact ren_app2 (by first | (simp; done) | fail) rfl rfl | exact ren_eq (by first | (simp; done) | fail) (by first | rfl | fail), rfl⟩
        conv => whnf
        repeat (first | (refine brF rfl ?_; conv => whnf) | (refine Exists.intro _ (And.intro rfl ?_); conv => whnf) | (refine And.intro (by first | omega | (simp; done) | fail) ?_; conv => whnf) | fail)
        have hnext : (sealSt w R [b0, b1, b2, b3, b4, b5, b6, b7, b8, b9, b10, b11, b12, b13, b14, b15] (n + 1 - 1)).map SV.u8 = (rndC false w n [s0, s1, s2, s3, s4, s5, s6, s7, s8, s9, s10, s11, s12, s13, s14, s15] 0 ++ rndC false w n [s0, s1, s2, s3, s4, s5, s6, s7, s8, s9, s10, s11, s12, s13, s14, s15] 1 ++ rndC false w n [s0, s1, s2, s3, s4, s5, s6, s7, s8, s9, s10, s11, s12, s13, s14, s15] 2 ++ rndC false w n [s0, s1, s2, s3, s4, s5, s6, s7, s8, s9, s10, s11, s12, s13, s14, s15] 3 ++ []).map SV.u8 := by
          obtain ⟨m, rfl⟩ : ∃ m, n = m + 1 := ⟨n - 1, by omega⟩
          show (rnd (decide (m + 1 = R)) w (m + 1) (sealSt w R [b0, b1, b2, b3, b4, b5, b6, b7, b8, b9, b10, b11, b12, b13, b14, b15] m)).map SV.u8 = _
          have e : sealSt w R [b0, b1, b2, b3, b4, b5, b6, b7, b8, b9, b10, b11, b12, b13, b14, b15] m = [s0, s1, s2, s3, s4, s5, s6, s7, s8, s9, s10, s11, s12, s13, s14, s15] := hst.symm
          rw [e, show decide (m + 1 = R) = false from by simp; omega]
          simp [rnd]
        have hnw := w64_s n (by omega)
        refine ⟨⟨n + 1, by omega⟩, by simp only; omega, ?_⟩
        refine Weak.sel [0, 1, 2, 3, 4, 5, 6, 15] rfl rfl ?_ ?_ rfl rfl
        · (repeat' (first | exact trivial | refine And.intro ?_ ?_ | fail)) <;> first | rfl | fail
        · (repeat' (first | exact trivial | refine And.intro ?_ ?_ | (refine wk_cons ?_ ?_))) <;> first | rfl | exact wk_i (by first | rfl | exact hnw.symm | fail) | exact ren_eq (by first | (simp; done) | fail) (by first | rfl | exact hnext | fail) | exact ren_app2 (by first | (simp; done) | fail) (by first | rfl | fail) rfl | fail
      · have hlt : decide ((n : Int) < (R : Int)) = false := by simp; omega
        refine loop_rounds ttOk mixed (by kernel_rfl) 5 ?_
        conv => whnf
        repeat (first | (refine brT rfl ?_; conv => whnf) | (refine Exists.intro _ (And.intro (sload_all rfl (by first | rfl | fail)) ?_); conv => whnf) | (refine Exists.intro _ (And.intro (sput_all rfl (by first | rfl | fail)) ?_); conv => whnf) | (refine Exists.intro _ (And.intro rfl ?_); conv => whnf) | (refine And.intro (by first | omega | (simp; done) | fail) ?_; conv => whnf) | (refine And.intro (Nat.le_of_ble_eq_true rfl) ?_; conv => whnf) | (refine And.intro (by kernel_rfl) ?_; conv => whnf) | fail)
        refine ok1_callF [0, 1] [false, false] true (hf84 _ _ _ _) rfl rfl ⟨⟨rfl, by first | rfl | fail⟩, by (repeat' (first | exact trivial | refine And.intro ?_ ?_)) <;> first | exact ren_eq (by first | (simp; done) | fail) (by first | rfl | fail) | exact ren_app2 (by first | (simp; done) | fail) (by first | rfl | fail) (by first | rfl | fail), by first | rfl | fail, by first | rfl | fail, ?_⟩
        conv => whnf
        repeat (fail)
        refine ok1_yield 10 [0, 1, 2, 6, 7] [false, false, false, false, true, true] (syield_of (ps := [49, 50]) (N := Try.f47.ntmps) (R0 := [(2, .p 3 0), (6, .p 4 0), (8, .p 5 0)]) (args0 := [.i 0, .agg ((movC [s0, s1, s2, s3, s4, s5, s6, s7, s8, s9, s10, s11, s12, s13, s14, s15] 0).map .u8)]) (ex := .normal) (H0t := [some (.ro (sbx.map .u8 ++ [.sl 2 0 nW 4 fl])), some (.ro (w.map .u8)), some (.box [.p 1 0]), some (.box (([s0, s1, s2, s3, s4, s5, s6, s7, s8, s9, s10, s11, s12, s13, s14, s15]).map .u8)), some (.box [.i (n : Int)])]) (H1t := [some (.ro (sbx.map .u8 ++ [.sl 2 0 nW 4 fl])), some (.ro (w.map .u8)), some (.box [.p 1 0]), some (.box ((rndC true w n [s0, s1, s2, s3, s4, s5, s6, s7, s8, s9, s10, s11, s12, s13, s14, s15] 0 ++ [s4, s5, s6, s7, s8, s9, s10, s11, s12, s13, s14, s15]).map .u8)), some (.box [.i (n : Int)])]) (.inl rfl) rfl rfl rfl ?_) rfl rfl ⟨⟨rfl, rfl⟩, by (repeat' (first | exact trivial | refine And.intro ?_ ?_)) <;> first | rfl | exact ren_app2 (by first | (simp; done) | fail) rfl rfl | exact ren_eq (by first | (simp; done) | fail) (by first | rfl | fail), rfl, ?_⟩
        · refine sw_ok ttOk mixed (by kernel_rfl) ?_
          conv => whnf
          repeat (first | (refine Exists.intro _ (And.intro (sput_all rfl (by first | rfl | fail)) ?_); conv => whnf) | (refine And.intro (by first | omega | (simp; done) | fail) ?_; conv => whnf) | (refine And.intro ⟨rfl, Nat.le_of_ble_eq_true rfl⟩ ?_; conv => whnf) | (refine And.intro (by kernel_rfl) ?_; conv => whnf) | fail)
          refine sw_ok ttOk mixed (by kernel_rfl) ?_
          conv => whnf
          repeat (first | (refine Exists.intro _ (And.intro rfl ?_); conv => whnf) | fail)
          refine ok1_callF [1, 2] [false, false] false (h48) rfl rfl ⟨⟨rfl, by first | rfl | fail⟩, by (repeat' (first | exact trivial | refine And.intro ?_ ?_)) <;> first | exact ren_eq (by first | (simp; done) | fail) (by first | rfl | fail) | exact ren_app2 (by first | (simp; done) | fail) (by first | rfl | fail) (by first | rfl | fail), by first | rfl | fail, by first | rfl | fail, ?_⟩
          conv => whnf
          repeat (first | (refine Exists.intro _ (And.intro (sload_all rfl (by first | rfl | fail)) ?_); conv => whnf) | (refine Exists.intro _ (And.intro (sload_end (by first | rfl | (simp [hl]; done) | fail)) ?_); conv => whnf) | (refine gdF hlt ?_; conv => whnf) | (refine Exists.intro _ (And.intro (idx_i (m := 4 * n + 0) (by first | rfl | omega | fail)) ?_); conv => whnf) | (refine Exists.intro _ (And.intro (sload_col (i := 4 * (4 * n + 0)) (by first | rfl | omega | fail) (by first | omega | fail)) ?_); conv => whnf) | (refine Exists.intro _ (And.intro rfl ?_); conv => whnf) | (refine And.intro (by first | omega | fail) ?_; conv => whnf) | (refine And.intro (by kernel_rfl) ?_; conv => whnf) | fail)
          refine ok1_callP [] (f86 _ _ _ _ _ _ _ _) rfl rfl ⟨⟨rfl, by first | rfl | fail⟩, trivial, by first | rfl | fail, ?_⟩
          conv => whnf
          repeat (first | (refine Exists.intro _ (And.intro (idx_i (m := 0) (by first | rfl | fail)) ?_); conv => whnf) | (refine Exists.intro _ (And.intro rfl ?_); conv => whnf) | (refine And.intro (by first | omega | (simp; done) | fail) ?_; conv => whnf) | (refine And.intro (by kernel_rfl) ?_; conv => whnf) | fail)
          exact ⟨[0, 1, 2, 3, 4, 5], rfl, rfl, by (repeat' (first | exact trivial | refine And.intro ?_ ?_)) <;> first | rfl | exact ren_app2 (by first | (simp; done) | fail) rfl rfl | exact ren_eq (by first | (simp; done) | fail) (by first | rfl | fail), rfl⟩
        conv => whnf
        repeat (first | (refine brT rfl ?_; conv => whnf) | (refine brF rfl ?_; conv => whnf) | (refine Exists.intro _ (And.intro (sload_all rfl (by first | rfl | fail)) ?_); conv => whnf) | (refine Exists.intro _ (And.intro (sput_all rfl (by first | rfl | fail)) ?_); conv => whnf) | (refine Exists.intro _ (And.intro rfl ?_); conv => whnf) | (refine And.intro (by first | omega | (simp; done) | fail) ?_; conv => whnf) | (refine And.intro (Nat.le_of_ble_eq_true rfl) ?_; conv => whnf) | (refine And.intro (by kernel_rfl) ?_; conv => whnf) | fail)
        refine ok1_callF [0, 1] [false, false] true (hf84 _ _ _ _) rfl rfl ⟨⟨rfl, by first | rfl | fail⟩, by (repeat' (first | exact trivial | refine And.intro ?_ ?_)) <;> first | exact ren_eq (by first | (simp; done) | fail) (by first | rfl | fail) | exact ren_app2 (by first | (simp; done) | fail) (by first | rfl | fail) (by first | rfl | fail), by first | rfl | fail, by first | rfl | fail, ?_⟩
        conv => whnf
        repeat (fail)
        refine ok1_yield 10 [0, 1, 2, 6, 7] [false, false, false, false, true, true] (syield_of (ps := [49, 50]) (N := Try.f47.ntmps) (R0 := [(2, .p 3 0), (6, .p 4 0), (8, .p 5 0)]) (args0 := [.i 1, .agg ((movC [s0, s1, s2, s3, s4, s5, s6, s7, s8, s9, s10, s11, s12, s13, s14, s15] 1).map .u8)]) (ex := .normal) (H0t := [some (.ro (sbx.map .u8 ++ [.sl 2 0 nW 4 fl])), some (.ro (w.map .u8)), some (.box [.p 1 0]), some (.box ((rndC true w n [s0, s1, s2, s3, s4, s5, s6, s7, s8, s9, s10, s11, s12, s13, s14, s15] 0 ++ [s4, s5, s6, s7, s8, s9, s10, s11, s12, s13, s14, s15]).map .u8)), some (.box [.i (n : Int)])]) (H1t := [some (.ro (sbx.map .u8 ++ [.sl 2 0 nW 4 fl])), some (.ro (w.map .u8)), some (.box [.p 1 0]), some (.box ((rndC true w n [s0, s1, s2, s3, s4, s5, s6, s7, s8, s9, s10, s11, s12, s13, s14, s15] 0 ++ rndC true w n [s0, s1, s2, s3, s4, s5, s6, s7, s8, s9, s10, s11, s12, s13, s14, s15] 1 ++ [s8, s9, s10, s11, s12, s13, s14, s15]).map .u8)), some (.box [.i (n : Int)])]) (.inl rfl) rfl rfl rfl ?_) rfl rfl ⟨⟨rfl, rfl⟩, by (repeat' (first | exact trivial | refine And.intro ?_ ?_)) <;> first | rfl | exact ren_app2 (by first | (simp; done) | fail) rfl rfl | exact ren_eq (by first | (simp; done) | fail) (by first | rfl | fail), rfl, ?_⟩
        · refine sw_ok ttOk mixed (by kernel_rfl) ?_
          conv => whnf
          repeat (first | (refine Exists.intro _ (And.intro (sput_all rfl (by first | rfl | fail)) ?_); conv => whnf) | (refine And.intro (by first | omega | (simp; done) | fail) ?_; conv => whnf) | (refine And.intro ⟨rfl, Nat.le_of_ble_eq_true rfl⟩ ?_; conv => whnf) | (refine And.intro (by kernel_rfl) ?_; conv => whnf) | fail)
          refine sw_ok ttOk mixed (by kernel_rfl) ?_
          conv => whnf
          repeat (first | (refine Exists.intro _ (And.intro rfl ?_); conv => whnf) | fail)
          refine ok1_callF [1, 2] [false, false] false (h48) rfl rfl ⟨⟨rfl, by first | rfl | fail⟩, by (repeat' (first | exact trivial | refine And.intro ?_ ?_)) <;> first | exact ren_eq (by first | (simp; done) | fail) (by first | rfl | fail) | exact ren_app2 (by first | (simp; done) | fail) (by first | rfl | fail) (by first | rfl | fail), by first | rfl | fail, by first | rfl | fail, ?_⟩
          conv => whnf
          repeat (first | (refine Exists.intro _ (And.intro (sload_all rfl (by first | rfl | fail)) ?_); conv => whnf) | (refine Exists.intro _ (And.intro (sload_end (by first | rfl | (simp [hl]; done) | fail)) ?_); conv => whnf) | (refine gdF hlt ?_; conv => whnf) | (refine Exists.intro _ (And.intro (idx_i (m := 4 * n + 1) (by first | rfl | omega | fail)) ?_); conv => whnf) | (refine Exists.intro _ (And.intro (sload_col (i := 4 * (4 * n + 1)) (by first | rfl | omega | fail) (by first | omega | fail)) ?_); conv => whnf) | (refine Exists.intro _ (And.intro rfl ?_); conv => whnf) | (refine And.intro (by first | omega | fail) ?_; conv => whnf) | (refine And.intro (by kernel_rfl) ?_; conv => whnf) | fail)
          refine ok1_callP [] (f86 _ _ _ _ _ _ _ _) rfl rfl ⟨⟨rfl, by first | rfl | fail⟩, trivial, by first | rfl | fail, ?_⟩
          conv => whnf
          repeat (first | (refine Exists.intro _ (And.intro (idx_i (m := 1) (by first | rfl | fail)) ?_); conv => whnf) | (refine Exists.intro _ (And.intro rfl ?_); conv => whnf) | (refine And.intro (by first | omega | (simp; done) | fail) ?_; conv => whnf) | (refine And.intro (by kernel_rfl) ?_; conv => whnf) | fail)
          exact ⟨[0, 1, 2, 3, 4, 5], rfl, rfl, by (repeat' (first | exact trivial | refine And.intro ?_ ?_)) <;> first | rfl | exact ren_app2 (by first | (simp; done) | fail) rfl rfl | exact ren_eq (by first | (simp; done) | fail) (by first | rfl | fail), rfl⟩
        conv => whnf
        repeat (first | (refine brT rfl ?_; conv => whnf) | (refine brF rfl ?_; conv => whnf) | (refine Exists.intro _ (And.intro (sload_all rfl (by first | rfl | fail)) ?_); conv => whnf) | (refine Exists.intro _ (And.intro (sput_all rfl (by first | rfl | fail)) ?_); conv => whnf) | (refine Exists.intro _ (And.intro rfl ?_); conv => whnf) | (refine And.intro (by first | omega | (simp; done) | fail) ?_; conv => whnf) | (refine And.intro (Nat.le_of_ble_eq_true rfl) ?_; conv => whnf) | (refine And.intro (by kernel_rfl) ?_; conv => whnf) | fail)
        refine ok1_callF [0, 1] [false, false] true (hf84 _ _ _ _) rfl rfl ⟨⟨rfl, by first | rfl | fail⟩, by (repeat' (first | exact trivial | refine And.intro ?_ ?_)) <;> first | exact ren_eq (by first | (simp; done) | fail) (by first | rfl | fail) | exact ren_app2 (by first | (simp; done) | fail) (by first | rfl | fail) (by first | rfl | fail), by first | rfl | fail, by first | rfl | fail, ?_⟩
        conv => whnf
        repeat (fail)
        refine ok1_yield 10 [0, 1, 2, 6, 7] [false, false, false, false, true, true] (syield_of (ps := [49, 50]) (N := Try.f47.ntmps) (R0 := [(2, .p 3 0), (6, .p 4 0), (8, .p 5 0)]) (args0 := [.i 2, .agg ((movC [s0, s1, s2, s3, s4, s5, s6, s7, s8, s9, s10, s11, s12, s13, s14, s15] 2).map .u8)]) (ex := .normal) (H0t := [some (.ro (sbx.map .u8 ++ [.sl 2 0 nW 4 fl])), some (.ro (w.map .u8)), some (.box [.p 1 0]), some (.box ((rndC true w n [s0, s1, s2, s3, s4, s5, s6, s7, s8, s9, s10, s11, s12, s13, s14, s15] 0 ++ rndC true w n [s0, s1, s2, s3, s4, s5, s6, s7, s8, s9, s10, s11, s12, s13, s14, s15] 1 ++ [s8, s9, s10, s11, s12, s13, s14, s15]).map .u8)), some (.box [.i (n : Int)])]) (H1t := [some (.ro (sbx.map .u8 ++ [.sl 2 0 nW 4 fl])), some (.ro (w.map .u8)), some (.box [.p 1 0]), some (.box ((rndC true w n [s0, s1, s2, s3, s4, s5, s6, s7, s8, s9, s10, s11, s12, s13, s14, s15] 0 ++ rndC true w n [s0, s1, s2, s3, s4, s5, s6, s7, s8, s9, s10, s11, s12, s13, s14, s15] 1 ++ rndC true w n [s0, s1, s2, s3, s4, s5, s6, s7, s8, s9, s10, s11, s12, s13, s14, s15] 2 ++ [s12, s13, s14, s15]).map .u8)), some (.box [.i (n : Int)])]) (.inl rfl) rfl rfl rfl ?_) rfl rfl ⟨⟨rfl, rfl⟩, by (repeat' (first | exact trivial | refine And.intro ?_ ?_)) <;> first | rfl | exact ren_app2 (by first | (simp; done) | fail) rfl rfl | exact ren_eq (by first | (simp; done) | fail) (by first | rfl | fail), rfl, ?_⟩
        · refine sw_ok ttOk mixed (by kernel_rfl) ?_
          conv => whnf
          repeat (first | (refine Exists.intro _ (And.intro (sput_all rfl (by first | rfl | fail)) ?_); conv => whnf) | (refine And.intro (by first | omega | (simp; done) | fail) ?_; conv => whnf) | (refine And.intro ⟨rfl, Nat.le_of_ble_eq_true rfl⟩ ?_; conv => whnf) | (refine And.intro (by kernel_rfl) ?_; conv => whnf) | fail)
          refine sw_ok ttOk mixed (by kernel_rfl) ?_
          conv => whnf
          repeat (first | (refine Exists.intro _ (And.intro rfl ?_); conv => whnf) | fail)
          refine ok1_callF [1, 2] [false, false] false (h48) rfl rfl ⟨⟨rfl, by first | rfl | fail⟩, by (repeat' (first | exact trivial | refine And.intro ?_ ?_)) <;> first | exact ren_eq (by first | (simp; done) | fail) (by first | rfl | fail) | exact ren_app2 (by first | (simp; done) | fail) (by first | rfl | fail) (by first | rfl | fail), by first | rfl | fail, by first | rfl | fail, ?_⟩
          conv => whnf
          repeat (first | (refine Exists.intro _ (And.intro (sload_all rfl (by first | rfl | fail)) ?_); conv => whnf) | (refine Exists.intro _ (And.intro (sload_end (by first | rfl | (simp [hl]; done) | fail)) ?_); conv => whnf) | (refine gdF hlt ?_; conv => whnf) | (refine Exists.intro _ (And.intro (idx_i (m := 4 * n + 2) (by first | rfl | omega | fail)) ?_); conv => whnf) | (refine Exists.intro _ (And.intro (sload_col (i := 4 * (4 * n + 2)) (by first | rfl | omega | fail) (by first | omega | fail)) ?_); conv => whnf) | (refine Exists.intro _ (And.intro rfl ?_); conv => whnf) | (refine And.intro (by first | omega | fail) ?_; conv => whnf) | (refine And.intro (by kernel_rfl) ?_; conv => whnf) | fail)
          refine ok1_callP [] (f86 _ _ _ _ _ _ _ _) rfl rfl ⟨⟨rfl, by first | rfl | fail⟩, trivial, by first | rfl | fail, ?_⟩
          conv => whnf
          repeat (first | (refine Exists.intro _ (And.intro (idx_i (m := 2) (by first | rfl | fail)) ?_); conv => whnf) | (refine Exists.intro _ (And.intro rfl ?_); conv => whnf) | (refine And.intro (by first | omega | (simp; done) | fail) ?_; conv => whnf) | (refine And.intro ⟨rfl, Nat.le_of_ble_eq_true rfl⟩ ?_; conv => whnf) | (refine And.intro (by kernel_rfl) ?_; conv => whnf) | fail)
          exact ⟨[0, 1, 2, 3, 4, 5], rfl, rfl, by (repeat' (first | exact trivial | refine And.intro ?_ ?_)) <;> first | rfl | exact ren_app2 (by first | (simp; done) | fail) rfl rfl | exact ren_eq (by first | (simp; done) | fail) (by first | rfl | fail), rfl⟩
        conv => whnf
        repeat (first | (refine brT rfl ?_; conv => whnf) | (refine brF rfl ?_; conv => whnf) | (refine Exists.intro _ (And.intro (sload_all rfl (by first | rfl | fail)) ?_); conv => whnf) | (refine Exists.intro _ (And.intro (sput_all rfl (by first | rfl | fail)) ?_); conv => whnf) | (refine Exists.intro _ (And.intro rfl ?_); conv => whnf) | (refine And.intro (by first | omega | (simp; done) | fail) ?_; conv => whnf) | (refine And.intro (Nat.le_of_ble_eq_true rfl) ?_; conv => whnf) | (refine And.intro (by kernel_rfl) ?_; conv => whnf) | fail)
        refine ok1_callF [0, 1] [false, false] true (hf84 _ _ _ _) rfl rfl ⟨⟨rfl, by first | rfl | fail⟩, by (repeat' (first | exact trivial | refine And.intro ?_ ?_)) <;> first | exact ren_eq (by first | (simp; done) | fail) (by first | rfl | fail) | exact ren_app2 (by first | (simp; done) | fail) (by first | rfl | fail) (by first | rfl | fail), by first | rfl | fail, by first | rfl | fail, ?_⟩
        conv => whnf
        repeat (fail)
        refine ok1_yield 10 [0, 1, 2, 6, 7] [false, false, false, false, true, true] (syield_of (ps := [49, 50]) (N := Try.f47.ntmps) (R0 := [(2, .p 3 0), (6, .p 4 0), (8, .p 5 0)]) (args0 := [.i 3, .agg ((movC [s0, s1, s2, s3, s4, s5, s6, s7, s8, s9, s10, s11, s12, s13, s14, s15] 3).map .u8)]) (ex := .normal) (H0t := [some (.ro (sbx.map .u8 ++ [.sl 2 0 nW 4 fl])), some (.ro (w.map .u8)), some (.box [.p 1 0]), some (.box ((rndC true w n [s0, s1, s2, s3, s4, s5, s6, s7, s8, s9, s10, s11, s12, s13, s14, s15] 0 ++ rndC true w n [s0, s1, s2, s3, s4, s5, s6, s7, s8, s9, s10, s11, s12, s13, s14, s15] 1 ++ rndC true w n [s0, s1, s2, s3, s4, s5, s6, s7, s8, s9, s10, s11, s12, s13, s14, s15] 2 ++ [s12, s13, s14, s15]).map .u8)), some (.box [.i (n : Int)])]) (H1t := [some (.ro (sbx.map .u8 ++ [.sl 2 0 nW 4 fl])), some (.ro (w.map .u8)), some (.box [.p 1 0]), some (.box ((rndC true w n [s0, s1, s2, s3, s4, s5, s6, s7, s8, s9, s10, s11, s12, s13, s14, s15] 0 ++ rndC true w n [s0, s1, s2, s3, s4, s5, s6, s7, s8, s9, s10, s11, s12, s13, s14, s15] 1 ++ rndC true w n [s0, s1, s2, s3, s4, s5, s6, s7, s8, s9, s10, s11, s12, s13, s14, s15] 2 ++ rndC true w n [s0, s1, s2, s3, s4, s5, s6, s7, s8, s9, s10, s11, s12, s13, s14, s15] 3 ++ []).map .u8)), some (.box [.i (n : Int)])]) (.inl rfl) rfl rfl rfl ?_) rfl rfl ⟨⟨rfl, rfl⟩, by (repeat' (first | exact trivial | refine And.intro ?_ ?_)) <;> first | rfl | exact ren_app2 (by first | (simp; done) | fail) rfl rfl | exact ren_eq (by first | (simp; done) | fail) (by first | rfl | fail), rfl, ?_⟩
        · refine sw_ok ttOk mixed (by kernel_rfl) ?_
          conv => whnf
          repeat (first | (refine Exists.intro _ (And.intro (sput_all rfl (by first | rfl | fail)) ?_); conv => whnf) | (refine And.intro (by first | omega | (simp; done) | fail) ?_; conv => whnf) | (refine And.intro ⟨rfl, Nat.le_of_ble_eq_true rfl⟩ ?_; conv => whnf) | (refine And.intro (by kernel_rfl) ?_; conv => whnf) | fail)
          refine sw_ok ttOk mixed (by kernel_rfl) ?_
          conv => whnf
          repeat (first | (refine Exists.intro _ (And.intro rfl ?_); conv => whnf) | fail)
          refine ok1_callF [1, 2] [false, false] false (h48) rfl rfl ⟨⟨rfl, by first | rfl | fail⟩, by (repeat' (first | exact trivial | refine And.intro ?_ ?_)) <;> first | exact ren_eq (by first | (simp; done) | fail) (by first | rfl | fail) | exact ren_app2 (by first | (simp; done) | fail) (by first | rfl | fail) (by first | rfl | fail), by first | rfl | fail, by first | rfl | fail, ?_⟩
          conv => whnf
          repeat (first | (refine Exists.intro _ (And.intro (sload_all rfl (by first | rfl | fail)) ?_); conv => whnf) | (refine Exists.intro _ (And.intro (sload_end (by first | rfl | (simp [hl]; done) | fail)) ?_); conv => whnf) | (refine gdF hlt ?_; conv => whnf) | (refine Exists.intro _ (And.intro (idx_i (m := 4 * n + 3) (by first | rfl | omega | fail)) ?_); conv => whnf) | (refine Exists.intro _ (And.intro (sload_col (i := 4 * (4 * n + 3)) (by first | rfl | omega | fail) (by first | omega | fail)) ?_); conv => whnf) | (refine Exists.intro _ (And.intro rfl ?_); conv => whnf) | (refine And.intro (by first | omega | fail) ?_; conv => whnf) | (refine And.intro (by kernel_rfl) ?_; conv => whnf) | fail)
          refine ok1_callP [] (f86 _ _ _ _ _ _ _ _) rfl rfl ⟨⟨rfl, by first | rfl | fail⟩, trivial, by first | rfl | fail, ?_⟩
          conv => whnf
          repeat (first | (refine Exists.intro _ (And.intro (idx_i (m := 3) (by first | rfl | fail)) ?_); conv => whnf) | (refine Exists.intro _ (And.intro rfl ?_); conv => whnf) | (refine And.intro (by first | omega | (simp; done) | fail) ?_; conv => whnf) | (refine And.intro ⟨rfl, Nat.le_of_ble_eq_true rfl⟩ ?_; conv => whnf) | (refine And.intro (by kernel_rfl) ?_; conv => whnf) | fail)
          exact ⟨[0, 1, 2, 3, 4, 5], rfl, rfl, by (repeat' (first | exact trivial | refine And.intro ?_ ?_)) <;> first | rfl | exact ren_app2 (by first | (simp; done) | fail) rfl rfl | exact ren_eq (by first | (simp; done) | fail) (by first | rfl | fail), rfl⟩
        conv => whnf
        repeat (first | (refine brF rfl ?_; conv => whnf) | (refine Exists.intro _ (And.intro rfl ?_); conv => whnf) | (refine And.intro (by first | omega | (simp; done) | fail) ?_; conv => whnf) | fail)
        have hnext : (sealSt w R [b0, b1, b2, b3, b4, b5, b6, b7, b8, b9, b10, b11, b12, b13, b14, b15] (n + 1 - 1)).map SV.u8 = (rndC true w n [s0, s1, s2, s3, s4, s5, s6, s7, s8, s9, s10, s11, s12, s13, s14, s15] 0 ++ rndC true w n [s0, s1, s2, s3, s4, s5, s6, s7, s8, s9, s10, s11, s12, s13, s14, s15] 1 ++ rndC true w n [s0, s1, s2, s3, s4, s5, s6, s7, s8, s9, s10, s11, s12, s13, s14, s15] 2 ++ rndC true w n [s0, s1, s2, s3, s4, s5, s6, s7, s8, s9, s10, s11, s12, s13, s14, s15] 3 ++ []).map SV.u8 := by
          obtain ⟨m, rfl⟩ : ∃ m, n = m + 1 := ⟨n - 1, by omega⟩
          show (rnd (decide (m + 1 = R)) w (m + 1) (sealSt w R [b0, b1, b2, b3, b4, b5, b6, b7, b8, b9, b10, b11, b12, b13, b14, b15] m)).map SV.u8 = _
          have e : sealSt w R [b0, b1, b2, b3, b4, b5, b6, b7, b8, b9, b10, b11, b12, b13, b14, b15] m = [s0, s1, s2, s3, s4, s5, s6, s7, s8, s9, s10, s11, s12, s13, s14, s15] := hst.symm
          rw [e, show decide (m + 1 = R) = true from by simp; omega]
          simp [rnd]
        have hnw := w64_s n (by omega)
        refine ⟨⟨n + 1, by omega⟩, by simp only; omega, ?_⟩
        refine Weak.sel [0, 1, 2, 3, 4, 5, 6, 15] rfl rfl ?_ ?_ rfl rfl
        · (repeat' (first | exact trivial | refine And.intro ?_ ?_ | fail)) <;> first | rfl | fail
        · (repeat' (first | exact trivial | refine And.intro ?_ ?_ | (refine wk_cons ?_ ?_))) <;> first | rfl | exact wk_i (by first | rfl | exact hnw.symm | fail) | exact ren_eq (by first | (simp; done) | fail) (by first | rfl | exact hnext | fail) | exact ren_app2 (by first | (simp; done) | fail) (by first | rfl | fail) rfl | fail
    · have hc' : n = R + 1 := by
        have h2 : decide ((n : Int) ≤ ((nW / 4 : Nat) : Int) - 1) = false := hc
        rw [hq] at h2; simp at h2; omega
      subst hc'
      conv => whnf
      repeat (first | (refine Exists.intro _ (And.intro (sload_all rfl (by first | rfl | fail)) ?_); conv => whnf) | fail)
      have hres : sealSt w R [b0, b1, b2, b3, b4, b5, b6, b7, b8, b9, b10, b11, b12, b13, b14, b15] R = [s0, s1, s2, s3, s4, s5, s6, s7, s8, s9, s10, s11, s12, s13, s14, s15] := hst.symm
      rw [hres]
      refine loop_rounds ttOk mixed (by kernel_rfl) 5 ?_
      conv => whnf
      repeat (first | (refine brT rfl ?_; conv => whnf) | (refine brF rfl ?_; conv => whnf) | (refine Exists.intro _ (And.intro (sload_all rfl (by first | rfl | fail)) ?_); conv => whnf) | (refine Exists.intro _ (And.intro (sput_all rfl (by first | rfl | fail)) ?_); conv => whnf) | (refine Exists.intro _ (And.intro (idx_i (m := 0) (by first | rfl | fail)) ?_); conv => whnf) | (refine Exists.intro _ (And.intro (evb_i (m := 0) rfl (by first | rfl | fail)) ?_); conv => whnf) | (refine Exists.intro _ (And.intro (idx_i (m := 1) (by first | rfl | fail)) ?_); conv => whnf) | (refine Exists.intro _ (And.intro (idx_i (m := 2) (by first | rfl | fail)) ?_); conv => whnf) | (refine Exists.intro _ (And.intro (idx_i (m := 3) (by first | rfl | fail)) ?_); conv => whnf) | (refine Exists.intro _ (And.intro (evb_i (m := 4) rfl (by first | rfl | fail)) ?_); conv => whnf) | (refine Exists.intro _ (And.intro (evb_i (m := 8) rfl (by first | rfl | fail)) ?_); conv => whnf) | (refine Exists.intro _ (And.intro (evb_i (m := 12) rfl (by first | rfl | fail)) ?_); conv => whnf) | (refine Exists.intro _ (And.intro rfl ?_); conv => whnf) | (refine And.intro (by first | omega | (simp; done) | fail) ?_; conv => whnf) | (refine And.intro ⟨rfl, Nat.le_of_ble_eq_true rfl⟩ ?_; conv => whnf) | (refine And.intro ⟨Nat.le_of_ble_eq_true rfl, Nat.le_of_ble_eq_true rfl, Nat.le_of_ble_eq_true rfl⟩ ?_; conv => whnf) | (refine And.intro ⟨Nat.le_of_ble_eq_true rfl, Nat.le_of_ble_eq_true rfl, Nat.le_of_ble_eq_true rfl, Nat.le_of_ble_eq_true rfl⟩ ?_; conv => whnf) | (refine And.intro (by kernel_rfl) ?_; conv => whnf) | fail)
      refine ⟨[0, 1], ?_, rfl, rfl, ?_, rfl⟩
      · (repeat' (first | (refine wk_agg ?_) | (refine wk_cons ?_ ?_))) <;> first | rfl | fail
      · (repeat' (first | exact trivial | refine And.intro ?_ ?_ | fail)) <;> first | exact ren_eq (by first | (simp; done) | fail) (by first | rfl | fail) | exact ren_app2 (by first | (simp; done) | fail) (by first | rfl | fail) rfl | fail
end Go.Sh
/- aes.New, walked. -/
namespace Go.Sh
open Go.Proofs
set_option maxHeartbeats 8000000
set_option linter.unusedSimpArgs false

@[simp] theorem cells_sl (i o n z : Nat) (f : Bool) : (SV.sl i o n z f).cells = [.sl i o n z f] := rfl
@[simp] theorem cells_p (i o : Nat) : (SV.p i o).cells = [.p i o] := rfl
@[simp] theorem cells_slnil : SV.slnil.cells = [.slnil] := rfl

def xor4 : List UInt8 → List UInt8 → List UInt8
  | [a, b, c, d], [a2, b2, c2, d2] => [a ^^^ a2, b ^^^ b2, c ^^^ c2, d ^^^ d2]
  | _, _ => []
def colN (w : List UInt8) (i : Nat) : List UInt8 := [w.getD (4 * i) 0, w.getD (4 * i + 1) 0, w.getD (4 * i + 2) 0, w.getD (4 * i + 3) 0]
def pwN : Nat → UInt8
  | 0 => 1
  | k + 1 => dbl (pwN k)
def subC : List UInt8 → List UInt8
  | [a, b, c, d] => [sb a, sb b, sb c, sb d]
  | l => l
def rotC (p : UInt8) : List UInt8 → List UInt8
  | [a, b, c, d] => [sb b ^^^ p, sb c, sb d, sb a]
  | l => l
/-- A key's next column. -/
def kcol (key : List UInt8) (n i : Nat) (w : List UInt8) : List UInt8 :=
  if i < n then colN key i
  else xor4 (if i % n = 0 then rotC (pwN ((i - 1) / n)) (colN w (i - 1)) else if n = 8 ∧ i % n = 4 then subC (colN w (i - 1)) else colN w (i - 1)) (colN w (i - n))
def wSt (key : List UInt8) (n : Nat) : Nat → List UInt8
  | 0 => []
  | i + 1 => wSt key n i ++ kcol key n i (wSt key n i)

theorem kcol_len (key : List UInt8) (n i : Nat) (w : List UInt8) : (kcol key n i w).length = 4 := by
  unfold kcol
  split
  · rfl
  · split
    · rfl
    · split <;> rfl
theorem wSt_len (key : List UInt8) (n : Nat) : ∀ i, (wSt key n i).length = 4 * i
  | 0 => rfl
  | i + 1 => by simp only [wSt, List.length_append, kcol_len, wSt_len key n i]; omega

def cH (key : List UInt8) (n : Nat) : Nat → HL
  | 0 => [some (.ro (key.map .u8)), some (.box (sbx.map .u8 ++ [.slnil]))]
  | i + 1 => [some (.ro (key.map .u8)), some (.box (sbx.map .u8 ++ [.sl 2 0 (i + 1) 4 false])), some (.row 137 ((wSt key n (i + 1)).map .u8))]
def cL : Nat → Nat
  | 0 => 2
  | _ + 1 => 3

theorem sfill_ci : sfill (fun i => (List.map (fun f : Nat × Nat × Nat => (f.fst, f.snd.snd)) [(0, 128, 256), (256, 133, 1)])[i]?) (SV.agg (List.replicate 256 (SV.u8 0) ++ [SV.slnil])).cells [(0, SV.agg (List.map SV.u8 sbx))] = some (sbx.map .u8 ++ [.slnil]) := by
  have hl := sbx_len
  have hr : (List.replicate 256 (SV.u8 0)).length = 256 := List.length_replicate
  show (if (SV.agg (List.map SV.u8 sbx)).isTup = false ∧ (SV.agg (List.map SV.u8 sbx)).cells.length = 256 ∧ 0 + 256 ≤ (List.replicate 256 (SV.u8 0) ++ [SV.slnil]).length then some (sput (List.replicate 256 (SV.u8 0) ++ [SV.slnil]) 0 (.agg (sbx.map .u8))) else none) = _
  rw [if_pos ⟨rfl, by show (List.map SV.u8 sbx).length = 256; rw [List.length_map, hl], by rw [List.length_append, hr]; decide⟩]
  show some ((List.replicate 256 (SV.u8 0) ++ [SV.slnil]).take 0 ++ sbx.map .u8 ++ (List.replicate 256 (SV.u8 0) ++ [SV.slnil]).drop (0 + (sbx.map SV.u8).length)) = _
  rw [List.take_zero, List.nil_append, List.length_map, hl, List.drop_append_of_le_length (by rw [hr]; decide), List.drop_of_length_le (by rw [hr]; decide)]
  rfl

theorem w64_p1 (n : Nat) (h : n ≤ 1000) : w64 ((n : Int) + 1) = ((n + 1 : Nat) : Int) := by simp only [w64_eq]; omega
theorem w64_m1 (n : Nat) (h : n ≤ 1000) : w64 (((n + 1 : Nat) : Int) - 1) = (n : Int) := by simp only [w64_eq]; omega
theorem w64_sub (n k : Nat) (h : n ≤ 1000) (hk : k ≤ n) : w64 ((n : Int) - (k : Int)) = ((n - k : Nat) : Int) := by simp only [w64_eq]; omega
theorem w64_4 (n : Nat) (h : n ≤ 1000) : w64 (4 * (n : Int)) = ((4 * n : Nat) : Int) := by simp only [w64_eq]; omega
theorem w64_44 (n : Nat) (h : n ≤ 1000) : w64 (w64 (4 * (n : Int)) + 4) = ((4 * n + 4 : Nat) : Int) := by simp only [w64_eq]; omega
theorem tmod_n (n k : Nat) : ((n : Int)).tmod (k : Int) = ((n % k : Nat) : Int) := by rw [Int.tmod_eq_emod_of_nonneg (by omega)]; omega

theorem kcol_rot {key : List UInt8} {n i : Nat} (h : ¬ i + 1 < n) (hz : (i + 1) % n = 0) : (wSt key n (i + 1 + 1)).map SV.u8 = (wSt key n (i + 1)).map .u8 ++ [.u8 (sb ((wSt key n (i + 1)).getD (4 * i + 1) 0) ^^^ pwN ((i + 1 - 1) / n) ^^^ (wSt key n (i + 1)).getD (4 * (i + 1 - n)) 0), .u8 (sb ((wSt key n (i + 1)).getD (4 * i + 2) 0) ^^^ (wSt key n (i + 1)).getD (4 * (i + 1 - n) + 1) 0), .u8 (sb ((wSt key n (i + 1)).getD (4 * i + 3) 0) ^^^ (wSt key n (i + 1)).getD (4 * (i + 1 - n) + 2) 0), .u8 (sb ((wSt key n (i + 1)).getD (4 * i) 0) ^^^ (wSt key n (i + 1)).getD (4 * (i + 1 - n) + 3) 0)] := by
  show (wSt key n (i + 1) ++ kcol key n (i + 1) (wSt key n (i + 1))).map SV.u8 = _
  unfold kcol
  rw [if_neg h, if_pos hz, List.map_append]
  rfl
theorem kcol_sub {key : List UInt8} {n i : Nat} (h : ¬ i + 1 < n) (hz : (i + 1) % n ≠ 0) (h8 : n = 8 ∧ (i + 1) % n = 4) : (wSt key n (i + 1 + 1)).map SV.u8 = (wSt key n (i + 1)).map .u8 ++ [.u8 (sb ((wSt key n (i + 1)).getD (4 * i) 0) ^^^ (wSt key n (i + 1)).getD (4 * (i + 1 - n)) 0), .u8 (sb ((wSt key n (i + 1)).getD (4 * i + 1) 0) ^^^ (wSt key n (i + 1)).getD (4 * (i + 1 - n) + 1) 0), .u8 (sb ((wSt key n (i + 1)).getD (4 * i + 2) 0) ^^^ (wSt key n (i + 1)).getD (4 * (i + 1 - n) + 2) 0), .u8 (sb ((wSt key n (i + 1)).getD (4 * i + 3) 0) ^^^ (wSt key n (i + 1)).getD (4 * (i + 1 - n) + 3) 0)] := by
  show (wSt key n (i + 1) ++ kcol key n (i + 1) (wSt key n (i + 1))).map SV.u8 = _
  unfold kcol
  rw [if_neg h, if_neg hz, if_pos h8, List.map_append]
  rfl
theorem kcol_xor {key : List UInt8} {n i : Nat} (h : ¬ i + 1 < n) (hz : (i + 1) % n ≠ 0) (h8 : ¬ (n = 8 ∧ (i + 1) % n = 4)) : (wSt key n (i + 1 + 1)).map SV.u8 = (wSt key n (i + 1)).map .u8 ++ [.u8 ((wSt key n (i + 1)).getD (4 * i) 0 ^^^ (wSt key n (i + 1)).getD (4 * (i + 1 - n)) 0), .u8 ((wSt key n (i + 1)).getD (4 * i + 1) 0 ^^^ (wSt key n (i + 1)).getD (4 * (i + 1 - n) + 1) 0), .u8 ((wSt key n (i + 1)).getD (4 * i + 2) 0 ^^^ (wSt key n (i + 1)).getD (4 * (i + 1 - n) + 2) 0), .u8 ((wSt key n (i + 1)).getD (4 * i + 3) 0 ^^^ (wSt key n (i + 1)).getD (4 * (i + 1 - n) + 3) 0)] := by
  show (wSt key n (i + 1) ++ kcol key n (i + 1) (wSt key n (i + 1))).map SV.u8 = _
  unfold kcol
  rw [if_neg h, if_neg hz, if_neg h8, List.map_append]
  rfl

theorem ren_colapp {sel : List Nat} {w : List UInt8} {X : List SV} {k : Nat} {a b c d : UInt8} (hk : w.length = k * 4) (hX : X = w.map .u8 ++ [.u8 a, .u8 b, .u8 c, .u8 d]) : renL sel X = some (List.take (k * 4) (List.drop 0 (w.map .u8)) ++ [SV.u8 a, .u8 b, .u8 c, .u8 d]) := by
  subst hX
  rw [List.drop_zero, List.take_of_length_le (by simp; omega)]
  exact ren_app (plainL_u8 _) rfl

theorem wSt_z (key : List UInt8) (n : Nat) : wSt key n 0 = [] := rfl
theorem wSt_s (key : List UInt8) (n i : Nat) : wSt key n (i + 1) = wSt key n i ++ kcol key n i (wSt key n i) := rfl
attribute [irreducible] wSt

theorem f45n (fl : Bool) (key : List UInt8) (h1 : key.length ≠ 16) (h2 : key.length ≠ 32) : SCall Try.prog 45 [.sl 0 0 key.length 1 fl] [some (.ro (key.map .u8))] (.tup [.pnil, .i 2]) [some (.ro (key.map .u8))] := by
  have g1 : ((key.length : Int) != 16) = true := by simp; omega
  have g2 : ((key.length : Int) != 32) = true := by simp; omega
  refine scall_of ttOk (by kernel_rfl : Try.prog.funcs[45]? = some Try.f45) rfl rfl rfl ?_
  refine sw_ok ttOk mixed (by kernel_rfl) ?_
  conv => whnf
  repeat (first | (refine gdT g1 ?_; conv => whnf) | (refine pkT g1 ?_; conv => whnf) | (refine gdT g2 ?_; conv => whnf) | (refine Exists.intro _ (And.intro rfl ?_); conv => whnf) | fail)
  refine ⟨[0], ?_, rfl, rfl, ?_, rfl⟩
  · (repeat' (first | (refine wk_tup ?_) | (refine wk_cons ?_ ?_))) <;> first | rfl | fail
  · (repeat' (first | exact trivial | refine And.intro ?_ ?_ | fail)) <;> first | exact ren_eq (by first | (simp; done) | fail) (by first | rfl | fail) | fail

theorem f45_4 (fl : Bool) (key : List UInt8) (hk : key.length = 16) : SCall Try.prog 45 [.sl 0 0 16 1 fl] [some (.ro (key.map .u8))] (.tup [.p 1 0, .i 0]) [some (.ro (key.map .u8)), some (.box (sbx.map .u8 ++ [.sl 2 0 44 4 false])), some (.row 137 ((wSt key 4 44).map .u8))] := by
  have hl := sbx_len
  refine scall_of ttOk (by kernel_rfl : Try.prog.funcs[45]? = some Try.f45) rfl rfl rfl ?_
  refine sw_ok ttOk mixed (by kernel_rfl) ?_
  conv => whnf
  repeat (first | (refine brF rfl ?_; conv => whnf) | (refine Exists.intro _ (And.intro rfl ?_); conv => whnf) | fail)
  refine ok1_callF [] [true, true, true, true, true, true, true, true, true, true, true, true] true (f80) rfl rfl ⟨⟨rfl, by first | rfl | fail⟩, trivial, by first | rfl | fail, by first | simp [plainRf, plainR, plainT, plainW], ?_⟩
  conv => whnf
  repeat (fail)
  refine Exists.intro _ (And.intro sfill_ci ?_)
  conv => whnf
  repeat (fail)
  refine loop_rule ttOk mixed (by kernel_rfl) (ι := { i : Nat // i ≤ 44 }) (fun i => [(0, .sl 0 0 16 1 fl), (4, .i 4), (5, .p 1 0), (6, .u8 (pwN ((i.1 - 1) / 4))), (25, .i 44), (26, .i (i.1 : Int))]) (fun i => cH key 4 i.1) (fun i => cL i.1) (fun i => 44 - i.1) ⟨0, by omega⟩ ?_ ?_
  · refine Weak.sel [0, 1] rfl rfl ?_ ?_ rfl rfl
    · (repeat' (first | exact trivial | refine And.intro ?_ ?_ | fail)) <;> first | rfl | exact wk_u8 (by first | (simp [pwN]; done) | fail) | fail
    · (repeat' (first | exact trivial | refine And.intro ?_ ?_ | fail)) <;> first | exact ren_eq (by first | (simp; done) | fail) (by first | rfl | fail) | exact ren_app2 (by first | (simp; done) | fail) (by first | rfl | fail) rfl | fail
  · rintro ⟨i, hi⟩
    have hwl := wSt_len key 4 i
    rcases i with _ | i
    · dsimp only [cH, cL]
      conv => whnf
      repeat (first | (refine brT rfl ?_; conv => whnf) | (refine Exists.intro _ (And.intro (sload_end (by first | rfl | (simp [hl]; done) | fail)) ?_); conv => whnf) | (refine Exists.intro _ (And.intro (sput_end (by first | rfl | (simp [hl]; done) | fail) rfl) ?_); conv => whnf) | (refine Exists.intro _ (And.intro (evb_i (m := 0) rfl (by first | rfl | fail)) ?_); conv => whnf) | (refine Exists.intro _ (And.intro (evb_i (m := 4) rfl (by first | rfl | fail)) ?_); conv => whnf) | (refine Exists.intro _ (And.intro (sload_col (i := 0) (by first | rfl | fail) (by first | omega | fail)) ?_); conv => whnf) | (refine Exists.intro _ (And.intro rfl ?_); conv => whnf) | (refine And.intro (by first | omega | (simp; omega) | fail) ?_; conv => whnf) | (refine And.intro ⟨Nat.le_of_ble_eq_true rfl, Nat.le_of_ble_eq_true rfl⟩ ?_; conv => whnf) | (refine And.intro (by kernel_rfl) ?_; conv => whnf) | fail)
      have hone : wSt key 4 (0 + 1) = colN key 0 := by rw [wSt_s, wSt_z]; unfold kcol; rw [if_pos (by decide)]; rfl
      refine ⟨⟨1, by omega⟩, by simp, ?_⟩
      refine Weak.sel [0, 1, 3] rfl rfl ?_ ?_ rfl rfl
      · (repeat' (first | exact trivial | refine And.intro ?_ ?_ | fail)) <;> first | rfl | fail
      · (repeat' (first | exact trivial | refine And.intro ?_ ?_ | fail)) <;> first | rfl | exact ren_eq (by first | (simp; done) | fail) (by first | rfl | fail) | exact ren_app2 (by first | (simp; done) | fail) (by first | rfl | fail) rfl | exact (by rw [hone]; rfl) | fail
    · dsimp only [cH, cL]
      conv => whnf
      refine ⟨fun hc => ?_, fun hc => ?_⟩
      · have hi2 : i + 1 < 44 := by simp at hc; omega
        have hp1 := w64_p1 (i + 1) (by omega)
        have hm1 := w64_m1 i (by omega)
        have h4 := w64_4 (i + 1) (by omega)
        have h44 := w64_44 (i + 1) (by omega)
        by_cases hin : i + 1 < 4
        · have hlt : decide (((i + 1 : Nat) : Int) < 4) = true := by simp; omega
          conv => whnf
          repeat (first | (refine Exists.intro _ (And.intro (sload_end (by first | rfl | (simp [hl, hwl]; done) | fail)) ?_); conv => whnf) | (refine Exists.intro _ (And.intro (sput_end (by first | rfl | (simp [hl, hwl]; done) | fail) rfl) ?_); conv => whnf) | (refine Exists.intro _ (And.intro (idx_i (m := 4 * (i + 1)) (by first | rfl | omega | fail)) ?_); conv => whnf) | (refine Exists.intro _ (And.intro (idx_i (m := 4 * (i + 1) + 4) (by first | rfl | omega | fail)) ?_); conv => whnf) | (refine Exists.intro _ (And.intro (sload_col (i := 4 * (i + 1)) (by first | rfl | omega | fail) (by first | omega | fail)) ?_); conv => whnf) | (refine gdT hlt ?_; conv => whnf) | (refine Exists.intro _ (And.intro rfl ?_); conv => whnf) | (refine And.intro (by first | omega | (simp; omega) | fail) ?_; conv => whnf) | (refine And.intro (by kernel_rfl) ?_; conv => whnf) | (refine And.intro ⟨by first | (simp [hl, hwl]; omega) | fail, by first | exact Nat.le_of_ble_eq_true rfl | fail, by first | (show _ * 4 ≤ _; omega) | fail⟩ ?_; conv => whnf) | fail)
          have hcol : (wSt key 4 (i + 1 + 1)).map SV.u8 = (wSt key 4 (i + 1)).map SV.u8 ++ [.u8 (key.getD (4 * (i + 1)) 0), .u8 (key.getD (4 * (i + 1) + 1) 0), .u8 (key.getD (4 * (i + 1) + 2) 0), .u8 (key.getD (4 * (i + 1) + 3) 0)] := by
            rw [wSt_s key 4 (i + 1)]
            unfold kcol; rw [if_pos hin]; simp [colN]
          have hpw : pwN ((i + 1 + 1 - 1) / 4) = pwN ((i + 1 - 1) / 4) := by
            rw [show (i + 1 + 1 - 1) / 4 = (i + 1 - 1) / 4 from by omega]
          have htk : List.take ((i + 1) * 4) ((wSt key 4 (i + 1)).map SV.u8) = (wSt key 4 (i + 1)).map SV.u8 := by
            rw [List.take_of_length_le]; simp; omega
          refine ⟨⟨i + 1 + 1, by omega⟩, by simp only; omega, ?_⟩
          refine Weak.sel [0, 1, 4] rfl rfl ?_ ?_ rfl rfl
          · (repeat' (first | exact trivial | refine And.intro ?_ ?_ | fail)) <;> first | rfl | exact wk_i (by first | rfl | exact hp1.symm | fail) | exact wk_u8 (by first | exact hpw | fail) | fail
          · (repeat' (first | exact trivial | refine And.intro ?_ ?_ | fail)) <;> first | rfl | exact ren_eq (by first | (simp; done) | fail) (by first | rfl | fail) | exact ren_app2 (by first | (simp; done) | fail) (by first | rfl | fail) rfl | exact ren_colapp (by omega) hcol | fail
        · have hlt : decide (((i + 1 : Nat) : Int) < 4) = false := by simp; omega
          conv => whnf
          repeat (first | (refine Exists.intro _ (And.intro (sput_all rfl (by first | rfl | fail)) ?_); conv => whnf) | (refine Exists.intro _ (And.intro (sload_end (by first | rfl | (simp [hl, hwl]; done) | fail)) ?_); conv => whnf) | (refine Exists.intro _ (And.intro (idx_i (m := i) (by first | rfl | omega | fail)) ?_); conv => whnf) | (refine Exists.intro _ (And.intro (sload_col (i := 4 * i) (by first | rfl | omega | fail) (by first | omega | fail)) ?_); conv => whnf) | (refine gdF hlt ?_; conv => whnf) | (refine Exists.intro _ (And.intro rfl ?_); conv => whnf) | (refine And.intro (by first | omega | (simp; done) | fail) ?_; conv => whnf) | fail)
          have hf84 := fun a b c d => f84 a b c d (i + 1) false (wSt key 4 (i + 1))
          unfold ciB ciW at hf84
          have hs : w64 (((i + 1 : Nat) : Int) - 4) = ((i + 1 - 4 : Nat) : Int) := w64_sub (i + 1) 4 (by omega) (by omega)
          have htm : (((i + 1 : Nat) : Int)).tmod 4 = (((i + 1) % 4 : Nat) : Int) := tmod_n (i + 1) 4
          by_cases hz : (i + 1) % 4 = 0
          · have hm : ((((i + 1 : Nat) : Int)).tmod 4 == 0) = true := by rw [htm, hz]; rfl
            refine brT hm ?_
            conv => whnf
            repeat (first | (refine Exists.intro _ (And.intro (idx_i (m := 1) (by first | rfl | fail)) ?_); conv => whnf) | (refine Exists.intro _ (And.intro (idx_i (m := 2) (by first | rfl | fail)) ?_); conv => whnf) | (refine Exists.intro _ (And.intro (idx_i (m := 3) (by first | rfl | fail)) ?_); conv => whnf) | (refine Exists.intro _ (And.intro (idx_i (m := 0) (by first | rfl | fail)) ?_); conv => whnf) | (refine Exists.intro _ (And.intro rfl ?_); conv => whnf) | (refine And.intro (by first | omega | fail) ?_; conv => whnf) | fail)
            refine ok1_callF [1, 2] [false, false] true (hf84 _ _ _ _) rfl rfl ⟨⟨rfl, by first | rfl | fail⟩, by (repeat' (first | exact trivial | refine And.intro ?_ ?_)) <;> first | exact ren_eq (by first | (simp; done) | fail) (by first | rfl | fail) | exact ren_app2 (by first | (simp; done) | fail) (by first | rfl | fail) (by first | rfl | fail), by first | rfl | fail, by first | rfl | fail, ?_⟩
            conv => whnf
            repeat (first | (refine Exists.intro _ (And.intro (sput_all rfl (by first | rfl | fail)) ?_); conv => whnf) | (refine Exists.intro _ (And.intro (idx_i (m := 0) (by first | rfl | fail)) ?_); conv => whnf) | (refine Exists.intro _ (And.intro rfl ?_); conv => whnf) | (refine And.intro (by first | omega | (simp; done) | fail) ?_; conv => whnf) | fail)
            refine ok1_callP [] (f85 (pwN ((i + 1 - 1) / 4))) rfl rfl ⟨⟨rfl, by first | rfl | fail⟩, trivial, by first | rfl | fail, ?_⟩
            conv => whnf
            repeat (first | (refine Exists.intro _ (And.intro (sload_all rfl (by first | rfl | fail)) ?_); conv => whnf) | (refine Exists.intro _ (And.intro (sload_end (by first | rfl | (simp [hl, hwl]; done) | fail)) ?_); conv => whnf) | (refine Exists.intro _ (And.intro (idx_i (m := i + 1 - 4) (by first | rfl | omega | fail)) ?_); conv => whnf) | (refine Exists.intro _ (And.intro (sload_col (i := 4 * (i + 1 - 4)) (by first | rfl | omega | fail) (by first | omega | fail)) ?_); conv => whnf) | (refine And.intro (by first | omega | fail) ?_; conv => whnf) | fail)
            refine ok1_callP [] (f86 _ _ _ _ _ _ _ _) rfl rfl ⟨⟨rfl, by first | rfl | fail⟩, trivial, by first | rfl | fail, ?_⟩
            conv => whnf
            repeat (first | (refine Exists.intro _ (And.intro (sput_end (by first | rfl | (simp [hl, hwl]; done) | fail) rfl) ?_); conv => whnf) | (refine Exists.intro _ (And.intro rfl ?_); conv => whnf) | (refine And.intro (by first | omega | (simp; omega) | fail) ?_; conv => whnf) | (refine And.intro (by kernel_rfl) ?_; conv => whnf) | (refine And.intro ⟨by first | (simp [hl, hwl]; omega) | fail, by first | exact Nat.le_of_ble_eq_true rfl | fail, by first | (show _ * 4 ≤ _; omega) | fail⟩ ?_; conv => whnf) | fail)
            have hpw : pwN ((i + 1 + 1 - 1) / 4) = dbl (pwN ((i + 1 - 1) / 4)) := by
              rw [show (i + 1 + 1 - 1) / 4 = (i + 1 - 1) / 4 + 1 from by omega]; rfl
            refine ⟨⟨i + 1 + 1, by omega⟩, by simp only; omega, ?_⟩
            refine Weak.sel [0, 1, 5] rfl rfl ?_ ?_ rfl rfl
            · (repeat' (first | exact trivial | refine And.intro ?_ ?_ | fail)) <;> first | rfl | exact wk_i (by first | rfl | exact hp1.symm | fail) | exact wk_u8 (by first | exact hpw | fail) | fail
            · (repeat' (first | exact trivial | refine And.intro ?_ ?_ | fail)) <;> first | rfl | exact ren_eq (by first | (simp; done) | fail) (by first | rfl | fail) | exact ren_app2 (by first | (simp; done) | fail) (by first | rfl | fail) rfl | exact ren_colapp (by omega) (kcol_rot hin hz) | fail
          · have hm : ((((i + 1 : Nat) : Int)).tmod 4 == 0) = false := by rw [htm]; simp; omega
            refine brF hm ?_
            have hpw : pwN ((i + 1 + 1 - 1) / 4) = pwN ((i + 1 - 1) / 4) := by
              rw [show (i + 1 + 1 - 1) / 4 = (i + 1 - 1) / 4 from by omega]
            by_cases h8 : 4 = 8 ∧ (i + 1) % 4 = 4
            · skip
              exact absurd h8.1 (by decide)
            · skip
              conv => whnf
              repeat (first | (refine brF rfl ?_; conv => whnf) | (refine Exists.intro _ (And.intro (sload_all rfl (by first | rfl | fail)) ?_); conv => whnf) | (refine Exists.intro _ (And.intro (sload_end (by first | rfl | (simp [hl, hwl]; done) | fail)) ?_); conv => whnf) | (refine Exists.intro _ (And.intro (idx_i (m := i + 1 - 4) (by first | rfl | omega | fail)) ?_); conv => whnf) | (refine Exists.intro _ (And.intro (sload_col (i := 4 * (i + 1 - 4)) (by first | rfl | omega | fail) (by first | omega | fail)) ?_); conv => whnf) | (refine Exists.intro _ (And.intro rfl ?_); conv => whnf) | (refine And.intro (by first | omega | fail) ?_; conv => whnf) | fail)
              refine ok1_callP [] (f86 _ _ _ _ _ _ _ _) rfl rfl ⟨⟨rfl, by first | rfl | fail⟩, trivial, by first | rfl | fail, ?_⟩
              conv => whnf
              repeat (first | (refine Exists.intro _ (And.intro (sput_end (by first | rfl | (simp [hl, hwl]; done) | fail) rfl) ?_); conv => whnf) | (refine Exists.intro _ (And.intro rfl ?_); conv => whnf) | (refine And.intro (by first | omega | (simp; omega) | fail) ?_; conv => whnf) | (refine And.intro (by kernel_rfl) ?_; conv => whnf) | (refine And.intro ⟨by first | (simp [hl, hwl]; omega) | fail, by first | exact Nat.le_of_ble_eq_true rfl | fail, by first | (show _ * 4 ≤ _; omega) | fail⟩ ?_; conv => whnf) | fail)
              refine ⟨⟨i + 1 + 1, by omega⟩, by simp only; omega, ?_⟩
              refine Weak.sel [0, 1, 5] rfl rfl ?_ ?_ rfl rfl
              · (repeat' (first | exact trivial | refine And.intro ?_ ?_ | fail)) <;> first | rfl | exact wk_i (by first | rfl | exact hp1.symm | fail) | exact wk_u8 (by first | exact hpw | fail) | fail
              · (repeat' (first | exact trivial | refine And.intro ?_ ?_ | fail)) <;> first | rfl | exact ren_eq (by first | (simp; done) | fail) (by first | rfl | fail) | exact ren_app2 (by first | (simp; done) | fail) (by first | rfl | fail) rfl | exact ren_colapp (by omega) (kcol_xor hin hz h8) | fail
      · obtain rfl : i = 44 - 1 := by simp at hc; omega
        conv => whnf
        refine ⟨[0, 1, 2], ?_, rfl, rfl, ?_, rfl⟩
        · (repeat' (first | (refine wk_tup ?_) | (refine wk_cons ?_ ?_))) <;> first | rfl | fail
        · (repeat' (first | exact trivial | refine And.intro ?_ ?_ | fail)) <;> first | rfl | exact ren_eq (by first | (simp; done) | fail) (by first | rfl | fail) | exact ren_app2 (by first | (simp; done) | fail) (by first | rfl | fail) rfl | fail
theorem f45_8 (fl : Bool) (key : List UInt8) (hk : key.length = 32) : SCall Try.prog 45 [.sl 0 0 32 1 fl] [some (.ro (key.map .u8))] (.tup [.p 1 0, .i 0]) [some (.ro (key.map .u8)), some (.box (sbx.map .u8 ++ [.sl 2 0 60 4 false])), some (.row 137 ((wSt key 8 60).map .u8))] := by
  have hl := sbx_len
  refine scall_of ttOk (by kernel_rfl : Try.prog.funcs[45]? = some Try.f45) rfl rfl rfl ?_
  refine sw_ok ttOk mixed (by kernel_rfl) ?_
  conv => whnf
  repeat (first | (refine brT rfl ?_; conv => whnf) | (refine brF rfl ?_; conv => whnf) | (refine Exists.intro _ (And.intro rfl ?_); conv => whnf) | fail)
  refine ok1_callF [] [true, true, true, true, true, true, true, true, true, true, true, true] true (f80) rfl rfl ⟨⟨rfl, by first | rfl | fail⟩, trivial, by first | rfl | fail, by first | simp [plainRf, plainR, plainT, plainW], ?_⟩
  conv => whnf
  repeat (fail)
  refine Exists.intro _ (And.intro sfill_ci ?_)
  conv => whnf
  repeat (fail)
  refine loop_rule ttOk mixed (by kernel_rfl) (ι := { i : Nat // i ≤ 60 }) (fun i => [(0, .sl 0 0 32 1 fl), (4, .i 8), (5, .p 1 0), (6, .u8 (pwN ((i.1 - 1) / 8))), (25, .i 60), (26, .i (i.1 : Int))]) (fun i => cH key 8 i.1) (fun i => cL i.1) (fun i => 60 - i.1) ⟨0, by omega⟩ ?_ ?_
  · refine Weak.sel [0, 1] rfl rfl ?_ ?_ rfl rfl
    · (repeat' (first | exact trivial | refine And.intro ?_ ?_ | fail)) <;> first | rfl | exact wk_u8 (by first | (simp [pwN]; done) | fail) | fail
    · (repeat' (first | exact trivial | refine And.intro ?_ ?_ | fail)) <;> first | exact ren_eq (by first | (simp; done) | fail) (by first | rfl | fail) | exact ren_app2 (by first | (simp; done) | fail) (by first | rfl | fail) rfl | fail
  · rintro ⟨i, hi⟩
    have hwl := wSt_len key 8 i
    rcases i with _ | i
    · dsimp only [cH, cL]
      conv => whnf
      repeat (first | (refine brT rfl ?_; conv => whnf) | (refine Exists.intro _ (And.intro (sload_end (by first | rfl | (simp [hl]; done) | fail)) ?_); conv => whnf) | (refine Exists.intro _ (And.intro (sput_end (by first | rfl | (simp [hl]; done) | fail) rfl) ?_); conv => whnf) | (refine Exists.intro _ (And.intro (evb_i (m := 0) rfl (by first | rfl | fail)) ?_); conv => whnf) | (refine Exists.intro _ (And.intro (evb_i (m := 4) rfl (by first | rfl | fail)) ?_); conv => whnf) | (refine Exists.intro _ (And.intro (sload_col (i := 0) (by first | rfl | fail) (by first | omega | fail)) ?_); conv => whnf) | (refine Exists.intro _ (And.intro rfl ?_); conv => whnf) | (refine And.intro (by first | omega | (simp; omega) | fail) ?_; conv => whnf) | (refine And.intro ⟨Nat.le_of_ble_eq_true rfl, Nat.le_of_ble_eq_true rfl⟩ ?_; conv => whnf) | (refine And.intro (by kernel_rfl) ?_; conv => whnf) | fail)
      have hone : wSt key 8 (0 + 1) = colN key 0 := by rw [wSt_s, wSt_z]; unfold kcol; rw [if_pos (by decide)]; rfl
      refine ⟨⟨1, by omega⟩, by simp, ?_⟩
      refine Weak.sel [0, 1, 3] rfl rfl ?_ ?_ rfl rfl
      · (repeat' (first | exact trivial | refine And.intro ?_ ?_ | fail)) <;> first | rfl | fail
      · (repeat' (first | exact trivial | refine And.intro ?_ ?_ | fail)) <;> first | rfl | exact ren_eq (by first | (simp; done) | fail) (by first | rfl | fail) | exact ren_app2 (by first | (simp; done) | fail) (by first | rfl | fail) rfl | exact (by rw [hone]; rfl) | fail
    · dsimp only [cH, cL]
      conv => whnf
      refine ⟨fun hc => ?_, fun hc => ?_⟩
      · have hi2 : i + 1 < 60 := by simp at hc; omega
        have hp1 := w64_p1 (i + 1) (by omega)
        have hm1 := w64_m1 i (by omega)
        have h4 := w64_4 (i + 1) (by omega)
        have h44 := w64_44 (i + 1) (by omega)
        by_cases hin : i + 1 < 8
        · have hlt : decide (((i + 1 : Nat) : Int) < 8) = true := by simp; omega
          conv => whnf
          repeat (first | (refine Exists.intro _ (And.intro (sload_end (by first | rfl | (simp [hl, hwl]; done) | fail)) ?_); conv => whnf) | (refine Exists.intro _ (And.intro (sput_end (by first | rfl | (simp [hl, hwl]; done) | fail) rfl) ?_); conv => whnf) | (refine Exists.intro _ (And.intro (idx_i (m := 4 * (i + 1)) (by first | rfl | omega | fail)) ?_); conv => whnf) | (refine Exists.intro _ (And.intro (idx_i (m := 4 * (i + 1) + 4) (by first | rfl | omega | fail)) ?_); conv => whnf) | (refine Exists.intro _ (And.intro (sload_col (i := 4 * (i + 1)) (by first | rfl | omega | fail) (by first | omega | fail)) ?_); conv => whnf) | (refine gdT hlt ?_; conv => whnf) | (refine Exists.intro _ (And.intro rfl ?_); conv => whnf) | (refine And.intro (by first | omega | (simp; omega) | fail) ?_; conv => whnf) | (refine And.intro (by kernel_rfl) ?_; conv => whnf) | (refine And.intro ⟨by first | (simp [hl, hwl]; omega) | fail, by first | exact Nat.le_of_ble_eq_true rfl | fail, by first | (show _ * 4 ≤ _; omega) | fail⟩ ?_; conv => whnf) | fail)
          have hcol : (wSt key 8 (i + 1 + 1)).map SV.u8 = (wSt key 8 (i + 1)).map SV.u8 ++ [.u8 (key.getD (4 * (i + 1)) 0), .u8 (key.getD (4 * (i + 1) + 1) 0), .u8 (key.getD (4 * (i + 1) + 2) 0), .u8 (key.getD (4 * (i + 1) + 3) 0)] := by
            rw [wSt_s key 8 (i + 1)]
            unfold kcol; rw [if_pos hin]; simp [colN]
          have hpw : pwN ((i + 1 + 1 - 1) / 8) = pwN ((i + 1 - 1) / 8) := by
            rw [show (i + 1 + 1 - 1) / 8 = (i + 1 - 1) / 8 from by omega]
          have htk : List.take ((i + 1) * 4) ((wSt key 8 (i + 1)).map SV.u8) = (wSt key 8 (i + 1)).map SV.u8 := by
            rw [List.take_of_length_le]; simp; omega
          refine ⟨⟨i + 1 + 1, by omega⟩, by simp only; omega, ?_⟩
          refine Weak.sel [0, 1, 4] rfl rfl ?_ ?_ rfl rfl
          · (repeat' (first | exact trivial | refine And.intro ?_ ?_ | fail)) <;> first | rfl | exact wk_i (by first | rfl | exact hp1.symm | fail) | exact wk_u8 (by first | exact hpw | fail) | fail
          · (repeat' (first | exact trivial | refine And.intro ?_ ?_ | fail)) <;> first | rfl | exact ren_eq (by first | (simp; done) | fail) (by first | rfl | fail) | exact ren_app2 (by first | (simp; done) | fail) (by first | rfl | fail) rfl | exact ren_colapp (by omega) hcol | fail
        · have hlt : decide (((i + 1 : Nat) : Int) < 8) = false := by simp; omega
          conv => whnf
          repeat (first | (refine Exists.intro _ (And.intro (sput_all rfl (by first | rfl | fail)) ?_); conv => whnf) | (refine Exists.intro _ (And.intro (sload_end (by first | rfl | (simp [hl, hwl]; done) | fail)) ?_); conv => whnf) | (refine Exists.intro _ (And.intro (idx_i (m := i) (by first | rfl | omega | fail)) ?_); conv => whnf) | (refine Exists.intro _ (And.intro (sload_col (i := 4 * i) (by first | rfl | omega | fail) (by first | omega | fail)) ?_); conv => whnf) | (refine gdF hlt ?_; conv => whnf) | (refine Exists.intro _ (And.intro rfl ?_); conv => whnf) | (refine And.intro (by first | omega | (simp; done) | fail) ?_; conv => whnf) | fail)
          have hf84 := fun a b c d => f84 a b c d (i + 1) false (wSt key 8 (i + 1))
          unfold ciB ciW at hf84
          have hs : w64 (((i + 1 : Nat) : Int) - 8) = ((i + 1 - 8 : Nat) : Int) := w64_sub (i + 1) 8 (by omega) (by omega)
          have htm : (((i + 1 : Nat) : Int)).tmod 8 = (((i + 1) % 8 : Nat) : Int) := tmod_n (i + 1) 8
          by_cases hz : (i + 1) % 8 = 0
          · have hm : ((((i + 1 : Nat) : Int)).tmod 8 == 0) = true := by rw [htm, hz]; rfl
            refine brT hm ?_
            conv => whnf
            repeat (first | (refine Exists.intro _ (And.intro (idx_i (m := 1) (by first | rfl | fail)) ?_); conv => whnf) | (refine Exists.intro _ (And.intro (idx_i (m := 2) (by first | rfl | fail)) ?_); conv => whnf) | (refine Exists.intro _ (And.intro (idx_i (m := 3) (by first | rfl | fail)) ?_); conv => whnf) | (refine Exists.intro _ (And.intro (idx_i (m := 0) (by first | rfl | fail)) ?_); conv => whnf) | (refine Exists.intro _ (And.intro rfl ?_); conv => whnf) | (refine And.intro (by first | omega | fail) ?_; conv => whnf) | fail)
            refine ok1_callF [1, 2] [false, false] true (hf84 _ _ _ _) rfl rfl ⟨⟨rfl, by first | rfl | fail⟩, by (repeat' (first | exact trivial | refine And.intro ?_ ?_)) <;> first | exact ren_eq (by first | (simp; done) | fail) (by first | rfl | fail) | exact ren_app2 (by first | (simp; done) | fail) (by first | rfl | fail) (by first | rfl | fail), by first | rfl | fail, by first | rfl | fail, ?_⟩
            conv => whnf
            repeat (first | (refine Exists.intro _ (And.intro (sput_all rfl (by first | rfl | fail)) ?_); conv => whnf) | (refine Exists.intro _ (And.intro (idx_i (m := 0) (by first | rfl | fail)) ?_); conv => whnf) | (refine Exists.intro _ (And.intro rfl ?_); conv => whnf) | (refine And.intro (by first | omega | (simp; done) | fail) ?_; conv => whnf) | fail)
            refine ok1_callP [] (f85 (pwN ((i + 1 - 1) / 8))) rfl rfl ⟨⟨rfl, by first | rfl | fail⟩, trivial, by first | rfl | fail, ?_⟩
            conv => whnf
            repeat (first | (refine Exists.intro _ (And.intro (sload_all rfl (by first | rfl | fail)) ?_); conv => whnf) | (refine Exists.intro _ (And.intro (sload_end (by first | rfl | (simp [hl, hwl]; done) | fail)) ?_); conv => whnf) | (refine Exists.intro _ (And.intro (idx_i (m := i + 1 - 8) (by first | rfl | omega | fail)) ?_); conv => whnf) | (refine Exists.intro _ (And.intro (sload_col (i := 4 * (i + 1 - 8)) (by first | rfl | omega | fail) (by first | omega | fail)) ?_); conv => whnf) | (refine And.intro (by first | omega | fail) ?_; conv => whnf) | fail)
            refine ok1_callP [] (f86 _ _ _ _ _ _ _ _) rfl rfl ⟨⟨rfl, by first | rfl | fail⟩, trivial, by first | rfl | fail, ?_⟩
            conv => whnf
            repeat (first | (refine Exists.intro _ (And.intro (sput_end (by first | rfl | (simp [hl, hwl]; done) | fail) rfl) ?_); conv => whnf) | (refine Exists.intro _ (And.intro rfl ?_); conv => whnf) | (refine And.intro (by first | omega | (simp; omega) | fail) ?_; conv => whnf) | (refine And.intro (by kernel_rfl) ?_; conv => whnf) | (refine And.intro ⟨by first | (simp [hl, hwl]; omega) | fail, by first | exact Nat.le_of_ble_eq_true rfl | fail, by first | (show _ * 4 ≤ _; omega) | fail⟩ ?_; conv => whnf) | fail)
            have hpw : pwN ((i + 1 + 1 - 1) / 8) = dbl (pwN ((i + 1 - 1) / 8)) := by
              rw [show (i + 1 + 1 - 1) / 8 = (i + 1 - 1) / 8 + 1 from by omega]; rfl
            refine ⟨⟨i + 1 + 1, by omega⟩, by simp only; omega, ?_⟩
            refine Weak.sel [0, 1, 5] rfl rfl ?_ ?_ rfl rfl
            · (repeat' (first | exact trivial | refine And.intro ?_ ?_ | fail)) <;> first | rfl | exact wk_i (by first | rfl | exact hp1.symm | fail) | exact wk_u8 (by first | exact hpw | fail) | fail
            · (repeat' (first | exact trivial | refine And.intro ?_ ?_ | fail)) <;> first | rfl | exact ren_eq (by first | (simp; done) | fail) (by first | rfl | fail) | exact ren_app2 (by first | (simp; done) | fail) (by first | rfl | fail) rfl | exact ren_colapp (by omega) (kcol_rot hin hz) | fail
          · have hm : ((((i + 1 : Nat) : Int)).tmod 8 == 0) = false := by rw [htm]; simp; omega
            refine brF hm ?_
            have hpw : pwN ((i + 1 + 1 - 1) / 8) = pwN ((i + 1 - 1) / 8) := by
              rw [show (i + 1 + 1 - 1) / 8 = (i + 1 - 1) / 8 from by omega]
            by_cases h8 : 8 = 8 ∧ (i + 1) % 8 = 4
            · skip
              have hm4 : ((((i + 1 : Nat) : Int)).tmod 8 == 4) = true := by rw [htm, h8.2]; rfl
              conv => whnf
              repeat (first | (refine brT rfl ?_; conv => whnf) | (refine Exists.intro _ (And.intro (sload_all rfl (by first | rfl | fail)) ?_); conv => whnf) | (refine gdT hm4 ?_; conv => whnf) | (refine Exists.intro _ (And.intro rfl ?_); conv => whnf) | fail)
              refine ok1_callF [1, 2] [false, false] true (hf84 _ _ _ _) rfl rfl ⟨⟨rfl, by first | rfl | fail⟩, by (repeat' (first | exact trivial | refine And.intro ?_ ?_)) <;> first | exact ren_eq (by first | (simp; done) | fail) (by first | rfl | fail) | exact ren_app2 (by first | (simp; done) | fail) (by first | rfl | fail) (by first | rfl | fail), by first | rfl | fail, by first | rfl | fail, ?_⟩
              conv => whnf
              repeat (first | (refine Exists.intro _ (And.intro (sload_all rfl (by first | rfl | fail)) ?_); conv => whnf) | (refine Exists.intro _ (And.intro (sput_all rfl (by first | rfl | fail)) ?_); conv => whnf) | (refine Exists.intro _ (And.intro (sload_end (by first | rfl | (simp [hl, hwl]; done) | fail)) ?_); conv => whnf) | (refine Exists.intro _ (And.intro (idx_i (m := i + 1 - 8) (by first | rfl | omega | fail)) ?_); conv => whnf) | (refine Exists.intro _ (And.intro (sload_col (i := 4 * (i + 1 - 8)) (by first | rfl | omega | fail) (by first | omega | fail)) ?_); conv => whnf) | (refine And.intro (by first | omega | (simp; done) | fail) ?_; conv => whnf) | fail)
              refine ok1_callP [] (f86 _ _ _ _ _ _ _ _) rfl rfl ⟨⟨rfl, by first | rfl | fail⟩, trivial, by first | rfl | fail, ?_⟩
              conv => whnf
              repeat (first | (refine Exists.intro _ (And.intro (sput_end (by first | rfl | (simp [hl, hwl]; done) | fail) rfl) ?_); conv => whnf) | (refine Exists.intro _ (And.intro rfl ?_); conv => whnf) | (refine And.intro (by first | omega | (simp; omega) | fail) ?_; conv => whnf) | (refine And.intro (by kernel_rfl) ?_; conv => whnf) | (refine And.intro ⟨by first | (simp [hl, hwl]; omega) | fail, by first | exact Nat.le_of_ble_eq_true rfl | fail, by first | (show _ * 4 ≤ _; omega) | fail⟩ ?_; conv => whnf) | fail)
              refine ⟨⟨i + 1 + 1, by omega⟩, by simp only; omega, ?_⟩
              refine Weak.sel [0, 1, 5] rfl rfl ?_ ?_ rfl rfl
              · (repeat' (first | exact trivial | refine And.intro ?_ ?_ | fail)) <;> first | rfl | exact wk_i (by first | rfl | exact hp1.symm | fail) | exact wk_u8 (by first | exact hpw | fail) | fail
              · (repeat' (first | exact trivial | refine And.intro ?_ ?_ | fail)) <;> first | rfl | exact ren_eq (by first | (simp; done) | fail) (by first | rfl | fail) | exact ren_app2 (by first | (simp; done) | fail) (by first | rfl | fail) rfl | exact ren_colapp (by omega) (kcol_sub hin hz h8) | fail
            · skip
              have hm4 : ((((i + 1 : Nat) : Int)).tmod 8 == 4) = false := by rw [htm]; simp; omega
              conv => whnf
              repeat (first | (refine brT rfl ?_; conv => whnf) | (refine Exists.intro _ (And.intro (sload_all rfl (by first | rfl | fail)) ?_); conv => whnf) | (refine Exists.intro _ (And.intro (sload_end (by first | rfl | (simp [hl, hwl]; done) | fail)) ?_); conv => whnf) | (refine gdF hm4 ?_; conv => whnf) | (refine Exists.intro _ (And.intro (idx_i (m := i + 1 - 8) (by first | rfl | omega | fail)) ?_); conv => whnf) | (refine Exists.intro _ (And.intro (sload_col (i := 4 * (i + 1 - 8)) (by first | rfl | omega | fail) (by first | omega | fail)) ?_); conv => whnf) | (refine Exists.intro _ (And.intro rfl ?_); conv => whnf) | (refine And.intro (by first | omega | fail) ?_; conv => whnf) | fail)
              refine ok1_callP [] (f86 _ _ _ _ _ _ _ _) rfl rfl ⟨⟨rfl, by first | rfl | fail⟩, trivial, by first | rfl | fail, ?_⟩
              conv => whnf
              repeat (first | (refine Exists.intro _ (And.intro (sput_end (by first | rfl | (simp [hl, hwl]; done) | fail) rfl) ?_); conv => whnf) | (refine Exists.intro _ (And.intro rfl ?_); conv => whnf) | (refine And.intro (by first | omega | (simp; omega) | fail) ?_; conv => whnf) | (refine And.intro (by kernel_rfl) ?_; conv => whnf) | (refine And.intro ⟨by first | (simp [hl, hwl]; omega) | fail, by first | exact Nat.le_of_ble_eq_true rfl | fail, by first | (show _ * 4 ≤ _; omega) | fail⟩ ?_; conv => whnf) | fail)
              refine ⟨⟨i + 1 + 1, by omega⟩, by simp only; omega, ?_⟩
              refine Weak.sel [0, 1, 5] rfl rfl ?_ ?_ rfl rfl
              · (repeat' (first | exact trivial | refine And.intro ?_ ?_ | fail)) <;> first | rfl | exact wk_i (by first | rfl | exact hp1.symm | fail) | exact wk_u8 (by first | exact hpw | fail) | fail
              · (repeat' (first | exact trivial | refine And.intro ?_ ?_ | fail)) <;> first | rfl | exact ren_eq (by first | (simp; done) | fail) (by first | rfl | fail) | exact ren_app2 (by first | (simp; done) | fail) (by first | rfl | fail) rfl | exact ren_colapp (by omega) (kcol_xor hin hz h8) | fail
      · obtain rfl : i = 60 - 1 := by simp at hc; omega
        conv => whnf
        refine ⟨[0, 1, 2], ?_, rfl, rfl, ?_, rfl⟩
        · (repeat' (first | (refine wk_tup ?_) | (refine wk_cons ?_ ?_))) <;> first | rfl | fail
        · (repeat' (first | exact trivial | refine And.intro ?_ ?_ | fail)) <;> first | rfl | exact ren_eq (by first | (simp; done) | fail) (by first | rfl | fail) | exact ren_app2 (by first | (simp; done) | fail) (by first | rfl | fail) rfl | fail
end Go.Sh
/- aes's reference: Columns (f50). -/
namespace Go.Sh
open Go.Proofs
set_option maxHeartbeats 8000000
set_option linter.unusedSimpArgs false

theorem app_one {l : List UInt8} {n : Nat} {y : UInt8} (h : l.length = n) : List.take (n * 1) (List.drop 0 (l.map SV.u8)) ++ List.take (1 * 1) (List.drop 0 [SV.u8 y]) = (l ++ [y]).map SV.u8 := by
  rw [List.drop_zero, List.take_of_length_le (by simp; omega)]; simp
/-- The reference's next column's first part. -/
def tK (key : List UInt8) (n i : Nat) : List UInt8 :=
  if i % n = 0 then rotC (pwN ((i - 1) / n)) (colN (wSt key n i) (i - 1)) else if n = 8 ∧ i % n = 4 then subC (colN (wSt key n i) (i - 1)) else colN (wSt key n i) (i - 1)
theorem tK_len (key : List UInt8) (n i : Nat) : (tK key n i).length = 4 := by
  unfold tK
  split
  · rfl
  · split <;> rfl
def xK (key : List UInt8) (n i : Nat) (k : Nat) : UInt8 := (tK key n i).getD k 0 ^^^ (wSt key n i).getD (4 * (i - n) + k) 0
def wK (key : List UInt8) (n i k : Nat) : List UInt8 := wSt key n i ++ (List.range k).map (xK key n i)
theorem wK_len (key : List UInt8) (n i k : Nat) : (wK key n i k).length = 4 * i + k := by unfold wK; rw [List.length_append, wSt_len, rng_len]
theorem wK_s (key : List UInt8) (n i k : Nat) : wK key n i k ++ [xK key n i k] = wK key n i (k + 1) := by unfold wK; rw [rng_succ, List.append_assoc]
theorem wK_4 (key : List UInt8) (n i : Nat) (h : n ≤ i) : wK key n i 4 = wSt key n (i + 1) := by
  rw [wSt_s]
  unfold wK kcol
  rw [if_neg (by omega)]
  have : (List.range 4).map (xK key n i) = xor4 (tK key n i) (colN (wSt key n i) (i - n)) := by
    have ht := tK_len key n i
    obtain ⟨a, b, c, d, h4⟩ := ex4 ht
    have hr : List.range 4 = [0, 1, 2, 3] := by decide
    rw [hr]
    simp only [List.map_cons, List.map_nil, xK, h4, xor4, colN]
    rfl
  rw [this]
  rfl
theorem wK_getD (key : List UInt8) (n i k j : Nat) (h : j < 4 * i) : (wK key n i k).getD j 0 = (wSt key n i).getD j 0 := by
  unfold wK; rw [getD_app_l]; rw [wSt_len]; exact h
theorem colN_key (key : List UInt8) (i : Nat) (h : 4 * i + 4 ≤ key.length) : key.take (4 * i) ++ colN key i = key.take (4 * (i + 1)) := by
  apply List.ext_getElem?
  intro j
  by_cases h1 : j < 4 * i
  · rw [List.getElem?_append_left (by simp; omega), List.getElem?_take_of_lt h1, List.getElem?_take_of_lt (by omega)]
  · rw [List.getElem?_append_right (by simp; omega)]
    have hl : (key.take (4 * i)).length = 4 * i := by simp; omega
    rw [hl]
    by_cases h2 : j < 4 * (i + 1)
    · rw [List.getElem?_take_of_lt h2]
      have : j = 4 * i + 0 ∨ j = 4 * i + 1 ∨ j = 4 * i + 2 ∨ j = 4 * i + 3 := by omega
      have e : ∀ q, q < 4 → key[4 * i + q]? = some (key.getD (4 * i + q) 0) := fun q hq => by
        rw [List.getD_eq_getElem?_getD, List.getElem?_eq_getElem (by omega)]; rfl
      rcases this with rfl | rfl | rfl | rfl
      · rw [e 0 (by omega), show 4 * i + 0 - 4 * i = 0 by omega]; rfl
      · rw [e 1 (by omega), show 4 * i + 1 - 4 * i = 1 by omega]; rfl
      · rw [e 2 (by omega), show 4 * i + 2 - 4 * i = 2 by omega]; rfl
      · rw [e 3 (by omega), show 4 * i + 3 - 4 * i = 3 by omega]; rfl
    · rw [List.getElem?_eq_none (by simp [colN]; omega), List.getElem?_eq_none (by simp; omega)]
theorem wSt_key (key : List UInt8) (n : Nat) (h : key.length = 4 * n) : ∀ i, i ≤ n → wSt key n i = key.take (4 * i)
  | 0, _ => by rw [wSt_z]; rfl
  | i + 1, hi => by
    rw [wSt_s, wSt_key key n h i (by omega)]
    unfold kcol
    rw [if_pos (by omega)]
    exact colN_key key i (by omega)
theorem wSt_key' (key : List UInt8) (n : Nat) (h : key.length = 4 * n) : wSt key n n = key := by
  rw [wSt_key key n h n (Nat.le_refl _), ← h, List.take_length]
theorem cut_col {l : List UInt8} {a b : Nat} (i : Nat) (ha : a = 4 * i) (hb : b = 4) (h : 4 * i + 4 ≤ l.length) : List.take b (List.drop a (l.map SV.u8)) = (colN l i).map SV.u8 := by
  subst ha; subst hb
  have := sload_col (l := l) (k := 4 * i) rfl h
  simp only [sload, if_true] at this
  rw [if_pos (by simpa using h)] at this
  simp only [Option.some.injEq, SV.agg.injEq] at this
  rw [this]; rfl
theorem w10_4 (i n k : Nat) (h : i ≤ 1000) (hn : n ≤ i) (hk : k ≤ 4) : w64 (w64 (4 * w64 ((i : Int) - (n : Int))) + (k : Int)) = ((4 * (i - n) + k : Nat) : Int) := by simp only [w64_eq]; omega
theorem w10_44 (i : Nat) (h : i ≤ 1000) (hn : 1 ≤ i) : w64 (w64 (4 * (i : Int)) - 4) = ((4 * i - 4 : Nat) : Int) := by simp only [w64_eq]; omega

theorem f50_4 (fb fk : Bool) (key : List UInt8) (hk : key.length = 16) : SCall Try.prog 50 [.sl 0 0 256 1 fb, .sl 1 0 16 1 fk] [some (.ro (sbx.map .u8)), some (.ro (key.map .u8))] (.sl 2 0 (4 * 44) 1 false) [some (.ro (sbx.map .u8)), some (.ro (key.map .u8)), some (.row 5 ((wSt key 4 44).map .u8))] := by
  have hl := sbx_len
  refine scall_of ttOk (by kernel_rfl : Try.prog.funcs[50]? = some Try.f50) rfl rfl rfl ?_
  refine sw_ok ttOk mixed (by kernel_rfl) ?_
  conv => whnf
  repeat (first | (refine Exists.intro _ (And.intro rfl ?_); conv => whnf) | (refine And.intro (by first | omega | (simp [ti5]; omega)) ?_; conv => whnf) | fail)
  refine loop_rule ttOk mixed (by kernel_rfl) (ι := { i : Nat // 4 ≤ i ∧ i ≤ 44 }) (fun i => [(0, .sl 0 0 256 1 fb), (1, .sl 1 0 16 1 fk), (5, .i 4), (6, .sl 2 0 (4 * i.1) 1 false), (7, .u8 (pwN ((i.1 - 1) / 4))), (8, .i (i.1 : Int))]) (fun i => [some (.ro (sbx.map .u8)), some (.ro (key.map .u8)), some (.row 5 ((wSt key 4 i.1).map .u8))]) (fun _ => 3) (fun i => 44 - i.1) ⟨4, by omega, by omega⟩ ?_ ?_
  · have hk0 : (wSt key 4 4).map SV.u8 = List.take 16 (List.drop 0 (key.map SV.u8)) := by
      rw [wSt_key' key 4 (by omega), List.drop_zero, List.take_of_length_le (by simp; omega)]
    refine Weak.sel [0, 1, 3] rfl rfl ?_ ?_ rfl rfl
    · (repeat' (first | exact trivial | refine And.intro ?_ ?_ | fail)) <;> first | rfl | exact wk_u8 (by first | (simp [hk0, pwN]; done) | fail) | fail
    · (repeat' (first | exact trivial | refine And.intro ?_ ?_ | fail)) <;> first | rfl | exact ren_eq (by first | (simp; done) | fail) (by first | rfl | exact hk0 | fail) | fail
  · rintro ⟨i, hi1, hi⟩
    have hwl := wSt_len key 4 i
    dsimp only
    by_cases hi2 : i < 44
    · have hlt : decide ((i : Int) < w64 (4 * w64 (4 + 7))) = true := by rw [show w64 (4 * w64 (4 + 7)) = 44 by decide]; simp; omega
      have hp1 := w6_p1 i (by omega)
      have h4 := w64_4 i (by omega)
      have h44 := w10_44 i (by omega) (by omega)
      have htm : ((i : Int)).tmod 4 = ((i % 4 : Nat) : Int) := tmod_n i 4
      have htl := tK_len key 4 i
      have hw0 : wK key 4 i 0 = wSt key 4 i := by unfold wK; simp
      conv => whnf
      first | refine brT (by exact hlt) ?_ | fail
      conv => whnf
      repeat (first | (refine Exists.intro _ (And.intro (idx_i (m := 4 * i - 4) (by first | rfl | omega | fail)) ?_); conv => whnf) | (refine Exists.intro _ (And.intro (idx_i (m := 4 * i) (by first | rfl | omega | fail)) ?_); conv => whnf) | (refine Exists.intro _ (And.intro rfl ?_); conv => whnf) | (refine And.intro (by first | omega | (simp [ti5]; omega)) ?_; conv => whnf) | fail)
      have hcut : List.take (0 * ti5.sz) (List.drop 0 (reps 0 (SV.u8 0).cells)) ++ List.take ((4 * i - (4 * i - 4)) * ti5.sz) (List.drop (0 + (4 * i - 4) * 1) (SB.row 5 (List.map SV.u8 (wSt key 4 i))).cells) = (colN (wSt key 4 i) (i - 1)).map SV.u8 := cut_col (i - 1) (by omega) (show (4 * i - (4 * i - 4)) * 1 = 4 by omega) (by omega)
      rw [hcut]
      have hcl : (colN (wSt key 4 i) (i - 1)).length = 4 := rfl
      have hb0 : ((colN (wSt key 4 i) (i - 1)).getD 0 0).toNat < 256 := UInt8.toNat_lt _
      have hb1 : ((colN (wSt key 4 i) (i - 1)).getD 1 0).toNat < 256 := UInt8.toNat_lt _
      have hb2 : ((colN (wSt key 4 i) (i - 1)).getD 2 0).toNat < 256 := UInt8.toNat_lt _
      have hb3 : ((colN (wSt key 4 i) (i - 1)).getD 3 0).toNat < 256 := UInt8.toNat_lt _
      by_cases hz : i % 4 = 0
      · have hm : ((i : Int).tmod 4 == 0) = true := by rw [htm, hz]; rfl
        have hpw : pwN (i / 4) = tmSt 8 0 (pwN ((i - 1) / 4)) 2 := by
          rw [tm_2, show i / 4 = (i - 1) / 4 + 1 from by omega]; rfl
        have htk : tK key 4 i = [sb ((colN (wSt key 4 i) (i - 1)).getD 1 0) ^^^ pwN ((i - 1) / 4), sb ((colN (wSt key 4 i) (i - 1)).getD 2 0), sb ((colN (wSt key 4 i) (i - 1)).getD 3 0), sb ((colN (wSt key 4 i) (i - 1)).getD 0 0)] := by
          unfold tK; rw [if_pos hz]; rfl
        have htk2 := congrArg (List.map SV.u8) htk
        first | refine brT (by exact hm) ?_ | fail
        conv => whnf
        repeat (first | (refine Exists.intro _ (And.intro (sload_u8 (i := 1) (by first | rfl | fail) (by first | omega | fail)) ?_); conv => whnf) | (refine Exists.intro _ (And.intro (idx_i (m := 1) (by first | rfl | fail)) ?_); conv => whnf) | (refine Exists.intro _ (And.intro (sload_u8 (i := 2) (by first | rfl | fail) (by first | omega | fail)) ?_); conv => whnf) | (refine Exists.intro _ (And.intro (idx_i (m := 2) (by first | rfl | fail)) ?_); conv => whnf) | (refine Exists.intro _ (And.intro (sload_u8 (i := 3) (by first | rfl | fail) (by first | omega | fail)) ?_); conv => whnf) | (refine Exists.intro _ (And.intro (idx_i (m := 3) (by first | rfl | fail)) ?_); conv => whnf) | (refine Exists.intro _ (And.intro (sload_u8 (i := 0) (by first | rfl | fail) (by first | omega | fail)) ?_); conv => whnf) | (refine Exists.intro _ (And.intro (idx_i (m := 0) (by first | rfl | fail)) ?_); conv => whnf) | (refine Exists.intro _ (And.intro (sload_u8 (i := ((colN (wSt key 4 i) (i - 1)).getD 1 0).toNat) (by first | rfl | omega | fail) (by first | omega | fail)) ?_); conv => whnf) | (refine Exists.intro _ (And.intro (sload_u8 (i := ((colN (wSt key 4 i) (i - 1)).getD 2 0).toNat) (by first | rfl | omega | fail) (by first | omega | fail)) ?_); conv => whnf) | (refine Exists.intro _ (And.intro (sload_u8 (i := ((colN (wSt key 4 i) (i - 1)).getD 3 0).toNat) (by first | rfl | omega | fail) (by first | omega | fail)) ?_); conv => whnf) | (refine Exists.intro _ (And.intro (sload_u8 (i := ((colN (wSt key 4 i) (i - 1)).getD 0 0).toNat) (by first | rfl | omega | fail) (by first | omega | fail)) ?_); conv => whnf) | (refine Exists.intro _ (And.intro rfl ?_); conv => whnf) | (refine And.intro (by first | omega | fail) ?_; conv => whnf) | (refine And.intro (by kernel_rfl) ?_; conv => whnf) | fail)
        refine ok1_callP [] (f81 (pwN ((i - 1) / 4)) 2) rfl rfl ⟨⟨rfl, by first | rfl | fail⟩, trivial, by first | rfl | fail, ?_⟩
        conv => whnf
        repeat (fail)
        refine loop_rule ttOk mixed (by kernel_rfl) (ι := { k : Nat // k ≤ 4 }) (fun k => [(0, .sl 0 0 256 1 fb), (1, .sl 1 0 16 1 fk), (5, .i 4), (6, .sl 2 0 (4 * i + k.1) 1 false), (7, .u8 (pwN (i / 4))), (8, .i (i : Int)), (9, .sl 3 0 4 1 true), (10, .i (k.1 : Int))]) (fun k => [some (.ro (sbx.map .u8)), some (.ro (key.map .u8)), some (.row 5 ((wK key 4 i k.1).map .u8)), some (.row 5 ((tK key 4 i).map .u8))]) (fun _ => 4) (fun k => 4 - k.1) ⟨0, by omega⟩ ?_ ?_
        · refine Weak.sel [0, 1, 2, 5] rfl rfl ?_ ?_ rfl rfl
          · (repeat' (first | exact trivial | refine And.intro ?_ ?_ | fail)) <;> first | rfl | exact wk_u8 (by first | exact hpw | fail) | fail
          · (repeat' (first | exact trivial | refine And.intro ?_ ?_ | fail)) <;> first | exact ren_m8 (by first | exact hw0 | fail) | rfl | exact ren_eq (by first | (simp; done) | fail) (by first | rfl | fail) | exact ren_eq (plainL_u8 _) htk2 | fail
        · rintro ⟨k, hk⟩
          have hwk := wK_len key 4 i k
          dsimp only
          by_cases hk2 : k < 4
          · have hlt2 : decide ((k : Int) < 4) = true := by simp; omega
            have hp2 := w6_p1 k (by omega)
            have h10 := w10_4 i 4 k (by omega) (by omega) (by omega)
            have hx : (tK key 4 i).getD k 0 ^^^ (wK key 4 i k).getD (4 * (i - 4) + k) 0 = xK key 4 i k := by
              unfold xK; rw [wK_getD]; omega
            have happ : List.take ((4 * i + k) * 1) (List.drop 0 ((wK key 4 i k).map SV.u8)) ++ List.take (1 * 1) (List.drop 0 [SV.u8 ((tK key 4 i).getD k 0 ^^^ (wK key 4 i k).getD (4 * (i - 4) + k) 0)]) = (wK key 4 i (k + 1)).map SV.u8 := by
              rw [app_one hwk, hx, wK_s]
            conv => whnf
            first | refine brT (by exact hlt2) ?_ | fail
            conv => whnf
            repeat (first | (refine Exists.intro _ (And.intro (sload_u8 (i := k) (by first | rfl | omega | fail) (by first | omega | fail)) ?_); conv => whnf) | (refine Exists.intro _ (And.intro (idx_i (m := k) (by first | rfl | fail)) ?_); conv => whnf) | (refine Exists.intro _ (And.intro (sload_u8 (i := 4 * (i - 4) + k) (by first | rfl | omega | fail) (by first | omega | fail)) ?_); conv => whnf) | (refine Exists.intro _ (And.intro (idx_i (m := 4 * (i - 4) + k) (by first | rfl | omega | fail)) ?_); conv => whnf) | (refine Exists.intro _ (And.intro rfl ?_); conv => whnf) | (refine And.intro (by first | omega | (simp [ti5]; omega)) ?_; conv => whnf) | (refine And.intro (by kernel_rfl) ?_; conv => whnf) | fail)
            refine ⟨⟨k + 1, by omega⟩, by simp only; omega, ?_⟩
            refine Weak.sel [0, 1, 5, 3] rfl rfl ?_ ?_ rfl rfl
            · (repeat' (first | exact trivial | refine And.intro ?_ ?_ | fail)) <;> first | rfl | exact wk_i (by first | exact hp2.symm | fail) | fail
            · (repeat' (first | exact trivial | refine And.intro ?_ ?_ | fail)) <;> first | rfl | exact ren_eq (by first | (simp; done) | fail) (by first | rfl | exact happ.symm | fail) | fail
          · obtain rfl : k = 4 := by omega
            conv => whnf
            first | refine brF (by rfl) ?_ | fail
            conv => whnf
            repeat (fail)
            have hw4 : wSt key 4 (i + 1) = wK key 4 i 4 := (wK_4 key 4 i (by omega)).symm
            refine ⟨⟨i + 1, by omega, by omega⟩, by simp only; omega, ?_⟩
            refine Weak.sel [0, 1, 2] rfl rfl ?_ ?_ rfl rfl
            · (repeat' (first | exact trivial | refine And.intro ?_ ?_ | fail)) <;> first | rfl | exact wk_i (by first | exact hp1.symm | fail) | fail
            · (repeat' (first | exact trivial | refine And.intro ?_ ?_ | fail)) <;> first | exact ren_m8 (by first | exact hw4 | fail) | rfl | exact ren_eq (by first | (simp; done) | fail) (by first | rfl | fail) | fail
      · have hm : ((i : Int).tmod 4 == 0) = false := by rw [htm]; simp; omega
        have hpw : pwN (i / 4) = pwN ((i - 1) / 4) := by
          rw [show i / 4 = (i - 1) / 4 from by omega]
        by_cases h8 : 4 = 8 ∧ i % 4 = 4
        · skip
          exact absurd h8.1 (by decide)

        · skip
          have htk : tK key 4 i = colN (wSt key 4 i) (i - 1) := by unfold tK; rw [if_neg hz, if_neg h8]
          have htk2 := congrArg (List.map SV.u8) htk
          first | refine brF (by exact hm) ?_ | fail
          conv => whnf
          repeat (first | (refine brF rfl ?_; conv => whnf) | (refine Exists.intro _ (And.intro rfl ?_); conv => whnf) | fail)
          refine loop_rule ttOk mixed (by kernel_rfl) (ι := { k : Nat // k ≤ 4 }) (fun k => [(0, .sl 0 0 256 1 fb), (1, .sl 1 0 16 1 fk), (5, .i 4), (6, .sl 2 0 (4 * i + k.1) 1 false), (7, .u8 (pwN (i / 4))), (8, .i (i : Int)), (9, .sl 3 0 4 1 false), (10, .i (k.1 : Int))]) (fun k => [some (.ro (sbx.map .u8)), some (.ro (key.map .u8)), some (.row 5 ((wK key 4 i k.1).map .u8)), some (.row 5 ((tK key 4 i).map .u8))]) (fun _ => 4) (fun k => 4 - k.1) ⟨0, by omega⟩ ?_ ?_
          · refine Weak.sel [0, 1, 2, 4] rfl rfl ?_ ?_ rfl rfl
            · (repeat' (first | exact trivial | refine And.intro ?_ ?_ | fail)) <;> first | rfl | exact wk_sl rfl (by first | rfl | fail) (by first | rfl | omega | fail) | exact wk_u8 (by first | exact hpw | fail) | fail
            · (repeat' (first | exact trivial | refine And.intro ?_ ?_ | fail)) <;> first | exact ren_m8 (by first | exact hw0 | exact htk | fail) | rfl | exact ren_eq (by first | (simp; done) | fail) (by first | rfl | fail) | fail
          · rintro ⟨k, hk⟩
            have hwk := wK_len key 4 i k
            dsimp only
            by_cases hk2 : k < 4
            · have hlt2 : decide ((k : Int) < 4) = true := by simp; omega
              have hp2 := w6_p1 k (by omega)
              have h10 := w10_4 i 4 k (by omega) (by omega) (by omega)
              have hx : (tK key 4 i).getD k 0 ^^^ (wK key 4 i k).getD (4 * (i - 4) + k) 0 = xK key 4 i k := by
                unfold xK; rw [wK_getD]; omega
              have happ : List.take ((4 * i + k) * 1) (List.drop 0 ((wK key 4 i k).map SV.u8)) ++ List.take (1 * 1) (List.drop 0 [SV.u8 ((tK key 4 i).getD k 0 ^^^ (wK key 4 i k).getD (4 * (i - 4) + k) 0)]) = (wK key 4 i (k + 1)).map SV.u8 := by
                rw [app_one hwk, hx, wK_s]
              conv => whnf
              first | refine brT (by exact hlt2) ?_ | fail
              conv => whnf
              repeat (first | (refine Exists.intro _ (And.intro (sload_u8 (i := k) (by first | rfl | omega | fail) (by first | omega | fail)) ?_); conv => whnf) | (refine Exists.intro _ (And.intro (idx_i (m := k) (by first | rfl | fail)) ?_); conv => whnf) | (refine Exists.intro _ (And.intro (sload_u8 (i := 4 * (i - 4) + k) (by first | rfl | omega | fail) (by first | omega | fail)) ?_); conv => whnf) | (refine Exists.intro _ (And.intro (idx_i (m := 4 * (i - 4) + k) (by first | rfl | omega | fail)) ?_); conv => whnf) | (refine Exists.intro _ (And.intro rfl ?_); conv => whnf) | (refine And.intro (by first | omega | (simp [ti5]; omega)) ?_; conv => whnf) | (refine And.intro (by kernel_rfl) ?_; conv => whnf) | fail)
              refine ⟨⟨k + 1, by omega⟩, by simp only; omega, ?_⟩
              refine Weak.sel [0, 1, 5, 3] rfl rfl ?_ ?_ rfl rfl
              · (repeat' (first | exact trivial | refine And.intro ?_ ?_ | fail)) <;> first | rfl | exact wk_i (by first | exact hp2.symm | fail) | fail
              · (repeat' (first | exact trivial | refine And.intro ?_ ?_ | fail)) <;> first | rfl | exact ren_eq (by first | (simp; done) | fail) (by first | rfl | exact happ.symm | fail) | fail
            · obtain rfl : k = 4 := by omega
              conv => whnf
              first | refine brF (by rfl) ?_ | fail
              conv => whnf
              repeat (fail)
              have hw4 : wSt key 4 (i + 1) = wK key 4 i 4 := (wK_4 key 4 i (by omega)).symm
              refine ⟨⟨i + 1, by omega, by omega⟩, by simp only; omega, ?_⟩
              refine Weak.sel [0, 1, 2] rfl rfl ?_ ?_ rfl rfl
              · (repeat' (first | exact trivial | refine And.intro ?_ ?_ | fail)) <;> first | rfl | exact wk_i (by first | exact hp1.symm | fail) | fail
              · (repeat' (first | exact trivial | refine And.intro ?_ ?_ | fail)) <;> first | exact ren_m8 (by first | exact hw4 | fail) | rfl | exact ren_eq (by first | (simp; done) | fail) (by first | rfl | fail) | fail
    · obtain rfl : i = 44 := by omega
      conv => whnf
      first | refine brF (by rfl) ?_ | fail
      conv => whnf
      repeat (fail)
      refine ⟨[0, 1, 2], ?_, rfl, rfl, ?_, rfl⟩
      · (repeat' (fail)) <;> first | rfl | fail
      · (repeat' (first | exact trivial | refine And.intro ?_ ?_ | fail)) <;> first | rfl | exact ren_eq (by first | (simp; done) | fail) (by first | rfl | fail) | fail
theorem f50_8 (fb fk : Bool) (key : List UInt8) (hk : key.length = 32) : SCall Try.prog 50 [.sl 0 0 256 1 fb, .sl 1 0 32 1 fk] [some (.ro (sbx.map .u8)), some (.ro (key.map .u8))] (.sl 2 0 (4 * 60) 1 false) [some (.ro (sbx.map .u8)), some (.ro (key.map .u8)), some (.row 5 ((wSt key 8 60).map .u8))] := by
  have hl := sbx_len
  refine scall_of ttOk (by kernel_rfl : Try.prog.funcs[50]? = some Try.f50) rfl rfl rfl ?_
  refine sw_ok ttOk mixed (by kernel_rfl) ?_
  conv => whnf
  repeat (first | (refine Exists.intro _ (And.intro rfl ?_); conv => whnf) | (refine And.intro (by first | omega | (simp [ti5]; omega)) ?_; conv => whnf) | fail)
  refine loop_rule ttOk mixed (by kernel_rfl) (ι := { i : Nat // 8 ≤ i ∧ i ≤ 60 }) (fun i => [(0, .sl 0 0 256 1 fb), (1, .sl 1 0 32 1 fk), (5, .i 8), (6, .sl 2 0 (4 * i.1) 1 false), (7, .u8 (pwN ((i.1 - 1) / 8))), (8, .i (i.1 : Int))]) (fun i => [some (.ro (sbx.map .u8)), some (.ro (key.map .u8)), some (.row 5 ((wSt key 8 i.1).map .u8))]) (fun _ => 3) (fun i => 60 - i.1) ⟨8, by omega, by omega⟩ ?_ ?_
  · have hk0 : (wSt key 8 8).map SV.u8 = List.take 32 (List.drop 0 (key.map SV.u8)) := by
      rw [wSt_key' key 8 (by omega), List.drop_zero, List.take_of_length_le (by simp; omega)]
    refine Weak.sel [0, 1, 3] rfl rfl ?_ ?_ rfl rfl
    · (repeat' (first | exact trivial | refine And.intro ?_ ?_ | fail)) <;> first | rfl | exact wk_u8 (by first | (simp [hk0, pwN]; done) | fail) | fail
    · (repeat' (first | exact trivial | refine And.intro ?_ ?_ | fail)) <;> first | rfl | exact ren_eq (by first | (simp; done) | fail) (by first | rfl | exact hk0 | fail) | fail
  · rintro ⟨i, hi1, hi⟩
    have hwl := wSt_len key 8 i
    dsimp only
    by_cases hi2 : i < 60
    · have hlt : decide ((i : Int) < w64 (4 * w64 (8 + 7))) = true := by rw [show w64 (4 * w64 (8 + 7)) = 60 by decide]; simp; omega
      have hp1 := w6_p1 i (by omega)
      have h4 := w64_4 i (by omega)
      have h44 := w10_44 i (by omega) (by omega)
      have htm : ((i : Int)).tmod 8 = ((i % 8 : Nat) : Int) := tmod_n i 8
      have htl := tK_len key 8 i
      have hw0 : wK key 8 i 0 = wSt key 8 i := by unfold wK; simp
      conv => whnf
      first | refine brT (by exact hlt) ?_ | fail
      conv => whnf
      repeat (first | (refine Exists.intro _ (And.intro (idx_i (m := 4 * i - 4) (by first | rfl | omega | fail)) ?_); conv => whnf) | (refine Exists.intro _ (And.intro (idx_i (m := 4 * i) (by first | rfl | omega | fail)) ?_); conv => whnf) | (refine Exists.intro _ (And.intro rfl ?_); conv => whnf) | (refine And.intro (by first | omega | (simp [ti5]; omega)) ?_; conv => whnf) | fail)
      have hcut : List.take (0 * ti5.sz) (List.drop 0 (reps 0 (SV.u8 0).cells)) ++ List.take ((4 * i - (4 * i - 4)) * ti5.sz) (List.drop (0 + (4 * i - 4) * 1) (SB.row 5 (List.map SV.u8 (wSt key 8 i))).cells) = (colN (wSt key 8 i) (i - 1)).map SV.u8 := cut_col (i - 1) (by omega) (show (4 * i - (4 * i - 4)) * 1 = 4 by omega) (by omega)
      rw [hcut]
      have hcl : (colN (wSt key 8 i) (i - 1)).length = 4 := rfl
      have hb0 : ((colN (wSt key 8 i) (i - 1)).getD 0 0).toNat < 256 := UInt8.toNat_lt _
      have hb1 : ((colN (wSt key 8 i) (i - 1)).getD 1 0).toNat < 256 := UInt8.toNat_lt _
      have hb2 : ((colN (wSt key 8 i) (i - 1)).getD 2 0).toNat < 256 := UInt8.toNat_lt _
      have hb3 : ((colN (wSt key 8 i) (i - 1)).getD 3 0).toNat < 256 := UInt8.toNat_lt _
      by_cases hz : i % 8 = 0
      · have hm : ((i : Int).tmod 8 == 0) = true := by rw [htm, hz]; rfl
        have hpw : pwN (i / 8) = tmSt 8 0 (pwN ((i - 1) / 8)) 2 := by
          rw [tm_2, show i / 8 = (i - 1) / 8 + 1 from by omega]; rfl
        have htk : tK key 8 i = [sb ((colN (wSt key 8 i) (i - 1)).getD 1 0) ^^^ pwN ((i - 1) / 8), sb ((colN (wSt key 8 i) (i - 1)).getD 2 0), sb ((colN (wSt key 8 i) (i - 1)).getD 3 0), sb ((colN (wSt key 8 i) (i - 1)).getD 0 0)] := by
          unfold tK; rw [if_pos hz]; rfl
        have htk2 := congrArg (List.map SV.u8) htk
        first | refine brT (by exact hm) ?_ | fail
        conv => whnf
        repeat (first | (refine Exists.intro _ (And.intro (sload_u8 (i := 1) (by first | rfl | fail) (by first | omega | fail)) ?_); conv => whnf) | (refine Exists.intro _ (And.intro (idx_i (m := 1) (by first | rfl | fail)) ?_); conv => whnf) | (refine Exists.intro _ (And.intro (sload_u8 (i := 2) (by first | rfl | fail) (by first | omega | fail)) ?_); conv => whnf) | (refine Exists.intro _ (And.intro (idx_i (m := 2) (by first | rfl | fail)) ?_); conv => whnf) | (refine Exists.intro _ (And.intro (sload_u8 (i := 3) (by first | rfl | fail) (by first | omega | fail)) ?_); conv => whnf) | (refine Exists.intro _ (And.intro (idx_i (m := 3) (by first | rfl | fail)) ?_); conv => whnf) | (refine Exists.intro _ (And.intro (sload_u8 (i := 0) (by first | rfl | fail) (by first | omega | fail)) ?_); conv => whnf) | (refine Exists.intro _ (And.intro (idx_i (m := 0) (by first | rfl | fail)) ?_); conv => whnf) | (refine Exists.intro _ (And.intro (sload_u8 (i := ((colN (wSt key 8 i) (i - 1)).getD 1 0).toNat) (by first | rfl | omega | fail) (by first | omega | fail)) ?_); conv => whnf) | (refine Exists.intro _ (And.intro (sload_u8 (i := ((colN (wSt key 8 i) (i - 1)).getD 2 0).toNat) (by first | rfl | omega | fail) (by first | omega | fail)) ?_); conv => whnf) | (refine Exists.intro _ (And.intro (sload_u8 (i := ((colN (wSt key 8 i) (i - 1)).getD 3 0).toNat) (by first | rfl | omega | fail) (by first | omega | fail)) ?_); conv => whnf) | (refine Exists.intro _ (And.intro (sload_u8 (i := ((colN (wSt key 8 i) (i - 1)).getD 0 0).toNat) (by first | rfl | omega | fail) (by first | omega | fail)) ?_); conv => whnf) | (refine Exists.intro _ (And.intro rfl ?_); conv => whnf) | (refine And.intro (by first | omega | fail) ?_; conv => whnf) | (refine And.intro (by kernel_rfl) ?_; conv => whnf) | fail)
        refine ok1_callP [] (f81 (pwN ((i - 1) / 8)) 2) rfl rfl ⟨⟨rfl, by first | rfl | fail⟩, trivial, by first | rfl | fail, ?_⟩
        conv => whnf
        repeat (fail)
        refine loop_rule ttOk mixed (by kernel_rfl) (ι := { k : Nat // k ≤ 4 }) (fun k => [(0, .sl 0 0 256 1 fb), (1, .sl 1 0 32 1 fk), (5, .i 8), (6, .sl 2 0 (4 * i + k.1) 1 false), (7, .u8 (pwN (i / 8))), (8, .i (i : Int)), (9, .sl 3 0 4 1 true), (10, .i (k.1 : Int))]) (fun k => [some (.ro (sbx.map .u8)), some (.ro (key.map .u8)), some (.row 5 ((wK key 8 i k.1).map .u8)), some (.row 5 ((tK key 8 i).map .u8))]) (fun _ => 4) (fun k => 4 - k.1) ⟨0, by omega⟩ ?_ ?_
        · refine Weak.sel [0, 1, 2, 5] rfl rfl ?_ ?_ rfl rfl
          · (repeat' (first | exact trivial | refine And.intro ?_ ?_ | fail)) <;> first | rfl | exact wk_u8 (by first | exact hpw | fail) | fail
          · (repeat' (first | exact trivial | refine And.intro ?_ ?_ | fail)) <;> first | exact ren_m8 (by first | exact hw0 | fail) | rfl | exact ren_eq (by first | (simp; done) | fail) (by first | rfl | fail) | exact ren_eq (plainL_u8 _) htk2 | fail
        · rintro ⟨k, hk⟩
          have hwk := wK_len key 8 i k
          dsimp only
          by_cases hk2 : k < 4
          · have hlt2 : decide ((k : Int) < 4) = true := by simp; omega
            have hp2 := w6_p1 k (by omega)
            have h10 := w10_4 i 8 k (by omega) (by omega) (by omega)
            have hx : (tK key 8 i).getD k 0 ^^^ (wK key 8 i k).getD (4 * (i - 8) + k) 0 = xK key 8 i k := by
              unfold xK; rw [wK_getD]; omega
            have happ : List.take ((4 * i + k) * 1) (List.drop 0 ((wK key 8 i k).map SV.u8)) ++ List.take (1 * 1) (List.drop 0 [SV.u8 ((tK key 8 i).getD k 0 ^^^ (wK key 8 i k).getD (4 * (i - 8) + k) 0)]) = (wK key 8 i (k + 1)).map SV.u8 := by
              rw [app_one hwk, hx, wK_s]
            conv => whnf
            first | refine brT (by exact hlt2) ?_ | fail
            conv => whnf
            repeat (first | (refine Exists.intro _ (And.intro (sload_u8 (i := k) (by first | rfl | omega | fail) (by first | omega | fail)) ?_); conv => whnf) | (refine Exists.intro _ (And.intro (idx_i (m := k) (by first | rfl | fail)) ?_); conv => whnf) | (refine Exists.intro _ (And.intro (sload_u8 (i := 4 * (i - 8) + k) (by first | rfl | omega | fail) (by first | omega | fail)) ?_); conv => whnf) | (refine Exists.intro _ (And.intro (idx_i (m := 4 * (i - 8) + k) (by first | rfl | omega | fail)) ?_); conv => whnf) | (refine Exists.intro _ (And.intro rfl ?_); conv => whnf) | (refine And.intro (by first | omega | (simp [ti5]; omega)) ?_; conv => whnf) | (refine And.intro (by kernel_rfl) ?_; conv => whnf) | fail)
            refine ⟨⟨k + 1, by omega⟩, by simp only; omega, ?_⟩
            refine Weak.sel [0, 1, 5, 3] rfl rfl ?_ ?_ rfl rfl
            · (repeat' (first | exact trivial | refine And.intro ?_ ?_ | fail)) <;> first | rfl | exact wk_i (by first | exact hp2.symm | fail) | fail
            · (repeat' (first | exact trivial | refine And.intro ?_ ?_ | fail)) <;> first | rfl | exact ren_eq (by first | (simp; done) | fail) (by first | rfl | exact happ.symm | fail) | fail
          · obtain rfl : k = 4 := by omega
            conv => whnf
            first | refine brF (by rfl) ?_ | fail
            conv => whnf
            repeat (fail)
            have hw4 : wSt key 8 (i + 1) = wK key 8 i 4 := (wK_4 key 8 i (by omega)).symm
            refine ⟨⟨i + 1, by omega, by omega⟩, by simp only; omega, ?_⟩
            refine Weak.sel [0, 1, 2] rfl rfl ?_ ?_ rfl rfl
            · (repeat' (first | exact trivial | refine And.intro ?_ ?_ | fail)) <;> first | rfl | exact wk_i (by first | exact hp1.symm | fail) | fail
            · (repeat' (first | exact trivial | refine And.intro ?_ ?_ | fail)) <;> first | exact ren_m8 (by first | exact hw4 | fail) | rfl | exact ren_eq (by first | (simp; done) | fail) (by first | rfl | fail) | fail
      · have hm : ((i : Int).tmod 8 == 0) = false := by rw [htm]; simp; omega
        have hpw : pwN (i / 8) = pwN ((i - 1) / 8) := by
          rw [show i / 8 = (i - 1) / 8 from by omega]
        by_cases h8 : 8 = 8 ∧ i % 8 = 4
        · skip
          have hm4 : ((i : Int).tmod 8 == 4) = true := by rw [htm, h8.2]; rfl
          have htk : tK key 8 i = [sb ((colN (wSt key 8 i) (i - 1)).getD 0 0), sb ((colN (wSt key 8 i) (i - 1)).getD 1 0), sb ((colN (wSt key 8 i) (i - 1)).getD 2 0), sb ((colN (wSt key 8 i) (i - 1)).getD 3 0)] := by unfold tK; rw [if_neg hz, if_pos h8]; rfl
          have htk2 := congrArg (List.map SV.u8) htk
          first | refine brF (by exact hm) ?_ | fail
          conv => whnf
          repeat (first | (refine brT rfl ?_; conv => whnf) | (refine Exists.intro _ (And.intro (sload_u8 (i := 1) (by first | rfl | fail) (by first | omega | fail)) ?_); conv => whnf) | (refine Exists.intro _ (And.intro (idx_i (m := 1) (by first | rfl | fail)) ?_); conv => whnf) | (refine Exists.intro _ (And.intro (sload_u8 (i := 2) (by first | rfl | fail) (by first | omega | fail)) ?_); conv => whnf) | (refine Exists.intro _ (And.intro (idx_i (m := 2) (by first | rfl | fail)) ?_); conv => whnf) | (refine Exists.intro _ (And.intro (sload_u8 (i := 3) (by first | rfl | fail) (by first | omega | fail)) ?_); conv => whnf) | (refine Exists.intro _ (And.intro (idx_i (m := 3) (by first | rfl | fail)) ?_); conv => whnf) | (refine Exists.intro _ (And.intro (sload_u8 (i := 0) (by first | rfl | fail) (by first | omega | fail)) ?_); conv => whnf) | (refine Exists.intro _ (And.intro (idx_i (m := 0) (by first | rfl | fail)) ?_); conv => whnf) | (refine Exists.intro _ (And.intro (sload_u8 (i := ((colN (wSt key 8 i) (i - 1)).getD 1 0).toNat) (by first | rfl | omega | fail) (by first | omega | fail)) ?_); conv => whnf) | (refine Exists.intro _ (And.intro (sload_u8 (i := ((colN (wSt key 8 i) (i - 1)).getD 2 0).toNat) (by first | rfl | omega | fail) (by first | omega | fail)) ?_); conv => whnf) | (refine Exists.intro _ (And.intro (sload_u8 (i := ((colN (wSt key 8 i) (i - 1)).getD 3 0).toNat) (by first | rfl | omega | fail) (by first | omega | fail)) ?_); conv => whnf) | (refine Exists.intro _ (And.intro (sload_u8 (i := ((colN (wSt key 8 i) (i - 1)).getD 0 0).toNat) (by first | rfl | omega | fail) (by first | omega | fail)) ?_); conv => whnf) | (refine gdT hm4 ?_; conv => whnf) | (refine Exists.intro _ (And.intro rfl ?_); conv => whnf) | (refine And.intro (by first | omega | fail) ?_; conv => whnf) | (refine And.intro (by kernel_rfl) ?_; conv => whnf) | fail)
          refine loop_rule ttOk mixed (by kernel_rfl) (ι := { k : Nat // k ≤ 4 }) (fun k => [(0, .sl 0 0 256 1 fb), (1, .sl 1 0 32 1 fk), (5, .i 8), (6, .sl 2 0 (4 * i + k.1) 1 false), (7, .u8 (pwN (i / 8))), (8, .i (i : Int)), (9, .sl 3 0 4 1 true), (10, .i (k.1 : Int))]) (fun k => [some (.ro (sbx.map .u8)), some (.ro (key.map .u8)), some (.row 5 ((wK key 8 i k.1).map .u8)), some (.row 5 ((tK key 8 i).map .u8))]) (fun _ => 4) (fun k => 4 - k.1) ⟨0, by omega⟩ ?_ ?_
          · refine Weak.sel [0, 1, 2, 5] rfl rfl ?_ ?_ rfl rfl
            · (repeat' (first | exact trivial | refine And.intro ?_ ?_ | fail)) <;> first | rfl | exact wk_u8 (by first | exact hpw | fail) | fail
            · (repeat' (first | exact trivial | refine And.intro ?_ ?_ | fail)) <;> first | exact ren_m8 (by first | exact hw0 | fail) | rfl | exact ren_eq (by first | (simp; done) | fail) (by first | rfl | fail) | exact ren_eq (plainL_u8 _) htk2 | fail
          · rintro ⟨k, hk⟩
            have hwk := wK_len key 8 i k
            dsimp only
            by_cases hk2 : k < 4
            · have hlt2 : decide ((k : Int) < 4) = true := by simp; omega
              have hp2 := w6_p1 k (by omega)
              have h10 := w10_4 i 8 k (by omega) (by omega) (by omega)
              have hx : (tK key 8 i).getD k 0 ^^^ (wK key 8 i k).getD (4 * (i - 8) + k) 0 = xK key 8 i k := by
                unfold xK; rw [wK_getD]; omega
              have happ : List.take ((4 * i + k) * 1) (List.drop 0 ((wK key 8 i k).map SV.u8)) ++ List.take (1 * 1) (List.drop 0 [SV.u8 ((tK key 8 i).getD k 0 ^^^ (wK key 8 i k).getD (4 * (i - 8) + k) 0)]) = (wK key 8 i (k + 1)).map SV.u8 := by
                rw [app_one hwk, hx, wK_s]
              conv => whnf
              first | refine brT (by exact hlt2) ?_ | fail
              conv => whnf
              repeat (first | (refine Exists.intro _ (And.intro (sload_u8 (i := k) (by first | rfl | omega | fail) (by first | omega | fail)) ?_); conv => whnf) | (refine Exists.intro _ (And.intro (idx_i (m := k) (by first | rfl | fail)) ?_); conv => whnf) | (refine Exists.intro _ (And.intro (sload_u8 (i := 4 * (i - 8) + k) (by first | rfl | omega | fail) (by first | omega | fail)) ?_); conv => whnf) | (refine Exists.intro _ (And.intro (idx_i (m := 4 * (i - 8) + k) (by first | rfl | omega | fail)) ?_); conv => whnf) | (refine Exists.intro _ (And.intro rfl ?_); conv => whnf) | (refine And.intro (by first | omega | (simp [ti5]; omega)) ?_; conv => whnf) | (refine And.intro (by kernel_rfl) ?_; conv => whnf) | fail)
              refine ⟨⟨k + 1, by omega⟩, by simp only; omega, ?_⟩
              refine Weak.sel [0, 1, 5, 3] rfl rfl ?_ ?_ rfl rfl
              · (repeat' (first | exact trivial | refine And.intro ?_ ?_ | fail)) <;> first | rfl | exact wk_i (by first | exact hp2.symm | fail) | fail
              · (repeat' (first | exact trivial | refine And.intro ?_ ?_ | fail)) <;> first | rfl | exact ren_eq (by first | (simp; done) | fail) (by first | rfl | exact happ.symm | fail) | fail
            · obtain rfl : k = 4 := by omega
              conv => whnf
              first | refine brF (by rfl) ?_ | fail
              conv => whnf
              repeat (fail)
              have hw4 : wSt key 8 (i + 1) = wK key 8 i 4 := (wK_4 key 8 i (by omega)).symm
              refine ⟨⟨i + 1, by omega, by omega⟩, by simp only; omega, ?_⟩
              refine Weak.sel [0, 1, 2] rfl rfl ?_ ?_ rfl rfl
              · (repeat' (first | exact trivial | refine And.intro ?_ ?_ | fail)) <;> first | rfl | exact wk_i (by first | exact hp1.symm | fail) | fail
              · (repeat' (first | exact trivial | refine And.intro ?_ ?_ | fail)) <;> first | exact ren_m8 (by first | exact hw4 | fail) | rfl | exact ren_eq (by first | (simp; done) | fail) (by first | rfl | fail) | fail
        · skip
          have hm4 : ((i : Int).tmod 8 == 4) = false := by rw [htm]; simp; omega
          have htk : tK key 8 i = colN (wSt key 8 i) (i - 1) := by unfold tK; rw [if_neg hz, if_neg h8]
          have htk2 := congrArg (List.map SV.u8) htk
          first | refine brF (by exact hm) ?_ | fail
          conv => whnf
          repeat (first | (refine brT rfl ?_; conv => whnf) | (refine gdF hm4 ?_; conv => whnf) | (refine Exists.intro _ (And.intro rfl ?_); conv => whnf) | fail)
          refine loop_rule ttOk mixed (by kernel_rfl) (ι := { k : Nat // k ≤ 4 }) (fun k => [(0, .sl 0 0 256 1 fb), (1, .sl 1 0 32 1 fk), (5, .i 8), (6, .sl 2 0 (4 * i + k.1) 1 false), (7, .u8 (pwN (i / 8))), (8, .i (i : Int)), (9, .sl 3 0 4 1 false), (10, .i (k.1 : Int))]) (fun k => [some (.ro (sbx.map .u8)), some (.ro (key.map .u8)), some (.row 5 ((wK key 8 i k.1).map .u8)), some (.row 5 ((tK key 8 i).map .u8))]) (fun _ => 4) (fun k => 4 - k.1) ⟨0, by omega⟩ ?_ ?_
          · refine Weak.sel [0, 1, 2, 4] rfl rfl ?_ ?_ rfl rfl
            · (repeat' (first | exact trivial | refine And.intro ?_ ?_ | fail)) <;> first | rfl | exact wk_sl rfl (by first | rfl | fail) (by first | rfl | omega | fail) | exact wk_u8 (by first | exact hpw | fail) | fail
            · (repeat' (first | exact trivial | refine And.intro ?_ ?_ | fail)) <;> first | exact ren_m8 (by first | exact hw0 | exact htk | fail) | rfl | exact ren_eq (by first | (simp; done) | fail) (by first | rfl | fail) | fail
          · rintro ⟨k, hk⟩
            have hwk := wK_len key 8 i k
            dsimp only
            by_cases hk2 : k < 4
            · have hlt2 : decide ((k : Int) < 4) = true := by simp; omega
              have hp2 := w6_p1 k (by omega)
              have h10 := w10_4 i 8 k (by omega) (by omega) (by omega)
              have hx : (tK key 8 i).getD k 0 ^^^ (wK key 8 i k).getD (4 * (i - 8) + k) 0 = xK key 8 i k := by
                unfold xK; rw [wK_getD]; omega
              have happ : List.take ((4 * i + k) * 1) (List.drop 0 ((wK key 8 i k).map SV.u8)) ++ List.take (1 * 1) (List.drop 0 [SV.u8 ((tK key 8 i).getD k 0 ^^^ (wK key 8 i k).getD (4 * (i - 8) + k) 0)]) = (wK key 8 i (k + 1)).map SV.u8 := by
                rw [app_one hwk, hx, wK_s]
              conv => whnf
              first | refine brT (by exact hlt2) ?_ | fail
              conv => whnf
              repeat (first | (refine Exists.intro _ (And.intro (sload_u8 (i := k) (by first | rfl | omega | fail) (by first | omega | fail)) ?_); conv => whnf) | (refine Exists.intro _ (And.intro (idx_i (m := k) (by first | rfl | fail)) ?_); conv => whnf) | (refine Exists.intro _ (And.intro (sload_u8 (i := 4 * (i - 8) + k) (by first | rfl | omega | fail) (by first | omega | fail)) ?_); conv => whnf) | (refine Exists.intro _ (And.intro (idx_i (m := 4 * (i - 8) + k) (by first | rfl | omega | fail)) ?_); conv => whnf) | (refine Exists.intro _ (And.intro rfl ?_); conv => whnf) | (refine And.intro (by first | omega | (simp [ti5]; omega)) ?_; conv => whnf) | (refine And.intro (by kernel_rfl) ?_; conv => whnf) | fail)
              refine ⟨⟨k + 1, by omega⟩, by simp only; omega, ?_⟩
              refine Weak.sel [0, 1, 5, 3] rfl rfl ?_ ?_ rfl rfl
              · (repeat' (first | exact trivial | refine And.intro ?_ ?_ | fail)) <;> first | rfl | exact wk_i (by first | exact hp2.symm | fail) | fail
              · (repeat' (first | exact trivial | refine And.intro ?_ ?_ | fail)) <;> first | rfl | exact ren_eq (by first | (simp; done) | fail) (by first | rfl | exact happ.symm | fail) | fail
            · obtain rfl : k = 4 := by omega
              conv => whnf
              first | refine brF (by rfl) ?_ | fail
              conv => whnf
              repeat (fail)
              have hw4 : wSt key 8 (i + 1) = wK key 8 i 4 := (wK_4 key 8 i (by omega)).symm
              refine ⟨⟨i + 1, by omega, by omega⟩, by simp only; omega, ?_⟩
              refine Weak.sel [0, 1, 2] rfl rfl ?_ ?_ rfl rfl
              · (repeat' (first | exact trivial | refine And.intro ?_ ?_ | fail)) <;> first | rfl | exact wk_i (by first | exact hp1.symm | fail) | fail
              · (repeat' (first | exact trivial | refine And.intro ?_ ?_ | fail)) <;> first | exact ren_m8 (by first | exact hw4 | fail) | rfl | exact ren_eq (by first | (simp; done) | fail) (by first | rfl | fail) | fail
    · obtain rfl : i = 60 := by omega
      conv => whnf
      first | refine brF (by rfl) ?_ | fail
      conv => whnf
      repeat (fail)
      refine ⟨[0, 1, 2], ?_, rfl, rfl, ?_, rfl⟩
      · (repeat' (fail)) <;> first | rfl | fail
      · (repeat' (first | exact trivial | refine And.intro ?_ ?_ | fail)) <;> first | rfl | exact ren_eq (by first | (simp; done) | fail) (by first | rfl | fail) | fail
end Go.Sh
/- aes's reference: S (f44), under way. -/
namespace Go.Sh
open Go.Proofs
set_option maxHeartbeats 8000000
set_option linter.unusedSimpArgs false

/-- What b is multiplied by to 1, of the first i bytes. -/
def ySt (b : UInt8) : Nat → UInt8
  | 0 => 0
  | i + 1 => if tmSt 8 0 b (u8i ((i + 1 : Nat) : Int)) = 1 then u8i ((i + 1 : Nat) : Int) else ySt b i

def yAll (b : UInt8) (i : Nat) : UInt8 := if b = 0 then 0 else ySt b i
theorem w6_u8 (i : Nat) (h : i ≤ 255) : UInt8.ofNat ((i : Int) % 256).toNat = UInt8.ofNat i := by
  rw [show ((i : Int) % 256).toNat = i by omega]

theorem tmod_n6 (n k : Nat) : ((n : Int)).tmod (k : Int) = ((n % k : Nat) : Int) := by rw [Int.tmod_eq_emod_of_nonneg (by omega)]; omega
theorem f82z (b : UInt8) (z : Int) (n : Nat) (hz : z = n) (h : n ≤ 7) : SCall Try.prog 82 [.u8 b, .i z] [] (.i ((b / pow2 n % 2).toNat : Int)) [] := by subst hz; exact f82 b n h
theorem w6_k (i k : Nat) (hi : i ≤ 8) (hk : k ≤ 8) : (w64 ((i : Int) + (k : Int))).tmod 8 = (((i + k) % 8 : Nat) : Int) := by
  rw [show w64 ((i : Int) + (k : Int)) = ((i + k : Nat) : Int) by simp only [w64_eq]; omega]
  exact tmod_n6 (i + k) 8
def bitN (y : UInt8) (k : Nat) : Nat := (y / pow2 k % 2).toNat
/-- How many of the bits that a bit is the sum of stand. -/
def cntN (y : UInt8) (i : Nat) : Nat := bitN y ((i + 0) % 8) + bitN y ((i + 4) % 8) + bitN y ((i + 5) % 8) + bitN y ((i + 6) % 8) + bitN y ((i + 7) % 8) + bitN 99 i
def obSt (y : UInt8) : Nat → UInt8
  | 0 => 0
  | i + 1 => if cntN y i % 2 = 1 then obSt y i + pow2 i else obSt y i

theorem w6_add (n a : Nat) (h : n ≤ 10) (ha : a ≤ 1) : w64 ((n : Int) + (a : Int)) = ((n + a : Nat) : Int) := by simp only [w64_eq]; omega
theorem w6_six (a b c d e f : Nat) (ha : a ≤ 1) (hb : b ≤ 1) (hc : c ≤ 1) (hd : d ≤ 1) (he : e ≤ 1) (hf : f ≤ 1) : (w64 (w64 (w64 (w64 (w64 (w64 (0 + (a : Int)) + (b : Int)) + (c : Int)) + (d : Int)) + (e : Int)) + (f : Int))).tmod 2 = (((a + b + c + d + e + f) % 2 : Nat) : Int) := by
  rw [show (0 : Int) + (a : Int) = ((0 + a : Nat) : Int) by omega, show w64 ((0 + a : Nat) : Int) = ((0 + a : Nat) : Int) by simp only [w64_eq]; omega]
  rw [w6_add _ b (by omega) hb, w6_add _ c (by omega) hc, w6_add _ d (by omega) hd, w6_add _ e (by omega) he, w6_add _ f (by omega) hf, Nat.zero_add]
  exact tmod_n6 _ 2
theorem bitN_le (y : UInt8) (k : Nat) : bitN y k ≤ 1 := by
  unfold bitN
  rw [UInt8.toNat_mod]
  show (y / pow2 k).toNat % 2 ≤ 1
  omega
theorem w6_cnt (y : UInt8) (i : Nat) : (w64 (w64 (w64 (w64 (w64 (w64 (0 + ((y / pow2 ((i + 0) % 8) % 2).toNat : Int)) + ((y / pow2 ((i + 4) % 8) % 2).toNat : Int)) + ((y / pow2 ((i + 5) % 8) % 2).toNat : Int)) + ((y / pow2 ((i + 6) % 8) % 2).toNat : Int)) + ((y / pow2 ((i + 7) % 8) % 2).toNat : Int)) + ((99 / pow2 i % 2 : UInt8).toNat : Int))).tmod 2 = ((cntN y i % 2 : Nat) : Int) :=
  w6_six _ _ _ _ _ _ (bitN_le y _) (bitN_le y _) (bitN_le y _) (bitN_le y _) (bitN_le y _) (bitN_le 99 _)

theorem f44 (b : UInt8) : SCall Try.prog 44 [.u8 b] [] (.u8 (obSt (yAll b 255) 8)) [] := by
  refine scall_of ttOk (by kernel_rfl : Try.prog.funcs[44]? = some Try.f44) rfl rfl rfl ?_
  refine sw_ok ttOk mixed (by kernel_rfl) ?_
  conv => whnf
  refine loop_rule ttOk mixed (by kernel_rfl) (ι := { i : Nat // i ≤ 255 ∧ (b = 0 → i = 0) }) (fun i => [(0, .u8 b), (3, .u8 (yAll b i.1)), (4, .i ((i.1 + 1 : Nat) : Int))]) (fun _ => []) (fun _ => 0) (fun i => 255 - i.1) ⟨0, by omega, fun _ => rfl⟩ ?_ ?_
  · refine Weak.sel [] rfl rfl ?_ ?_ rfl rfl
    · (repeat' (first | exact trivial | refine And.intro ?_ ?_ | fail)) <;> first | rfl | exact wk_u8 (by first | (simp [yAll, ySt]; done) | fail) | fail
    · (repeat' (first | exact trivial | fail)) <;> fail
  · rintro ⟨i, hi, hb0⟩
    dsimp only
    by_cases hb : b = 0
    · subst hb
      obtain rfl : i = 0 := hb0 rfl
      have hlt : decide (((0 + 1 : Nat) : Int) < 256) = true := by decide
      have hb2 : decide ((0 : UInt8) > 0) = false := by decide
      have hy0 : yAll 0 255 = 0 := if_pos rfl
      have hy1 : yAll 0 0 = 0 := if_pos rfl
      simp only [hy0, hy1]
      conv => whnf
      refine gdT (by exact hlt) ?_
      conv => whnf
      refine gdT (by exact hlt) ?_
      conv => whnf
      refine pkT (by exact hlt) ?_
      conv => whnf
      refine brF (by exact hb2) ?_
      conv => whnf
      refine loop_rule ttOk mixed (by kernel_rfl) (ι := { i : Nat // i ≤ 8 }) (fun i => [(3, .u8 (0)), (5, .u8 (obSt (0) i.1)), (6, .i (i.1 : Int))]) (fun _ => []) (fun _ => 0) (fun i => 8 - i.1) ⟨0, by omega⟩ ?_ ?_
      · refine Weak.sel [] rfl rfl ?_ ?_ rfl rfl
        · (repeat' (first | exact trivial | refine And.intro ?_ ?_ | fail)) <;> first | rfl | fail
        · (repeat' (first | exact trivial | fail)) <;> fail
      · rintro ⟨i, hi⟩
        dsimp only
        by_cases hi3 : i < 8
        · have hlt : decide ((i : Int) < 8) = true := by simp; omega
          have hp1 := w6_p1 i (by omega)
          conv => whnf
          refine brT (by exact hlt) ?_
          conv => whnf
          repeat (first | (refine Exists.intro _ (And.intro rfl ?_); conv => whnf) | fail)
          refine loop_rounds ttOk mixed (by kernel_rfl) 6 ?_
          conv => whnf
          repeat (first | (refine brT rfl ?_; conv => whnf) | (refine Exists.intro _ (And.intro rfl ?_); conv => whnf) | (refine And.intro (by first | omega | fail) ?_; conv => whnf) | fail)
          refine ok1_callP [] (f82z (0) ((w64 ((i : Int) + 0)).tmod 8) ((i + 0) % 8) (w6_k i 0 (by omega) (by omega)) (by omega)) rfl rfl ⟨⟨rfl, by first | rfl | fail⟩, trivial, by first | rfl | fail, ?_⟩
          conv => whnf
          repeat (first | (refine brT rfl ?_; conv => whnf) | (refine Exists.intro _ (And.intro rfl ?_); conv => whnf) | (refine And.intro (Nat.le_of_ble_eq_true rfl) ?_; conv => whnf) | fail)
          refine ok1_callP [] (f82z (0) ((w64 ((i : Int) + 4)).tmod 8) ((i + 4) % 8) (w6_k i 4 (by omega) (by omega)) (by omega)) rfl rfl ⟨⟨rfl, by first | rfl | fail⟩, trivial, by first | rfl | fail, ?_⟩
          conv => whnf
          repeat (first | (refine brT rfl ?_; conv => whnf) | (refine Exists.intro _ (And.intro rfl ?_); conv => whnf) | (refine And.intro (Nat.le_of_ble_eq_true rfl) ?_; conv => whnf) | fail)
          refine ok1_callP [] (f82z (0) ((w64 ((i : Int) + 5)).tmod 8) ((i + 5) % 8) (w6_k i 5 (by omega) (by omega)) (by omega)) rfl rfl ⟨⟨rfl, by first | rfl | fail⟩, trivial, by first | rfl | fail, ?_⟩
          conv => whnf
          repeat (first | (refine brT rfl ?_; conv => whnf) | (refine Exists.intro _ (And.intro rfl ?_); conv => whnf) | (refine And.intro (Nat.le_of_ble_eq_true rfl) ?_; conv => whnf) | fail)
          refine ok1_callP [] (f82z (0) ((w64 ((i : Int) + 6)).tmod 8) ((i + 6) % 8) (w6_k i 6 (by omega) (by omega)) (by omega)) rfl rfl ⟨⟨rfl, by first | rfl | fail⟩, trivial, by first | rfl | fail, ?_⟩
          conv => whnf
          repeat (first | (refine brT rfl ?_; conv => whnf) | (refine Exists.intro _ (And.intro rfl ?_); conv => whnf) | (refine And.intro (Nat.le_of_ble_eq_true rfl) ?_; conv => whnf) | fail)
          refine ok1_callP [] (f82z (0) ((w64 ((i : Int) + 7)).tmod 8) ((i + 7) % 8) (w6_k i 7 (by omega) (by omega)) (by omega)) rfl rfl ⟨⟨rfl, by first | rfl | fail⟩, trivial, by first | rfl | fail, ?_⟩
          conv => whnf
          repeat (first | (refine brF rfl ?_; conv => whnf) | fail)
          refine ok1_callP [] (f82 99 i (by omega)) rfl rfl ⟨⟨rfl, by first | rfl | fail⟩, trivial, by first | rfl | fail, ?_⟩
          conv => whnf
          have hcn := w6_cnt (0) i
          by_cases h1 : cntN (0) i % 2 = 1
          · have ht : obSt (0) (i + 1) = obSt (0) i + pow2 i := by simp only [obSt, if_pos h1]
            rw [h1] at hcn
            repeat (first | (refine Exists.intro _ (And.intro rfl ?_); conv => whnf) | fail)
            refine brT (by rw [hcn]; rfl) ?_
            conv => whnf
            refine ok1_callP [] (f83 i (by omega)) rfl rfl ⟨⟨rfl, by first | rfl | fail⟩, trivial, by first | rfl | fail, ?_⟩
            conv => whnf
            repeat (fail)
            refine ⟨⟨i + 1, by omega⟩, by simp only; omega, ?_⟩
            refine Weak.sel [] rfl rfl ?_ ?_ rfl rfl
            · (repeat' (first | exact trivial | refine And.intro ?_ ?_ | fail)) <;> first | rfl | exact wk_i (by first | rfl | exact hp1.symm | fail) | exact wk_u8 (by first | exact ht | fail) | fail
            · (repeat' (first | exact trivial | fail)) <;> fail
          · have ht : obSt (0) (i + 1) = obSt (0) i := by simp only [obSt, if_neg h1]
            rw [show cntN (0) i % 2 = 0 by omega] at hcn
            repeat (first | (refine Exists.intro _ (And.intro rfl ?_); conv => whnf) | fail)
            refine brF (by rw [hcn]; rfl) ?_
            conv => whnf
            repeat (fail)
            refine ⟨⟨i + 1, by omega⟩, by simp only; omega, ?_⟩
            refine Weak.sel [] rfl rfl ?_ ?_ rfl rfl
            · (repeat' (first | exact trivial | refine And.intro ?_ ?_ | fail)) <;> first | rfl | exact wk_i (by first | rfl | exact hp1.symm | fail) | exact wk_u8 (by first | exact ht | fail) | fail
            · (repeat' (first | exact trivial | fail)) <;> fail
        · obtain rfl : i = 8 := by omega
          conv => whnf
          refine brF (by rfl) ?_
          conv => whnf
          repeat (fail)
          refine ⟨[], ?_, rfl, rfl, ?_, rfl⟩
          · (repeat' (fail)) <;> first | rfl | fail
          · (repeat' (first | exact trivial | fail)) <;> fail
    · have hb2 : decide (b > 0) = true := by
        have : b.toNat ≠ 0 := fun h => hb (UInt8.toNat_inj.mp h)
        simp only [decide_eq_true_eq]; show (0 : UInt8).toNat < b.toNat
        simp; omega
      by_cases hi2 : i < 255
      · have hlt : decide (((i + 1 : Nat) : Int) < 256) = true := by simp; omega
        have hp1 := w6_p1 (i + 1) (by omega)
        conv => whnf
        refine gdT (by exact hlt) ?_
        conv => whnf
        refine gdT (by exact hlt) ?_
        conv => whnf
        refine pkT (by exact hlt) ?_
        conv => whnf
        refine brT (by exact hb2) ?_
        conv => whnf
        repeat (fail)
        refine ok1_callP [] (f81 b (u8i ((i + 1 : Nat) : Int))) rfl rfl ⟨⟨rfl, by first | rfl | fail⟩, trivial, by first | rfl | fail, ?_⟩
        conv => whnf
        by_cases h1 : tmSt 8 0 b (u8i ((i + 1 : Nat) : Int)) = 1
        · have hy : yAll b (i + 1) = u8i ((i + 1 : Nat) : Int) := by simp only [yAll, ySt, if_neg hb, if_pos h1]
          have ht : (tmSt 8 0 b (u8i ((i + 1 : Nat) : Int)) == 1) = true := by rw [h1]; rfl
          refine brT (by exact ht) ?_
          conv => whnf
          refine ⟨⟨i + 1, by omega, fun h => absurd h hb⟩, by simp only; omega, ?_⟩
          refine Weak.sel [] rfl rfl ?_ ?_ rfl rfl
          · (repeat' (first | exact trivial | refine And.intro ?_ ?_ | fail)) <;> first | rfl | exact wk_i (by first | rfl | exact hp1.symm | fail) | exact wk_u8 (by first | exact hy | fail) | fail
          · (repeat' (first | exact trivial | fail)) <;> fail
        · have hy : yAll b (i + 1) = yAll b i := by simp only [yAll, ySt, if_neg hb, if_neg h1]
          have ht : (tmSt 8 0 b (u8i ((i + 1 : Nat) : Int)) == 1) = false := beq_eq_false_iff_ne.mpr h1
          refine brF (by exact ht) ?_
          conv => whnf
          refine ⟨⟨i + 1, by omega, fun h => absurd h hb⟩, by simp only; omega, ?_⟩
          refine Weak.sel [] rfl rfl ?_ ?_ rfl rfl
          · (repeat' (first | exact trivial | refine And.intro ?_ ?_ | fail)) <;> first | rfl | exact wk_i (by first | rfl | exact hp1.symm | fail) | exact wk_u8 (by first | exact hy | fail) | fail
          · (repeat' (first | exact trivial | fail)) <;> fail
      · obtain rfl : i = 255 := by omega
        have hlf : decide (((255 + 1 : Nat) : Int) < 256) = false := by decide
        conv => whnf
        refine gdF (by exact hlf) ?_
        conv => whnf
        refine gdF (by exact hlf) ?_
        conv => whnf
        refine pkF (by exact hlf) ?_
        conv => whnf
        refine brF (by rfl) ?_
        conv => whnf
        refine loop_rule ttOk mixed (by kernel_rfl) (ι := { i : Nat // i ≤ 8 }) (fun i => [(3, .u8 (yAll b 255)), (5, .u8 (obSt (yAll b 255) i.1)), (6, .i (i.1 : Int))]) (fun _ => []) (fun _ => 0) (fun i => 8 - i.1) ⟨0, by omega⟩ ?_ ?_
        · refine Weak.sel [] rfl rfl ?_ ?_ rfl rfl
          · (repeat' (first | exact trivial | refine And.intro ?_ ?_ | fail)) <;> first | rfl | fail
          · (repeat' (first | exact trivial | fail)) <;> fail
        · rintro ⟨i, hi⟩
          dsimp only
          by_cases hi3 : i < 8
          · have hlt : decide ((i : Int) < 8) = true := by simp; omega
            have hp1 := w6_p1 i (by omega)
            conv => whnf
            refine brT (by exact hlt) ?_
            conv => whnf
            repeat (first | (refine Exists.intro _ (And.intro rfl ?_); conv => whnf) | fail)
            refine loop_rounds ttOk mixed (by kernel_rfl) 6 ?_
            conv => whnf
            repeat (first | (refine brT rfl ?_; conv => whnf) | (refine Exists.intro _ (And.intro rfl ?_); conv => whnf) | (refine And.intro (by first | omega | fail) ?_; conv => whnf) | fail)
            refine ok1_callP [] (f82z (yAll b 255) ((w64 ((i : Int) + 0)).tmod 8) ((i + 0) % 8) (w6_k i 0 (by omega) (by omega)) (by omega)) rfl rfl ⟨⟨rfl, by first | rfl | fail⟩, trivial, by first | rfl | fail, ?_⟩
            conv => whnf
            repeat (first | (refine brT rfl ?_; conv => whnf) | (refine Exists.intro _ (And.intro rfl ?_); conv => whnf) | (refine And.intro (Nat.le_of_ble_eq_true rfl) ?_; conv => whnf) | fail)
            refine ok1_callP [] (f82z (yAll b 255) ((w64 ((i : Int) + 4)).tmod 8) ((i + 4) % 8) (w6_k i 4 (by omega) (by omega)) (by omega)) rfl rfl ⟨⟨rfl, by first | rfl | fail⟩, trivial, by first | rfl | fail, ?_⟩
            conv => whnf
            repeat (first | (refine brT rfl ?_; conv => whnf) | (refine Exists.intro _ (And.intro rfl ?_); conv => whnf) | (refine And.intro (Nat.le_of_ble_eq_true rfl) ?_; conv => whnf) | fail)
            refine ok1_callP [] (f82z (yAll b 255) ((w64 ((i : Int) + 5)).tmod 8) ((i + 5) % 8) (w6_k i 5 (by omega) (by omega)) (by omega)) rfl rfl ⟨⟨rfl, by first | rfl | fail⟩, trivial, by first | rfl | fail, ?_⟩
            conv => whnf
            repeat (first | (refine brT rfl ?_; conv => whnf) | (refine Exists.intro _ (And.intro rfl ?_); conv => whnf) | (refine And.intro (Nat.le_of_ble_eq_true rfl) ?_; conv => whnf) | fail)
            refine ok1_callP [] (f82z (yAll b 255) ((w64 ((i : Int) + 6)).tmod 8) ((i + 6) % 8) (w6_k i 6 (by omega) (by omega)) (by omega)) rfl rfl ⟨⟨rfl, by first | rfl | fail⟩, trivial, by first | rfl | fail, ?_⟩
            conv => whnf
            repeat (first | (refine brT rfl ?_; conv => whnf) | (refine Exists.intro _ (And.intro rfl ?_); conv => whnf) | (refine And.intro (Nat.le_of_ble_eq_true rfl) ?_; conv => whnf) | fail)
            refine ok1_callP [] (f82z (yAll b 255) ((w64 ((i : Int) + 7)).tmod 8) ((i + 7) % 8) (w6_k i 7 (by omega) (by omega)) (by omega)) rfl rfl ⟨⟨rfl, by first | rfl | fail⟩, trivial, by first | rfl | fail, ?_⟩
            conv => whnf
            repeat (first | (refine brF rfl ?_; conv => whnf) | fail)
            refine ok1_callP [] (f82 99 i (by omega)) rfl rfl ⟨⟨rfl, by first | rfl | fail⟩, trivial, by first | rfl | fail, ?_⟩
            conv => whnf
            have hcn := w6_cnt (yAll b 255) i
            by_cases h1 : cntN (yAll b 255) i % 2 = 1
            · have ht : obSt (yAll b 255) (i + 1) = obSt (yAll b 255) i + pow2 i := by simp only [obSt, if_pos h1]
              rw [h1] at hcn
              repeat (first | (refine Exists.intro _ (And.intro rfl ?_); conv => whnf) | fail)
              refine brT (by rw [hcn]; rfl) ?_
              conv => whnf
              refine ok1_callP [] (f83 i (by omega)) rfl rfl ⟨⟨rfl, by first | rfl | fail⟩, trivial, by first | rfl | fail, ?_⟩
              conv => whnf
              repeat (fail)
              refine ⟨⟨i + 1, by omega⟩, by simp only; omega, ?_⟩
              refine Weak.sel [] rfl rfl ?_ ?_ rfl rfl
              · (repeat' (first | exact trivial | refine And.intro ?_ ?_ | fail)) <;> first | rfl | exact wk_i (by first | rfl | exact hp1.symm | fail) | exact wk_u8 (by first | exact ht | fail) | fail
              · (repeat' (first | exact trivial | fail)) <;> fail
            · have ht : obSt (yAll b 255) (i + 1) = obSt (yAll b 255) i := by simp only [obSt, if_neg h1]
              rw [show cntN (yAll b 255) i % 2 = 0 by omega] at hcn
              repeat (first | (refine Exists.intro _ (And.intro rfl ?_); conv => whnf) | fail)
              refine brF (by rw [hcn]; rfl) ?_
              conv => whnf
              repeat (fail)
              refine ⟨⟨i + 1, by omega⟩, by simp only; omega, ?_⟩
              refine Weak.sel [] rfl rfl ?_ ?_ rfl rfl
              · (repeat' (first | exact trivial | refine And.intro ?_ ?_ | fail)) <;> first | rfl | exact wk_i (by first | rfl | exact hp1.symm | fail) | exact wk_u8 (by first | exact ht | fail) | fail
              · (repeat' (first | exact trivial | fail)) <;> fail
          · obtain rfl : i = 8 := by omega
            conv => whnf
            refine brF (by rfl) ?_
            conv => whnf
            repeat (fail)
            refine ⟨[], ?_, rfl, rfl, ?_, rfl⟩
            · (repeat' (fail)) <;> first | rfl | fail
            · (repeat' (first | exact trivial | fail)) <;> fail
end Go.Sh
/- aes's reference: Box (f46). -/
namespace Go.Sh
open Go.Proofs
set_option maxHeartbeats 8000000
set_option linter.unusedSimpArgs false

def upN : Nat → UInt8
  | 0 => 1
  | k + 1 => tmSt 8 0 (upN k) 3
def dnN : Nat → UInt8
  | 0 => 1
  | k + 1 => tmSt 8 0 (dnN k) 246
def invN : Nat → List UInt8
  | 0 => List.replicate 256 0
  | k + 1 => (invN k).set (upN k).toNat (dnN k)
theorem invN_len : ∀ k, (invN k).length = 256
  | 0 => List.length_replicate
  | k + 1 => by show ((invN k).set _ _).length = 256; rw [List.length_set]; exact invN_len k
/-- The inverse that the box is by. -/
def yB (i : Nat) : UInt8 := if i = 0 then 0 else (invN 255).getD i 0
def obB (i : Nat) : UInt8 := obSt (yB i) 8
def outB (i : Nat) : List UInt8 := fil 256 i obB (fun _ => 0)
theorem outB_len (i : Nat) : (outB i).length = 256 := fil_len ..
theorem w6_m8 : ∀ k j : Nat, k < 8 → j < 8 → (w64 ((k : Int) + (j : Int))).tmod 8 = (((k + j) % 8 : Nat) : Int) := fun k j hk hj => w6_k k j (by omega) (by omega)
theorem w6_cnt2 (y : UInt8) (i : Nat) : (w64 (w64 (w64 (w64 (w64 (((y / pow2 i % 2).toNat : Int) + ((y / pow2 ((i + 4) % 8) % 2).toNat : Int)) + ((y / pow2 ((i + 5) % 8) % 2).toNat : Int)) + ((y / pow2 ((i + 6) % 8) % 2).toNat : Int)) + ((y / pow2 ((i + 7) % 8) % 2).toNat : Int)) + ((99 / pow2 i % 2 : UInt8).toNat : Int))).tmod 2 = (((bitN y i + bitN y ((i + 4) % 8) + bitN y ((i + 5) % 8) + bitN y ((i + 6) % 8) + bitN y ((i + 7) % 8) + bitN 99 i) % 2 : Nat) : Int) := by
  have h := w6_six _ _ _ _ _ _ (bitN_le y i) (bitN_le y ((i + 4) % 8)) (bitN_le y ((i + 5) % 8)) (bitN_le y ((i + 6) % 8)) (bitN_le y ((i + 7) % 8)) (bitN_le 99 i)
  have e : w64 (0 + ((bitN y i : Nat) : Int)) = ((bitN y i : Nat) : Int) := by
    have := bitN_le y i
    rw [Int.zero_add]; simp only [w64_eq]; omega
  rw [e] at h
  exact h
theorem cntN_8 (y : UInt8) (i : Nat) (h : i < 8) : cntN y i = bitN y i + bitN y ((i + 4) % 8) + bitN y ((i + 5) % 8) + bitN y ((i + 6) % 8) + bitN y ((i + 7) % 8) + bitN 99 i := by
  unfold cntN; rw [Nat.add_zero, Nat.mod_eq_of_lt h]

theorem upN_z : upN 0 = 1 := rfl
theorem upN_s (k : Nat) : upN (k + 1) = tmSt 8 0 (upN k) 3 := rfl
theorem dnN_z : dnN 0 = 1 := rfl
theorem dnN_s (k : Nat) : dnN (k + 1) = tmSt 8 0 (dnN k) 246 := rfl
theorem invN_z : invN 0 = List.replicate 256 0 := rfl
theorem invN_s (k : Nat) : invN (k + 1) = (invN k).set (upN k).toNat (dnN k) := rfl
theorem outB_z : outB 0 = List.replicate 256 0 := fil_zero ..
theorem outB_s (i : Nat) (h : i < 256) : (outB i).set i (obSt (yB i) 8) = outB (i + 1) := fil_set h
theorem outB_0 (i : Nat) (h : i < 256) : (outB i).set i (obSt (yB i) 0) = outB i := fil_same h rfl
theorem obSt_1 {y : UInt8} {k : Nat} (h : cntN y k % 2 = 1) : obSt y (k + 1) = obSt y k + pow2 k := by simp only [obSt, if_pos h]
theorem obSt_0 {y : UInt8} {k : Nat} (h : ¬ cntN y k % 2 = 1) : obSt y (k + 1) = obSt y k := by simp only [obSt, if_neg h]
theorem yB_0 (i : Nat) (h : i = 0) : yB i = 0 := if_pos h
theorem yB_1 (i : Nat) (h : ¬ i = 0) : yB i = (invN 255).getD i 0 := if_neg h
attribute [local irreducible] upN dnN invN outB yB obSt

theorem f46 : SCall Try.prog 46 [] [] (.sl 0 0 256 1 true) [some (.row 5 ((outB 256).map .u8))] := by
  refine scall_of ttOk (by kernel_rfl : Try.prog.funcs[46]? = some Try.f46) rfl rfl rfl ?_
  refine sw_ok ttOk mixed (by kernel_rfl) ?_
  conv => whnf
  repeat (first | (refine And.intro ⟨by first | omega | fail, by first | decide | fail⟩ ?_; conv => whnf) | fail)
  refine loop_rule ttOk mixed (by kernel_rfl) (ι := { k : Nat // k ≤ 255 }) (fun k => [(1, .sl 0 0 256 1 true), (2, .u8 (upN k.1)), (3, .u8 (dnN k.1)), (4, .i (k.1 : Int))]) (fun k => [some (.row 5 ((invN k.1).map .u8))]) (fun _ => 1) (fun k => 255 - k.1) ⟨0, by omega⟩ ?_ ?_
  · dsimp only
    rw [upN_z, dnN_z, invN_z]
    refine Weak.sel [0] rfl rfl ?_ ?_ rfl rfl
    · (repeat' (first | exact trivial | refine And.intro ?_ ?_ | fail)) <;> first | rfl | fail
    · (repeat' (first | exact trivial | exact ren_z8 | refine And.intro ?_ ?_ | fail)) <;> first | rfl | fail
  · rintro ⟨k, hk⟩
    have hl := invN_len k
    dsimp only
    conv => whnf
    refine ⟨fun hc => ?_, fun hc => ?_⟩
    · have hk2 : k < 255 := by simp at hc; omega
      have hp1 := w6_p1 k (by omega)
      have hu : (upN k).toNat < 256 := UInt8.toNat_lt _
      conv => whnf
      repeat (first | (refine Exists.intro _ (And.intro (sput_m8 (i := (upN k).toNat) (by first | rfl | omega | fail)) ?_); conv => whnf) | (refine Exists.intro _ (And.intro rfl ?_); conv => whnf) | (refine And.intro (by first | omega | (simp; omega) | fail) ?_; conv => whnf) | fail)
      refine ok1_callP [] (f81 (upN k) 3) rfl rfl ⟨⟨rfl, by first | rfl | fail⟩, trivial, by first | rfl | fail, ?_⟩
      conv => whnf
      repeat (fail)
      refine ok1_callP [] (f81 (dnN k) 246) rfl rfl ⟨⟨rfl, by first | rfl | fail⟩, trivial, by first | rfl | fail, ?_⟩
      conv => whnf
      repeat (fail)
      refine ⟨⟨k + 1, by omega⟩, by simp only; omega, ?_⟩
      refine Weak.sel [0] rfl rfl ?_ ?_ rfl rfl
      · (repeat' (first | exact trivial | refine And.intro ?_ ?_ | fail)) <;> first | rfl | exact wk_i (by first | rfl | exact hp1.symm | fail) | exact wk_u8 (by first | (simp [hp1, upN_s, dnN_s, invN_s]; done) | fail) | fail
      · (repeat' (first | exact trivial | refine And.intro ?_ ?_ | fail)) <;> first | rfl | exact ren_eq (by first | (simp; done) | fail) (by first | (simp [hp1, upN_s, dnN_s, invN_s]; done) | fail) | fail
    · obtain rfl : k = 255 := by simp at hc; omega
      conv => whnf
      repeat (first | (refine And.intro ⟨by first | omega | fail, by first | decide | fail⟩ ?_; conv => whnf) | fail)
      refine loop_rule ttOk mixed (by kernel_rfl) (ι := { i : Nat // i ≤ 256 }) (fun i => [(1, .sl 0 0 256 1 true), (5, .sl 1 0 256 1 true), (6, .i (i.1 : Int))]) (fun i => [some (.row 5 ((invN 255).map .u8)), some (.row 5 ((outB i.1).map .u8))]) (fun _ => 2) (fun i => 256 - i.1) ⟨0, by omega⟩ ?_ ?_
      · dsimp only
        rw [outB_z]
        refine Weak.sel [0, 1] rfl rfl ?_ ?_ rfl rfl
        · (repeat' (first | exact trivial | refine And.intro ?_ ?_ | fail)) <;> first | rfl | fail
        · (repeat' (first | exact trivial | exact ren_z8 | refine And.intro ?_ ?_ | fail)) <;> first | rfl | exact ren_eq (by first | (simp; done) | fail) (by first | rfl | fail) | fail
      · rintro ⟨i, hi⟩
        have ho := outB_len i
        dsimp only
        by_cases hi2 : i < 256
        · have hlt : decide ((i : Int) < 256) = true := by simp; omega
          have hp1 := w6_p1 i (by omega)
          conv => whnf
          refine brT (by exact hlt) ?_
          conv => whnf
          repeat (first | (refine Exists.intro _ (And.intro (sload_u8 (i := i) (by first | rfl | omega | fail) (by first | omega | fail)) ?_); conv => whnf) | (refine Exists.intro _ (And.intro (idx_i (m := i) (by first | rfl | fail)) ?_); conv => whnf) | (refine And.intro (by first | omega | fail) ?_; conv => whnf) | fail)
          by_cases h0 : i = 0
          · have hy : yB i = 0 := by first | exact yB_0 i h0 | fail
            refine brT (by simp; omega) ?_
            conv => whnf
            repeat (fail)
            refine loop_rule ttOk mixed (by kernel_rfl) (ι := { k : Nat // k ≤ 8 }) (fun k => [(1, .sl 0 0 256 1 true), (5, .sl 1 0 256 1 true), (6, .i (i : Int)), (7, .u8 (yB i)), (8, .i (k.1 : Int))]) (fun k => [some (.row 5 ((invN 255).map .u8)), some (.row 5 (((outB i).set i (obSt (yB i) k.1)).map .u8))]) (fun _ => 2) (fun k => 8 - k.1) ⟨0, by omega⟩ ?_ ?_
            · have hs : (outB i).set i (obSt (yB i) 0) = outB i := outB_0 i hi2
              refine Weak.sel [0, 1] rfl rfl ?_ ?_ rfl rfl
              · (repeat' (first | exact trivial | refine And.intro ?_ ?_ | fail)) <;> first | rfl | exact wk_u8 (by first | exact hy | fail) | fail
              · (repeat' (first | exact trivial | refine And.intro ?_ ?_ | fail)) <;> first | rfl | exact ren_eq (by first | (simp; done) | fail) (by first | rfl | fail) | exact ren_m8 (by first | exact hs | fail) | fail
            · rintro ⟨k, hk⟩
              have hl2 : ((outB i).set i (obSt (yB i) k)).length = 256 := by simp [ho]
              dsimp only
              by_cases hk2 : k < 8
              · have hlt2 : decide ((k : Int) < 8) = true := by simp; omega
                have hp2 := w6_p1 k (by omega)
                conv => whnf
                refine brT (by exact hlt2) ?_
                conv => whnf
                refine ok1_callP [] (f82 (yB i) k (by omega)) rfl rfl ⟨⟨rfl, by first | rfl | fail⟩, trivial, by first | rfl | fail, ?_⟩
                conv => whnf
                repeat (first | (refine Exists.intro _ (And.intro rfl ?_); conv => whnf) | fail)
                refine ok1_callP [] (f82z (yB i) ((w64 ((k : Int) + 4)).tmod 8) ((k + 4) % 8) (w6_m8 k 4 (by omega) (by omega)) (by omega)) rfl rfl ⟨⟨rfl, by first | rfl | fail⟩, trivial, by first | rfl | fail, ?_⟩
                conv => whnf
                repeat (first | (refine Exists.intro _ (And.intro rfl ?_); conv => whnf) | fail)
                refine ok1_callP [] (f82z (yB i) ((w64 ((k : Int) + 5)).tmod 8) ((k + 5) % 8) (w6_m8 k 5 (by omega) (by omega)) (by omega)) rfl rfl ⟨⟨rfl, by first | rfl | fail⟩, trivial, by first | rfl | fail, ?_⟩
                conv => whnf
                repeat (first | (refine Exists.intro _ (And.intro rfl ?_); conv => whnf) | fail)
                refine ok1_callP [] (f82z (yB i) ((w64 ((k : Int) + 6)).tmod 8) ((k + 6) % 8) (w6_m8 k 6 (by omega) (by omega)) (by omega)) rfl rfl ⟨⟨rfl, by first | rfl | fail⟩, trivial, by first | rfl | fail, ?_⟩
                conv => whnf
                repeat (first | (refine Exists.intro _ (And.intro rfl ?_); conv => whnf) | fail)
                refine ok1_callP [] (f82z (yB i) ((w64 ((k : Int) + 7)).tmod 8) ((k + 7) % 8) (w6_m8 k 7 (by omega) (by omega)) (by omega)) rfl rfl ⟨⟨rfl, by first | rfl | fail⟩, trivial, by first | rfl | fail, ?_⟩
                conv => whnf
                repeat (fail)
                refine ok1_callP [] (f82 99 k (by omega)) rfl rfl ⟨⟨rfl, by first | rfl | fail⟩, trivial, by first | rfl | fail, ?_⟩
                conv => whnf
                have hcn := w6_cnt2 (yB i) k
                rw [← cntN_8 (yB i) k hk2] at hcn
                by_cases h1 : cntN (yB i) k % 2 = 1
                · have ht : obSt (yB i) (k + 1) = obSt (yB i) k + pow2 k := obSt_1 h1
                  have hs : ((outB i).set i (obSt (yB i) k)).set i (((outB i).set i (obSt (yB i) k)).getD i 0 + pow2 k) = (outB i).set i (obSt (yB i) (k + 1)) := by rw [set_get_set (by omega), ht]
                  rw [h1] at hcn
                  repeat (first | (refine Exists.intro _ (And.intro rfl ?_); conv => whnf) | fail)
                  refine brT (by rw [hcn]; rfl) ?_
                  conv => whnf
                  repeat (first | (refine Exists.intro _ (And.intro (sload_u8 (i := i) (by first | rfl | omega | fail) (by first | omega | fail)) ?_); conv => whnf) | (refine Exists.intro _ (And.intro (idx_i (m := i) (by first | rfl | fail)) ?_); conv => whnf) | (refine And.intro (by first | omega | fail) ?_; conv => whnf) | fail)
                  refine ok1_callP [] (f83 k (by omega)) rfl rfl ⟨⟨rfl, by first | rfl | fail⟩, trivial, by first | rfl | fail, ?_⟩
                  conv => whnf
                  repeat (first | (refine Exists.intro _ (And.intro (sput_m8 (i := i) (by first | rfl | omega | fail)) ?_); conv => whnf) | (refine Exists.intro _ (And.intro (idx_i (m := i) (by first | rfl | fail)) ?_); conv => whnf) | (refine And.intro (by first | omega | (simp; omega) | fail) ?_; conv => whnf) | (refine And.intro (by kernel_rfl) ?_; conv => whnf) | fail)
                  refine ⟨⟨k + 1, by omega⟩, by simp only; omega, ?_⟩
                  refine Weak.sel [0, 1] rfl rfl ?_ ?_ rfl rfl
                  · (repeat' (first | exact trivial | refine And.intro ?_ ?_ | fail)) <;> first | rfl | exact wk_i (by first | exact hp2.symm | fail) | fail
                  · (repeat' (first | exact trivial | refine And.intro ?_ ?_ | fail)) <;> first | rfl | exact ren_eq (by first | (simp; done) | fail) (by first | rfl | fail) | exact ren_m8 (by first | exact hs.symm | fail) | fail
                · have ht : obSt (yB i) (k + 1) = obSt (yB i) k := obSt_0 h1
                  rw [show cntN (yB i) k % 2 = 0 by omega] at hcn
                  repeat (first | (refine Exists.intro _ (And.intro rfl ?_); conv => whnf) | fail)
                  refine brF (by rw [hcn]; rfl) ?_
                  conv => whnf
                  repeat (fail)
                  refine ⟨⟨k + 1, by omega⟩, by simp only; omega, ?_⟩
                  refine Weak.sel [0, 1] rfl rfl ?_ ?_ rfl rfl
                  · (repeat' (first | exact trivial | refine And.intro ?_ ?_ | fail)) <;> first | rfl | exact wk_i (by first | exact hp2.symm | fail) | fail
                  · (repeat' (first | exact trivial | refine And.intro ?_ ?_ | fail)) <;> first | rfl | exact ren_eq (by first | (simp; done) | fail) (by first | rfl | fail) | exact ren_m8 (by first | (simp [hp2, ht]; done) | fail) | fail
              · obtain rfl : k = 8 := by omega
                have hs : (outB i).set i (obSt (yB i) 8) = outB (i + 1) := outB_s i hi2
                conv => whnf
                refine brF (by rfl) ?_
                conv => whnf
                repeat (fail)
                refine ⟨⟨i + 1, by omega⟩, by simp only; omega, ?_⟩
                refine Weak.sel [0, 1] rfl rfl ?_ ?_ rfl rfl
                · (repeat' (first | exact trivial | refine And.intro ?_ ?_ | fail)) <;> first | rfl | exact wk_i (by first | exact hp1.symm | fail) | fail
                · (repeat' (first | exact trivial | refine And.intro ?_ ?_ | fail)) <;> first | rfl | exact ren_eq (by first | (simp; done) | fail) (by first | rfl | (simp [hp1, hs]; done) | fail) | fail
          · have hy : yB i = (invN 255).getD i 0 := by first | exact yB_1 i h0
            refine brF (by simp; omega) ?_
            conv => whnf
            repeat (fail)
            refine loop_rule ttOk mixed (by kernel_rfl) (ι := { k : Nat // k ≤ 8 }) (fun k => [(1, .sl 0 0 256 1 true), (5, .sl 1 0 256 1 true), (6, .i (i : Int)), (7, .u8 (yB i)), (8, .i (k.1 : Int))]) (fun k => [some (.row 5 ((invN 255).map .u8)), some (.row 5 (((outB i).set i (obSt (yB i) k.1)).map .u8))]) (fun _ => 2) (fun k => 8 - k.1) ⟨0, by omega⟩ ?_ ?_
            · have hs : (outB i).set i (obSt (yB i) 0) = outB i := outB_0 i hi2
              refine Weak.sel [0, 1] rfl rfl ?_ ?_ rfl rfl
              · (repeat' (first | exact trivial | refine And.intro ?_ ?_ | fail)) <;> first | rfl | exact wk_u8 (by first | exact hy | fail) | fail
              · (repeat' (first | exact trivial | refine And.intro ?_ ?_ | fail)) <;> first | rfl | exact ren_eq (by first | (simp; done) | fail) (by first | rfl | fail) | exact ren_m8 (by first | exact hs | fail) | fail
            · rintro ⟨k, hk⟩
              have hl2 : ((outB i).set i (obSt (yB i) k)).length = 256 := by simp [ho]
              dsimp only
              by_cases hk2 : k < 8
              · have hlt2 : decide ((k : Int) < 8) = true := by simp; omega
                have hp2 := w6_p1 k (by omega)
                conv => whnf
                refine brT (by exact hlt2) ?_
                conv => whnf
                refine ok1_callP [] (f82 (yB i) k (by omega)) rfl rfl ⟨⟨rfl, by first | rfl | fail⟩, trivial, by first | rfl | fail, ?_⟩
                conv => whnf
                repeat (first | (refine Exists.intro _ (And.intro rfl ?_); conv => whnf) | fail)
                refine ok1_callP [] (f82z (yB i) ((w64 ((k : Int) + 4)).tmod 8) ((k + 4) % 8) (w6_m8 k 4 (by omega) (by omega)) (by omega)) rfl rfl ⟨⟨rfl, by first | rfl | fail⟩, trivial, by first | rfl | fail, ?_⟩
                conv => whnf
                repeat (first | (refine Exists.intro _ (And.intro rfl ?_); conv => whnf) | fail)
                refine ok1_callP [] (f82z (yB i) ((w64 ((k : Int) + 5)).tmod 8) ((k + 5) % 8) (w6_m8 k 5 (by omega) (by omega)) (by omega)) rfl rfl ⟨⟨rfl, by first | rfl | fail⟩, trivial, by first | rfl | fail, ?_⟩
                conv => whnf
                repeat (first | (refine Exists.intro _ (And.intro rfl ?_); conv => whnf) | fail)
                refine ok1_callP [] (f82z (yB i) ((w64 ((k : Int) + 6)).tmod 8) ((k + 6) % 8) (w6_m8 k 6 (by omega) (by omega)) (by omega)) rfl rfl ⟨⟨rfl, by first | rfl | fail⟩, trivial, by first | rfl | fail, ?_⟩
                conv => whnf
                repeat (first | (refine Exists.intro _ (And.intro rfl ?_); conv => whnf) | fail)
                refine ok1_callP [] (f82z (yB i) ((w64 ((k : Int) + 7)).tmod 8) ((k + 7) % 8) (w6_m8 k 7 (by omega) (by omega)) (by omega)) rfl rfl ⟨⟨rfl, by first | rfl | fail⟩, trivial, by first | rfl | fail, ?_⟩
                conv => whnf
                repeat (fail)
                refine ok1_callP [] (f82 99 k (by omega)) rfl rfl ⟨⟨rfl, by first | rfl | fail⟩, trivial, by first | rfl | fail, ?_⟩
                conv => whnf
                have hcn := w6_cnt2 (yB i) k
                rw [← cntN_8 (yB i) k hk2] at hcn
                by_cases h1 : cntN (yB i) k % 2 = 1
                · have ht : obSt (yB i) (k + 1) = obSt (yB i) k + pow2 k := obSt_1 h1
                  have hs : ((outB i).set i (obSt (yB i) k)).set i (((outB i).set i (obSt (yB i) k)).getD i 0 + pow2 k) = (outB i).set i (obSt (yB i) (k + 1)) := by rw [set_get_set (by omega), ht]
                  rw [h1] at hcn
                  repeat (first | (refine Exists.intro _ (And.intro rfl ?_); conv => whnf) | fail)
                  refine brT (by rw [hcn]; rfl) ?_
                  conv => whnf
                  repeat (first | (refine Exists.intro _ (And.intro (sload_u8 (i := i) (by first | rfl | omega | fail) (by first | omega | fail)) ?_); conv => whnf) | (refine Exists.intro _ (And.intro (idx_i (m := i) (by first | rfl | fail)) ?_); conv => whnf) | (refine And.intro (by first | omega | fail) ?_; conv => whnf) | fail)
                  refine ok1_callP [] (f83 k (by omega)) rfl rfl ⟨⟨rfl, by first | rfl | fail⟩, trivial, by first | rfl | fail, ?_⟩
                  conv => whnf
                  repeat (first | (refine Exists.intro _ (And.intro (sput_m8 (i := i) (by first | rfl | omega | fail)) ?_); conv => whnf) | (refine Exists.intro _ (And.intro (idx_i (m := i) (by first | rfl | fail)) ?_); conv => whnf) | (refine And.intro (by first | omega | (simp; omega) | fail) ?_; conv => whnf) | (refine And.intro (by kernel_rfl) ?_; conv => whnf) | fail)
                  refine ⟨⟨k + 1, by omega⟩, by simp only; omega, ?_⟩
                  refine Weak.sel [0, 1] rfl rfl ?_ ?_ rfl rfl
                  · (repeat' (first | exact trivial | refine And.intro ?_ ?_ | fail)) <;> first | rfl | exact wk_i (by first | exact hp2.symm | fail) | fail
                  · (repeat' (first | exact trivial | refine And.intro ?_ ?_ | fail)) <;> first | rfl | exact ren_eq (by first | (simp; done) | fail) (by first | rfl | fail) | exact ren_m8 (by first | exact hs.symm | fail) | fail
                · have ht : obSt (yB i) (k + 1) = obSt (yB i) k := obSt_0 h1
                  rw [show cntN (yB i) k % 2 = 0 by omega] at hcn
                  repeat (first | (refine Exists.intro _ (And.intro rfl ?_); conv => whnf) | fail)
                  refine brF (by rw [hcn]; rfl) ?_
                  conv => whnf
                  repeat (fail)
                  refine ⟨⟨k + 1, by omega⟩, by simp only; omega, ?_⟩
                  refine Weak.sel [0, 1] rfl rfl ?_ ?_ rfl rfl
                  · (repeat' (first | exact trivial | refine And.intro ?_ ?_ | fail)) <;> first | rfl | exact wk_i (by first | exact hp2.symm | fail) | fail
                  · (repeat' (first | exact trivial | refine And.intro ?_ ?_ | fail)) <;> first | rfl | exact ren_eq (by first | (simp; done) | fail) (by first | rfl | fail) | exact ren_m8 (by first | (simp [hp2, ht]; done) | fail) | fail
              · obtain rfl : k = 8 := by omega
                have hs : (outB i).set i (obSt (yB i) 8) = outB (i + 1) := outB_s i hi2
                conv => whnf
                refine brF (by rfl) ?_
                conv => whnf
                repeat (fail)
                refine ⟨⟨i + 1, by omega⟩, by simp only; omega, ?_⟩
                refine Weak.sel [0, 1] rfl rfl ?_ ?_ rfl rfl
                · (repeat' (first | exact trivial | refine And.intro ?_ ?_ | fail)) <;> first | rfl | exact wk_i (by first | exact hp1.symm | fail) | fail
                · (repeat' (first | exact trivial | refine And.intro ?_ ?_ | fail)) <;> first | rfl | exact ren_eq (by first | (simp; done) | fail) (by first | rfl | (simp [hp1, hs]; done) | fail) | fail
        · obtain rfl : i = 256 := by omega
          have hlf : decide (((256 : Nat) : Int) < 256) = false := by decide
          conv => whnf
          refine brF (by exact hlf) ?_
          conv => whnf
          repeat (fail)
          refine ⟨[1], ?_, rfl, rfl, ?_, rfl⟩
          · (repeat' (fail)) <;> first | rfl | fail
          · (repeat' (first | exact trivial | refine And.intro ?_ ?_ | fail)) <;> first | rfl | exact ren_eq (by first | (simp; done) | fail) (by first | rfl | fail) | fail
end Go.Sh
/- aes: plain facts: S is the reference's. -/
namespace Go.Sh
open Go.Proofs
set_option maxHeartbeats 8000000
set_option maxRecDepth 100000
set_option linter.unusedSimpArgs false

theorem all_u8 {p : UInt8 → Prop} (h : ∀ n : Nat, n < 256 → p (UInt8.ofNat n)) (x : UInt8) : p x := by
  have := h x.toNat (UInt8.toNat_lt _)
  simpa using this
theorem sbx_eq : sbx = [99, 124, 119, 123, 242, 107, 111, 197, 48, 1, 103, 43, 254, 215, 171, 118, 202, 130, 201, 125, 250, 89, 71, 240, 173, 212, 162, 175, 156, 164, 114, 192, 183, 253, 147, 38, 54, 63, 247, 204, 52, 165, 229, 241, 113, 216, 49, 21, 4, 199, 35, 195, 24, 150, 5, 154, 7, 18, 128, 226, 235, 39, 178, 117, 9, 131, 44, 26, 27, 110, 90, 160, 82, 59, 214, 179, 41, 227, 47, 132, 83, 209, 0, 237, 32, 252, 177, 91, 106, 203, 190, 57, 74, 76, 88, 207, 208, 239, 170, 251, 67, 77, 51, 133, 69, 249, 2, 127, 80, 60, 159, 168, 81, 163, 64, 143, 146, 157, 56, 245, 188, 182, 218, 33, 16, 255, 243, 210, 205, 12, 19, 236, 95, 151, 68, 23, 196, 167, 126, 61, 100, 93, 25, 115, 96, 129, 79, 220, 34, 42, 144, 136, 70, 238, 184, 20, 222, 94, 11, 219, 224, 50, 58, 10, 73, 6, 36, 92, 194, 211, 172, 98, 145, 149, 228, 121, 231, 200, 55, 109, 141, 213, 78, 169, 108, 86, 244, 234, 101, 122, 174, 8, 186, 120, 37, 46, 28, 166, 180, 198, 232, 221, 116, 31, 75, 189, 139, 138, 112, 62, 181, 102, 72, 3, 246, 14, 97, 53, 87, 185, 134, 193, 29, 158, 225, 248, 152, 17, 105, 217, 142, 148, 155, 30, 135, 233, 206, 85, 40, 223, 140, 161, 137, 13, 191, 230, 66, 104, 65, 153, 45, 15, 176, 84, 187, 22] := by kernel_rfl
theorem outB_sbx : outB 256 = sbx := by rw [sbx_eq]; kernel_rfl

theorem sb_ofNat : ∀ n : Nat, n < 256 → ∀ m : Nat, m < 256 → sb (UInt8.ofNat n) = sb (UInt8.ofNat m) → n = m := by
  unfold sb
  rw [sbx_eq]
  decide +kernel
theorem sb_inj {x y : UInt8} (h : sb x = sb y) : x = y := by
  have := sb_ofNat x.toNat (UInt8.toNat_lt _) y.toNat (UInt8.toNat_lt _) (by simpa using h)
  exact UInt8.toNat_inj.mp this

/-- The inverse, by the box of the reference. -/
theorem yAll_ok : ∀ n : Nat, n < 256 → yAll (UInt8.ofNat n) 255 = yB n := by decide +kernel
theorem sb_ref (b : UInt8) : obSt (yAll b 255) 8 = sb b := by
  have h : ∀ n : Nat, n < 256 → obSt (yAll (UInt8.ofNat n) 255) 8 = sb (UInt8.ofNat n) := by
    intro n hn
    rw [yAll_ok n hn]
    have : (outB 256).getD n 0 = obB n := by unfold outB; rw [fil_getD hn, if_pos hn]
    rw [outB_sbx] at this
    unfold sb
    rw [show (UInt8.ofNat n).toNat = n by simp; omega, this]; rfl
  exact all_u8 (p := fun x => obSt (yAll x 255) 8 = sb x) h b

end Go.Sh
/- aes: its calls, as laws use them. -/
namespace Go.Sh
open Go.Proofs
set_option maxHeartbeats 8000000
set_option linter.unusedSimpArgs false

theorem cut_u8 {L k : List UInt8} {o n : Nat} (h : (L.drop o).take n = k) : ((L.map SV.u8).drop o).take n = k.map .u8 := by rw [← h, List.map_take, List.map_drop]
theorem f45ns (fl : Bool) (L key : List UInt8) (o : Nat) (hL : (L.drop o).take key.length = key) (h1 : key.length ≠ 16) (h2 : key.length ≠ 32) :
    SCall Try.prog 45 [.sl 0 o key.length 1 fl] [some (.ro (L.map .u8))] (.tup [.pnil, .i 2]) [some (.ro (L.map .u8))] :=
  (f45n fl key h1 h2).sub 0 o (L.map .u8) (key.map .u8) 5 rfl rfl (by rw [List.length_map]; exact cut_u8 hL) (by simp) (by simp) (by decide) ⟨.inl rfl, trivial⟩ rfl ⟨.inl rfl, trivial⟩ ⟨.inl rfl, trivial⟩
theorem f45s_4 (fl : Bool) (L key : List UInt8) (o : Nat) (hk : key.length = 16) (hL : (L.drop o).take 16 = key) :
    SCall Try.prog 45 [.sl 0 o 16 1 fl] [some (.ro (L.map .u8))] (.tup [.p 1 0, .i 0]) [some (.ro (L.map .u8)), some (.box (sbx.map .u8 ++ [.sl 2 0 44 4 false])), some (.row 137 ((wSt key 4 44).map .u8))] :=
  (f45_4 fl key hk).sub 0 o (L.map .u8) (key.map .u8) 5 rfl rfl (by rw [List.length_map, hk]; exact cut_u8 hL) (by simp) (by simp) (by decide) ⟨.inl rfl, trivial⟩ rfl ⟨.inl rfl, trivial⟩
    ⟨.inl rfl, .inr (.inr (by simp only [renB]; rw [ren_app (plainL_u8 _) (c := [SV.sl 2 0 44 4 false]) rfl])), .inr (.inl (by simp)), trivial⟩
theorem f45s_8 (fl : Bool) (L key : List UInt8) (o : Nat) (hk : key.length = 32) (hL : (L.drop o).take 32 = key) :
    SCall Try.prog 45 [.sl 0 o 32 1 fl] [some (.ro (L.map .u8))] (.tup [.p 1 0, .i 0]) [some (.ro (L.map .u8)), some (.box (sbx.map .u8 ++ [.sl 2 0 60 4 false])), some (.row 137 ((wSt key 8 60).map .u8))] :=
  (f45_8 fl key hk).sub 0 o (L.map .u8) (key.map .u8) 5 rfl rfl (by rw [List.length_map, hk]; exact cut_u8 hL) (by simp) (by simp) (by decide) ⟨.inl rfl, trivial⟩ rfl ⟨.inl rfl, trivial⟩
    ⟨.inl rfl, .inr (.inr (by simp only [renB]; rw [ren_app (plainL_u8 _) (c := [SV.sl 2 0 60 4 false]) rfl])), .inr (.inl (by simp)), trivial⟩
/-- Seal, of a block as a list. -/
theorem f47L (n : Nat) (fl : Bool) (w : List UInt8) (R : Nat) (hn : n = 4 * (R + 1)) (hR : w.length = 16 * (R + 1)) (hR1 : 1 ≤ R) (hR2 : R ≤ 20) (b : List UInt8) (hb : b.length = 16) :
    SCall Try.prog 47 [.p 0 0, .agg (b.map .u8)] [some (.ro (sbx.map .u8 ++ [.sl 1 0 n 4 fl])), some (.ro (w.map .u8))]
      (.agg ((sealSt w R b R).map .u8)) [some (.ro (sbx.map .u8 ++ [.sl 1 0 n 4 fl])), some (.ro (w.map .u8))] := by
  obtain ⟨s0, s1, s2, s3, s4, s5, s6, s7, s8, s9, s10, s11, s12, s13, s14, s15, rfl⟩ := ex16 hb
  subst hn
  exact f47 fl w R hR hR1 hR2 s0 s1 s2 s3 s4 s5 s6 s7 s8 s9 s10 s11 s12 s13 s14 s15
theorem wSt_4 (key : List UInt8) : (wSt key 4 44).length = 176 := wSt_len key 4 44
theorem wSt_8 (key : List UInt8) : (wSt key 8 60).length = 240 := wSt_len key 8 60
end Go.Sh
/- gcm: Hash (f60). -/
namespace Go.Sh
open Go.Proofs
set_option maxHeartbeats 4000000
set_option linter.unusedSimpArgs false

/-- A text's k-th block, with noughts behind. -/
def chnk (b : List UInt8) (k : Nat) : List UInt8 := (List.range 16).map fun j => b.getD (16 * k + j) 0
theorem chnk_len (b : List UInt8) (k : Nat) : (chnk b k).length = 16 := rng_len
def yS (h b : List UInt8) : Nat → UInt64 × UInt64
  | 0 => (0, 0)
  | k + 1 => tms ((yS h b k).1 ^^^ (ofL (chnk b k)).1, (yS h b k).2 ^^^ (ofL (chnk b k)).2) (ofL h) 128
theorem yS_z (h b : List UInt8) : yS h b 0 = (0, 0) := rfl
theorem yS_s (h b : List UInt8) (k : Nat) : yS h b (k + 1) = tms ((yS h b k).1 ^^^ (ofL (chnk b k)).1, (yS h b k).2 ^^^ (ofL (chnk b k)).2) (ofL h) 128 := rfl
def hashL (h b : List UInt8) : List UInt8 := blkL (yS h b ((b.length + 15) / 16))
theorem hashL_len (h b : List UInt8) : (hashL h b).length = 16 := rng_len

/-- What copy lays into a block of noughts. -/
theorem chnk_cut (D b : List UInt8) (o k c : Nat) (hD : (D.drop o).take b.length = b) (hk : 16 * k < b.length) (hc : c = min (b.length - 16 * k) 16) :
    sput (List.replicate 16 (SV.u8 0)) 0 (.agg (List.take c (List.take (b.length - 16 * k) (List.drop (o + 16 * k) (D.map SV.u8))))) = (chnk b k).map SV.u8 := by
  subst hc
  have hb : b.map SV.u8 = (List.take b.length (List.drop o (D.map SV.u8))) := (cut_u8 hD).symm
  have e : List.take (b.length - 16 * k) (List.drop (o + 16 * k) (D.map SV.u8)) = (b.map SV.u8).drop (16 * k) := by
    rw [hb, List.drop_take, List.drop_drop]
  rw [e]
  apply List.ext_getElem?
  intro j
  have hl : (List.take (min (b.length - 16 * k) 16) (List.drop (16 * k) (b.map SV.u8))).length = min (b.length - 16 * k) 16 := by simp only [List.length_take, List.length_drop, List.length_map]; omega
  rw [sput_eq _ _ _ (by simp only [SV.cells, List.length_replicate]; rw [hl]; omega)]
  simp only [SV.cells, List.take_zero, List.nil_append, Nat.zero_add, hl]
  by_cases h1 : j < min (b.length - 16 * k) 16
  · rw [List.getElem?_append_left (by rw [hl]; exact h1), List.getElem?_take_of_lt h1, List.getElem?_drop]
    have h2 : j < 16 := by omega
    have h3 : 16 * k + j < b.length := by omega
    simp only [chnk, List.getElem?_map, List.getElem?_range h2, Option.map_some, List.getElem?_eq_getElem h3, List.getD_eq_getElem?_getD, Option.getD_some]
  · rw [List.getElem?_append_right (by rw [hl]; omega), hl, List.getElem?_drop]
    by_cases h2 : j < 16
    · rw [show min (b.length - 16 * k) 16 + (j - min (b.length - 16 * k) 16) = j by omega, List.getElem?_replicate, if_pos h2]
      simp only [chnk, List.getElem?_map, List.getElem?_range h2, Option.map_some, List.getD_eq_getElem?_getD]
      rw [List.getElem?_eq_none (by omega)]; rfl
    · rw [List.getElem?_eq_none (by simp; omega), List.getElem?_eq_none (by simp [chnk]; omega)]
attribute [local irreducible] yS chnk tms rev64 be8

theorem f60 (h D b : List UInt8) (o : Nat) (f : Bool) (hh : h.length = 16) (hD : (D.drop o).take b.length = b) (hoD : o + b.length ≤ D.length) (hb : b.length < 100000000000000) :
    SCall Try.prog 60 [.agg (h.map .u8), .sl 0 o b.length 1 f] [some (.ro (D.map .u8))] (.agg ((hashL h b).map .u8)) [some (.ro (D.map .u8))] := by
  have h90 := f90 h hh
  obtain ⟨K, hK⟩ : ∃ K, K = ofL h := ⟨_, rfl⟩
  have hK1 : rev64 (be8 h 0 8) = K.1 := by rw [hK]; rfl
  have hK2 : rev64 (be8 h 8 8) = K.2 := by rw [hK]; rfl
  rw [hK1, hK2] at h90
  refine scall_of ttOk (by kernel_rfl : Try.prog.funcs[60]? = some Try.f60) rfl rfl rfl ?_
  refine sw_ok ttOk mixed (by kernel_rfl) ?_
  conv => whnf
  repeat (first | (refine Exists.intro _ (And.intro (sload_all rfl (by first | rfl | (simp; omega))) ?_); conv => whnf) | fail)
  refine ok1_callP [] (h90) rfl rfl ⟨⟨rfl, by first | ((repeat' (first | exact wk_nil | exact ren_m8 rfl | (refine wk_agg ?_) | (refine wk_cons ?_ ?_))); done) | fail⟩, trivial, by first | rfl | fail, ?_⟩
  conv => whnf
  repeat (first | (refine Exists.intro _ (And.intro (sput_all rfl (by first | rfl | fail)) ?_); conv => whnf) | (refine And.intro (by first | omega | (simp; done) | fail) ?_; conv => whnf) | fail)
  refine SWp.weak (Weak.unfull 1 rfl) ?_
  refine loop_rule ttOk mixed (by kernel_rfl) (ι := { k : Nat // k ≤ (b.length + 15) / 16 }) (fun k => [(1, .sl 0 (o + min (16 * k.1) b.length) (b.length - min (16 * k.1) b.length) 1 false), (6, .p 4 0), (5, .p 3 0), (4, .p 2 0)]) (fun k => [some (.ro (D.map .u8)), none, some (.box (List.replicate 16 (.u8 0))), some (.box [.u64 K.1, .u64 K.2]), some (.box [.u64 (yS h b k.1).1, .u64 (yS h b k.1).2])]) (fun _ => 5) (fun k => (b.length + 15) / 16 - k.1) ⟨0, by omega⟩ ?_ ?_
  · dsimp only
    rw [yS_z]
    refine Weak.sel [0, 1, 2, 3, 4] rfl rfl ?_ ?_ rfl rfl
    · (repeat' (first | exact trivial | refine And.intro ?_ ?_ | fail)) <;> first | rfl | fail
    · (repeat' (first | exact trivial | refine And.intro ?_ ?_ | (refine wk_cons ?_ ?_))) <;> first | rfl | exact ren_eq (by first | (simp; done) | fail) (by first | rfl | fail) | fail
  · rintro ⟨k, hk⟩
    dsimp only
    by_cases hk2 : 16 * k < b.length
    · have hmin : min (16 * k) b.length = 16 * k := by omega
      have hlt : decide (((b.length - 16 * k : Nat) : Int) > 0) = true := by simp; omega
      have hcut := chnk_cut D b o k _ hD hk2 rfl
      have h90c := f90 (chnk b k) (chnk_len b k)
      have hcl := chnk_len b k
      rw [hmin]
      have hcut2 : sput (List.replicate 16 (SV.u8 0)) (0 + 0 * ti5.sz) (SV.agg (List.take (min (b.length - 16 * k) (16 - 0) * ti5.sz) (List.take ((b.length - 16 * k) * ti5.sz) (List.drop (o + 16 * k) (SB.ro (List.map SV.u8 D)).cells)))) = (chnk b k).map SV.u8 := by
        rw [show min (b.length - 16 * k) (16 - 0) * ti5.sz = min (b.length - 16 * k) 16 from Nat.mul_one _, show (b.length - 16 * k) * ti5.sz = b.length - 16 * k from Nat.mul_one _]
        exact hcut
      have hld : (if 0 + ti79.sz ≤ (SB.box (List.map SV.u8 (chnk b k))).cells.length then some (SV.agg (List.take ti79.sz (List.drop 0 (SB.box (List.map SV.u8 (chnk b k))).cells))) else none) = some (SV.agg ((chnk b k).map SV.u8)) :=
        sload_all (sz := 16) (k := 0) rfl (by simp [hcl])
      have hys := yS_s h b k
      rw [← hK] at hys
      conv => whnf
      first | refine brT (by exact hlt) ?_ | fail
      conv => whnf
      repeat (first | (refine Exists.intro _ (And.intro (sload_all rfl (by first | rfl | fail)) ?_); conv => whnf) | (refine Exists.intro _ (And.intro rfl ?_); conv => whnf) | (refine pkT rfl ?_; conv => whnf) | (refine And.intro (by first | omega | (simp; done) | (simp; omega) | fail) ?_; conv => whnf) | fail)
      rw [hcut2, hld]
      conv => whnf
      refine ok1_callP [] (h90c) rfl rfl ⟨⟨rfl, by first | ((repeat' (first | exact wk_nil | exact ren_m8 rfl | (refine wk_agg ?_) | (refine wk_cons ?_ ?_))); done) | fail⟩, trivial, by first | rfl | fail, ?_⟩
      conv => whnf
      repeat (fail)
      refine ok1_callP [] (f91 (yS h b k).1 (yS h b k).2 (ofL (chnk b k)).1 (ofL (chnk b k)).2) rfl rfl ⟨⟨rfl, by first | rfl | fail⟩, trivial, by first | rfl | fail, ?_⟩
      conv => whnf
      repeat (first | (refine Exists.intro _ (And.intro (sload_all rfl (by first | rfl | fail)) ?_); conv => whnf) | fail)
      refine ok1_callP [] (f92 ((yS h b k).1 ^^^ (ofL (chnk b k)).1, (yS h b k).2 ^^^ (ofL (chnk b k)).2) K) rfl rfl ⟨⟨rfl, by first | rfl | fail⟩, trivial, by first | rfl | fail, ?_⟩
      conv => whnf
      repeat (first | (refine Exists.intro _ (And.intro (sput_all rfl (by first | rfl | fail)) ?_); conv => whnf) | (refine And.intro (by first | omega | (simp; done) | fail) ?_; conv => whnf) | (refine And.intro (by kernel_rfl) ?_; conv => whnf) | fail)
      refine ⟨⟨k + 1, by omega⟩, by simp only; omega, ?_⟩
      dsimp only
      rw [hys]
      refine Weak.sel [0, 1, 2, 3, 4] rfl rfl ?_ ?_ rfl rfl
      · (repeat' (first | exact trivial | refine And.intro ?_ ?_ | fail)) <;> first | rfl | exact wk_sl rfl (by first | omega | fail) (by first | omega | fail) | fail
      · (repeat' (first | exact trivial | refine And.intro ?_ ?_ | (refine wk_cons ?_ ?_))) <;> first | rfl | exact ren_eq (by first | (simp; done) | fail) (by first | rfl | fail) | fail
    · have hmin : min (16 * k) b.length = b.length := by omega
      have hke : k = (b.length + 15) / 16 := by omega
      rw [hmin, Nat.sub_self]
      have h93 := f93 (yS h b k).1 (yS h b k).2
      have hfin : (List.range 16).map (bB (yS h b k).1 (yS h b k).2) = hashL h b := by rw [hke]; rfl
      have hhl := hashL_len h b
      rw [hfin] at h93
      conv => whnf
      first | refine brF (by rfl) ?_ | fail
      conv => whnf
      repeat (first | (refine Exists.intro _ (And.intro (sload_all rfl (by first | rfl | fail)) ?_); conv => whnf) | fail)
      refine ok1_callF [] [] true (h93) rfl rfl ⟨⟨rfl, by first | rfl | fail⟩, trivial, by first | rfl | fail, by first | rfl | fail, ?_⟩
      conv => whnf
      repeat (first | (refine Exists.intro _ (And.intro (sload_all rfl (by first | rfl | fail)) ?_); conv => whnf) | (refine Exists.intro _ (And.intro (sput_all rfl (by first | rfl | fail)) ?_); conv => whnf) | (refine And.intro (by first | omega | (simp; omega) | fail) ?_; conv => whnf) | fail)
      refine ⟨[0], ?_, rfl, rfl, ?_, rfl⟩
      · (repeat' (first | (refine wk_agg ?_) | (refine wk_cons ?_ ?_))) <;> first | rfl | fail
      · (repeat' (first | exact trivial | refine And.intro ?_ ?_ | fail)) <;> first | exact ren_eq (by first | (simp; done) | fail) (by first | rfl | fail) | fail
end Go.Sh
/- ctr: the next counter (f54). -/
namespace Go.Sh
open Go.Proofs
set_option maxHeartbeats 1000000
set_option linter.unusedSimpArgs false

theorem f54 (c0 c1 c2 c3 c4 c5 c6 c7 c8 c9 c10 c11 c12 c13 c14 c15 : UInt8) : SCall Try.prog 54 [.agg ([c0, c1, c2, c3, c4, c5, c6, c7, c8, c9, c10, c11, c12, c13, c14, c15].map .u8)] [] (.agg ((nextC [c0, c1, c2, c3, c4, c5, c6, c7, c8, c9, c10, c11, c12, c13, c14, c15]).map .u8)) [] := by
  have hn : nextC [c0, c1, c2, c3, c4, c5, c6, c7, c8, c9, c10, c11, c12, c13, c14, c15] = [c0, c1, c2, c3, c4, c5, c6, c7, c8, c9, c10, c11] ++ inc4 c12 c13 c14 c15 := rfl
  rw [hn]
  refine scall_of ttOk (by kernel_rfl : Try.prog.funcs[54]? = some Try.f54) rfl rfl rfl ?_
  refine sw_ok ttOk mixed (by kernel_rfl) ?_
  conv => whnf
  repeat (fail)
  refine loop_rounds ttOk mixed (by kernel_rfl) 5 ?_
  conv => whnf
  by_cases h15 : c15 + 1 ≠ 0
  · have hq : inc4 c12 c13 c14 c15 = [c12, c13, c14, c15 + 1] := by unfold inc4; rw [if_pos h15]
    have g15 : (c15 + 1 != 0) = true := by simp [h15]
    rw [hq]
    repeat (first | (refine brT rfl ?_; conv => whnf) | (refine Exists.intro _ (And.intro (sload_all rfl (by first | rfl | fail)) ?_); conv => whnf) | (refine Exists.intro _ (And.intro (sput_all rfl (by first | rfl | fail)) ?_); conv => whnf) | (refine gdT g15 ?_; conv => whnf) | (refine Exists.intro _ (And.intro rfl ?_); conv => whnf) | (refine And.intro (by first | omega | (simp; done) | fail) ?_; conv => whnf) | fail)
    refine ⟨[], ?_, rfl, rfl, ?_, rfl⟩
    · (repeat' (first | (refine wk_agg ?_) | (refine wk_cons ?_ ?_))) <;> first | rfl | fail
    · (repeat' (first | exact trivial | fail)) <;> fail
  · have g15 : (c15 + 1 != 0) = false := by simpa using h15
    by_cases h14 : c14 + 1 ≠ 0
    · have hq : inc4 c12 c13 c14 c15 = [c12, c13, c14 + 1, c15 + 1] := by unfold inc4; rw [if_neg h15, if_pos h14]
      have g14 : (c14 + 1 != 0) = true := by simp [h14]
      rw [hq]
      repeat (first | (refine brT rfl ?_; conv => whnf) | (refine Exists.intro _ (And.intro (sload_all rfl (by first | rfl | fail)) ?_); conv => whnf) | (refine Exists.intro _ (And.intro (sput_all rfl (by first | rfl | fail)) ?_); conv => whnf) | (refine gdF g15 ?_; conv => whnf) | (refine gdT g14 ?_; conv => whnf) | (refine Exists.intro _ (And.intro rfl ?_); conv => whnf) | (refine And.intro (by first | omega | (simp; done) | fail) ?_; conv => whnf) | (refine And.intro (Nat.le_of_ble_eq_true rfl) ?_; conv => whnf) | (refine And.intro ⟨rfl, Nat.le_of_ble_eq_true rfl⟩ ?_; conv => whnf) | fail)
      refine ⟨[], ?_, rfl, rfl, ?_, rfl⟩
      · (repeat' (first | (refine wk_agg ?_) | (refine wk_cons ?_ ?_))) <;> first | rfl | fail
      · (repeat' (first | exact trivial | fail)) <;> fail
    · have g14 : (c14 + 1 != 0) = false := by simpa using h14
      by_cases h13 : c13 + 1 ≠ 0
      · have hq : inc4 c12 c13 c14 c15 = [if c13 + 1 ≠ 0 then c12 else c12 + 1, c13 + 1, c14 + 1, c15 + 1] := by unfold inc4; rw [if_neg h15, if_neg h14]; simp only [if_pos h13]
        have g13 : (c13 + 1 != 0) = true := by simpa using h13
        rw [hq]
        simp only [if_pos h13]
        by_cases h12 : c12 + 1 ≠ 0
        · have g12 : (c12 + 1 != 0) = true := by simp [h12]
          repeat (first | (refine brT rfl ?_; conv => whnf) | (refine Exists.intro _ (And.intro (sload_all rfl (by first | rfl | fail)) ?_); conv => whnf) | (refine Exists.intro _ (And.intro (sput_all rfl (by first | rfl | fail)) ?_); conv => whnf) | (refine gdF g15 ?_; conv => whnf) | (refine gdF g14 ?_; conv => whnf) | (refine gdT g13 ?_; conv => whnf) | (refine Exists.intro _ (And.intro rfl ?_); conv => whnf) | (refine And.intro (by first | omega | (simp; done) | fail) ?_; conv => whnf) | (refine And.intro (Nat.le_of_ble_eq_true rfl) ?_; conv => whnf) | (refine And.intro ⟨rfl, Nat.le_of_ble_eq_true rfl⟩ ?_; conv => whnf) | fail)
          refine ⟨[], ?_, rfl, rfl, ?_, rfl⟩
          · (repeat' (first | (refine wk_agg ?_) | (refine wk_cons ?_ ?_))) <;> first | rfl | fail
          · (repeat' (first | exact trivial | fail)) <;> fail
        · have g12 : (c12 + 1 != 0) = false := by simpa using h12
          repeat (first | (refine brT rfl ?_; conv => whnf) | (refine Exists.intro _ (And.intro (sload_all rfl (by first | rfl | fail)) ?_); conv => whnf) | (refine Exists.intro _ (And.intro (sput_all rfl (by first | rfl | fail)) ?_); conv => whnf) | (refine gdF g15 ?_; conv => whnf) | (refine gdF g14 ?_; conv => whnf) | (refine gdT g13 ?_; conv => whnf) | (refine Exists.intro _ (And.intro rfl ?_); conv => whnf) | (refine And.intro (by first | omega | (simp; done) | fail) ?_; conv => whnf) | (refine And.intro (Nat.le_of_ble_eq_true rfl) ?_; conv => whnf) | (refine And.intro ⟨rfl, Nat.le_of_ble_eq_true rfl⟩ ?_; conv => whnf) | fail)
          refine ⟨[], ?_, rfl, rfl, ?_, rfl⟩
          · (repeat' (first | (refine wk_agg ?_) | (refine wk_cons ?_ ?_))) <;> first | rfl | fail
          · (repeat' (first | exact trivial | fail)) <;> fail
      · have hq : inc4 c12 c13 c14 c15 = [if c13 + 1 ≠ 0 then c12 else c12 + 1, c13 + 1, c14 + 1, c15 + 1] := by unfold inc4; rw [if_neg h15, if_neg h14]; simp only [if_neg h13]
        have g13 : (c13 + 1 != 0) = false := by simpa using h13
        rw [hq]
        simp only [if_neg h13]
        by_cases h12 : c12 + 1 ≠ 0
        · have g12 : (c12 + 1 != 0) = true := by simp [h12]
          repeat (first | (refine brT rfl ?_; conv => whnf) | (refine Exists.intro _ (And.intro (sload_all rfl (by first | rfl | fail)) ?_); conv => whnf) | (refine Exists.intro _ (And.intro (sput_all rfl (by first | rfl | fail)) ?_); conv => whnf) | (refine gdF g15 ?_; conv => whnf) | (refine gdF g14 ?_; conv => whnf) | (refine gdF g13 ?_; conv => whnf) | (refine gdT g12 ?_; conv => whnf) | (refine Exists.intro _ (And.intro rfl ?_); conv => whnf) | (refine And.intro (by first | omega | (simp; done) | fail) ?_; conv => whnf) | (refine And.intro (Nat.le_of_ble_eq_true rfl) ?_; conv => whnf) | (refine And.intro ⟨rfl, Nat.le_of_ble_eq_true rfl⟩ ?_; conv => whnf) | fail)
          refine ⟨[], ?_, rfl, rfl, ?_, rfl⟩
          · (repeat' (first | (refine wk_agg ?_) | (refine wk_cons ?_ ?_))) <;> first | rfl | fail
          · (repeat' (first | exact trivial | fail)) <;> fail
        · have g12 : (c12 + 1 != 0) = false := by simpa using h12
          repeat (first | (refine brT rfl ?_; conv => whnf) | (refine brF rfl ?_; conv => whnf) | (refine Exists.intro _ (And.intro (sload_all rfl (by first | rfl | fail)) ?_); conv => whnf) | (refine Exists.intro _ (And.intro (sput_all rfl (by first | rfl | fail)) ?_); conv => whnf) | (refine gdF g15 ?_; conv => whnf) | (refine gdF g14 ?_; conv => whnf) | (refine gdF g13 ?_; conv => whnf) | (refine gdF g12 ?_; conv => whnf) | (refine Exists.intro _ (And.intro rfl ?_); conv => whnf) | (refine And.intro (by first | omega | (simp; done) | fail) ?_; conv => whnf) | (refine And.intro (Nat.le_of_ble_eq_true rfl) ?_; conv => whnf) | (refine And.intro ⟨rfl, Nat.le_of_ble_eq_true rfl⟩ ?_; conv => whnf) | fail)
          refine ⟨[], ?_, rfl, rfl, ?_, rfl⟩
          · (repeat' (first | (refine wk_agg ?_) | (refine wk_cons ?_ ?_))) <;> first | rfl | fail
          · (repeat' (first | exact trivial | fail)) <;> fail

end Go.Sh
/- ctr: Blocks (f89), Turn (f53). -/
namespace Go.Sh
open Go.Proofs
set_option maxHeartbeats 4000000
set_option linter.unusedSimpArgs false

theorem f54L (c : List UInt8) (hc : c.length = 16) : SCall Try.prog 54 [.agg (c.map .u8)] [] (.agg ((nextC c).map .u8)) [] := by
  obtain ⟨s0, s1, s2, s3, s4, s5, s6, s7, s8, s9, s10, s11, s12, s13, s14, s15, rfl⟩ := ex16 hc
  exact f54 s0 s1 s2 s3 s4 s5 s6 s7 s8 s9 s10 s11 s12 s13 s14 s15

theorem f89 (n : Nat) (fl : Bool) (w : List UInt8) (c : List UInt8) : SCall Try.prog 89 [.p 0 0, .agg (c.map .u8)] [some (.ro (sbx.map .u8 ++ [.sl 1 0 n 4 fl])), some (.ro (w.map .u8))] (.fn 102 [.p 2 0, .p 3 0]) [some (.ro (sbx.map .u8 ++ [.sl 1 0 n 4 fl])), some (.ro (w.map .u8)), some (.box [.p 0 0]), some (.box (c.map .u8))] := by
  refine scall_of ttOk (by kernel_rfl : Try.prog.funcs[89]? = some Try.f89) rfl rfl rfl ?_
  refine sw_ok ttOk mixed (by kernel_rfl) ?_
  conv => whnf
  repeat (fail)
  refine ⟨[0, 1, 2, 3], ?_, rfl, rfl, ?_, rfl⟩
  · (repeat' (fail)) <;> first | rfl | fail
  · (repeat' (first | exact trivial | refine And.intro ?_ ?_ | (refine wk_cons ?_ ?_))) <;> first | rfl | exact ren_eq (by first | (simp; done) | fail) (by first | rfl | fail) | exact ren_app2 (by first | (simp; done) | fail) (by first | rfl | fail) rfl | fail

theorem f53_1 (n : Nat) (fl : Bool) (w : List UInt8) (R : Nat) (hn : n = 4 * (R + 1)) (hw : w.length = 16 * (R + 1)) (hR1 : 1 ≤ R) (hR2 : R ≤ 20) (c D b : List UInt8) (o : Nat) (hD : (D.drop o).take b.length = b) (hoD : o + b.length ≤ D.length) (hc : c.length = 16) (hb : b.length < 100000000000000) (f1 f2 : Bool) :
    SCall Try.prog 53 [.p 0 0, .agg (c.map .u8), .sl 2 0 1 1 f1] [some (.ro (sbx.map .u8 ++ [.sl 1 0 n 4 fl])), some (.ro (w.map .u8)), some (.ro [.sl 3 o b.length 1 f2]), some (.ro (D.map .u8))]
      (.tup [.sl 4 0 b.length 1 false, .i 0]) [some (.ro (sbx.map .u8 ++ [.sl 1 0 n 4 fl])), some (.ro (w.map .u8)), some (.ro [.sl 3 o b.length 1 f2]), some (.ro (D.map .u8)), some (.row 5 ((turnL w R c b).map .u8))] := by
  have h89 := f89 n fl w c
  have hb0 : b.map SV.u8 = List.take (b.length * 1) (List.drop o (D.map SV.u8)) := by rw [Nat.mul_one]; exact (cut_u8 hD).symm
  refine scall_of ttOk (by kernel_rfl : Try.prog.funcs[53]? = some Try.f53) rfl rfl rfl ?_
  refine sw_ok ttOk mixed (by kernel_rfl) ?_
  conv => whnf
  repeat (first | (refine brF rfl ?_; conv => whnf) | (refine And.intro (by kernel_rfl) ?_; conv => whnf) | fail)
  refine loop_rounds ttOk mixed (by kernel_rfl) 2 ?_
  conv => whnf
  repeat (first | (refine brT rfl ?_; conv => whnf) | (refine brF rfl ?_; conv => whnf) | (refine Exists.intro _ (And.intro (sload_all rfl (by first | rfl | (simp; omega))) ?_); conv => whnf) | (refine Exists.intro _ (And.intro rfl ?_); conv => whnf) | (refine And.intro (by first | omega | (simp; done) | (simp [ti5]; omega)) ?_; conv => whnf) | fail)
  refine ok1_callF [0, 1] [false, true, false, true] false (h89) rfl rfl ⟨⟨rfl, by first | ((repeat' (first | exact wk_nil | exact ren_m8 rfl | exact rfl | (refine wk_agg ?_) | (refine wk_cons ?_ ?_))); done) | fail⟩, by (repeat' (first | exact trivial | refine And.intro ?_ ?_)) <;> first | exact ren_eq (by first | (simp; done) | fail) (by first | rfl | fail) | exact ren_app2 (by first | (simp; done) | fail) (by first | rfl | fail) (by first | rfl | fail), by first | simp [plainHf, plainB], by first | rfl | fail, ?_⟩
  conv => whnf
  repeat (fail)
  refine SWp.weak (R0 := [(8, .p 5 0), (11, .p 7 0), (28, .fn 102 [.p 8 0, .p 9 0])]) (H0 := [some (.ro (sbx.map .u8 ++ [.sl 1 0 n 4 fl])), some (.ro (w.map .u8)), some (.ro [.sl 3 o b.length 1 f2]), some (.ro ((D).map .u8)), none, some (.box [.sl 6 0 b.length 1 false]), some (.row 5 (b.map .u8)), some (.box [.i 0]), some (.box [.p 0 0]), some (.box (c.map .u8))]) (L0 := 10) ?_ ?_
  · refine Weak.sel [0, 1, 2, 3, 4, 5, 6, 7, 8, 9] rfl rfl ?_ ?_ rfl rfl
    · (repeat' (first | exact trivial | refine And.intro ?_ ?_ | fail)) <;> first | rfl | fail
    · (repeat' (first | exact trivial | exact ren_eq (plainL_u8 _) hb0 | refine And.intro ?_ ?_ | (refine wk_cons ?_ ?_))) <;> first | rfl | exact ren_eq (by first | (simp; done) | fail) (by first | rfl | fail) | exact ren_app2 (by first | (simp; done) | fail) (by first | rfl | fail) rfl | fail
  refine range_named rfl rfl rfl (by kernel_rfl : Try.prog.funcs[102]? = some Try.f102) rfl rfl rfl rfl ?_
  intro asq bdq hasq hbdq
  refine sw_ok ttOk mixed (by kernel_rfl) ?_
  conv => whnf
  repeat (fail)
  refine loop_rule ttOk mixed (by kernel_rfl) (ι := { k : Nat // k = 0 ∨ 16 * k < b.length }) (fun k => [(0, .yld 10), (1, .p 8 0), (2, .p 9 0)]) (fun k => [some (.ro (sbx.map .u8 ++ [.sl 1 0 n 4 fl])), some (.ro (w.map .u8)), some (.ro [.sl 3 o b.length 1 f2]), some (.ro ((D).map .u8)), none, some (.box [.sl 6 0 b.length 1 false]), some (.row 5 ((fil b.length (16 * k.1) (trn w R c b) (fun j => b.getD j 0)).map .u8)), some (.box [.i ((16 * k.1 : Nat) : Int)]), some (.box [.p 0 0]), some (.box ((ctrN c k.1).map .u8)), some (.obj (.loop [(8, .p 5 0), (11, .p 7 0)] Try.f53.ntmps [29] asq bdq))]) (fun _ => 11) (fun k => b.length - 16 * k.1) ⟨0, .inl rfl⟩ ?_ ?_
  · have hz : fil b.length (16 * 0) (trn w R c b) (fun j => b.getD j 0) = b := fil_of_list rfl
    refine Weak.sel [0, 1, 2, 3, 4, 5, 6, 7, 8, 9, 10] rfl rfl ?_ ?_ rfl rfl
    · (repeat' (first | exact trivial | refine And.intro ?_ ?_ | fail)) <;> first | rfl | fail
    · (repeat' (first | exact trivial | refine And.intro ?_ ?_ | (refine wk_cons ?_ ?_))) <;> first | exact ren_m8 (by first | exact hz | fail) | rfl | exact ren_eq (by first | (simp; done) | fail) (by first | rfl | fail) | exact ren_app2 (by first | (simp; done) | fail) (by first | rfl | fail) rfl | fail
  · rintro ⟨k, hk⟩
    have hf := fil_len b.length (16 * k) (trn w R c b) (fun j => b.getD j 0)
    have hcl := ctrN_len hc k
    have hse := f47L n fl w R hn hw hR1 hR2 (ctrN c k) hcl
    have h54 := f54L (ctrN c k) hcl
    rw [ksB_eq] at hse
    have hkl := ksB_len (w := w) (R := R) hc k
    dsimp only
    conv => whnf
    repeat (first | (refine brT rfl ?_; conv => whnf) | (refine Exists.intro _ (And.intro (sload_all rfl (by first | rfl | (simp; omega))) ?_); conv => whnf) | (refine Exists.intro _ (And.intro rfl ?_); conv => whnf) | (refine And.intro (by kernel_rfl) ?_; conv => whnf) | fail)
    refine ok1_callF [0, 1] [false, false] true (hse) rfl rfl ⟨⟨rfl, by first | ((repeat' (first | exact wk_nil | exact ren_m8 rfl | exact rfl | (refine wk_agg ?_) | (refine wk_cons ?_ ?_))); done) | fail⟩, by (repeat' (first | exact trivial | refine And.intro ?_ ?_)) <;> first | exact ren_eq (by first | (simp; done) | fail) (by first | rfl | fail) | exact ren_app2 (by first | (simp; done) | fail) (by first | rfl | fail) (by first | rfl | fail), by first | rfl | fail, by first | simp [plainRf, plainR, plainT, plainW], ?_⟩
    conv => whnf
    repeat (first | (refine brT rfl ?_; conv => whnf) | fail)
    have hcase : b.length ≤ 16 * (k + 1) ∨ 16 * (k + 1) < b.length := by omega
    rcases hcase with hca | hca
    · refine ok1_yield 10 [5, 6, 7] [false, false, true, true] (syield_of (ps := [29]) (N := Try.f53.ntmps) (R0 := [(8, .p 1 0), (11, .p 3 0)]) (args0 := [.agg ((ksB w R c k).map .u8)]) (ex := (.exit 2)) (H0t := [some (.box [.sl 2 0 b.length 1 false]), some (.row 5 ((fil b.length (16 * k) (trn w R c b) (fun j => b.getD j 0)).map .u8)), some (.box [.i ((16 * k : Nat) : Int)])]) (H1t := [some (.box [.sl 2 0 b.length 1 false]), some (.row 5 ((fil b.length (b.length) (trn w R c b) (fun j => b.getD j 0)).map .u8)), some (.box [.i ((b.length : Nat) : Int)])]) (.inr (.inr ⟨2, rfl⟩)) rfl rfl rfl ?_) rfl rfl ⟨⟨rfl, by first | ((repeat' (first | exact wk_nil | exact ren_m8 rfl | (refine wk_agg ?_) | (refine wk_cons ?_ ?_))); done)⟩, by (repeat' (first | exact trivial | refine And.intro ?_ ?_)) <;> first | exact ren_m8 rfl | rfl | fail, by first | (simp [plainHf, plainB]; done) | fail, ?_⟩
      · subst hasq
        subst hbdq
        refine sw_ok ttOk mixed (by kernel_rfl) ?_
        conv => whnf
        repeat (first | (refine Exists.intro _ (And.intro (sput_all rfl (by first | rfl | (simp [hkl]; done) | fail)) ?_); conv => whnf) | (refine And.intro (by first | omega | (simp; done) | (simp; omega) | fail) ?_; conv => whnf) | (refine And.intro (by kernel_rfl) ?_; conv => whnf) | fail)
        refine sw_ok ttOk mixed (by kernel_rfl) ?_
        conv => whnf
        repeat (fail)
        refine loop_rule ttOk mixed (by kernel_rfl) (ι := { i : Nat // i ≤ 16 ∧ 16 * k + i ≤ b.length }) (fun i => [(8, .p 1 0), (11, .p 3 0), (12, .p 4 0), (13, .i (i.1 : Int))]) (fun i => [none, some (.box [.sl 2 0 b.length 1 false]), some (.row 5 ((fil b.length (16 * k + i.1) (trn w R c b) (fun j => b.getD j 0)).map .u8)), some (.box [.i ((16 * k + i.1 : Nat) : Int)]), some (.box ((ksB w R c k).map .u8))]) (fun _ => 5) (fun i => 16 - i.1) ⟨0, by omega, by omega⟩ ?_ ?_
        · refine Weak.sel [0, 1, 2, 3, 4] rfl rfl ?_ ?_ rfl rfl
          · (repeat' (first | exact trivial | refine And.intro ?_ ?_ | fail)) <;> first | rfl | fail
          · (repeat' (first | exact trivial | refine And.intro ?_ ?_ | (refine wk_cons ?_ ?_))) <;> first | rfl | exact ren_eq (by first | (simp; done) | fail) (by first | rfl | fail) | fail
        · rintro ⟨i, hi, him⟩
          have hf := fil_len b.length (16 * k + i) (trn w R c b) (fun j => b.getD j 0)
          dsimp only
          by_cases hi2 : i < 16
          · have hl1 : decide ((i : Int) < 16) = true := by simp; omega
            by_cases hm2 : 16 * k + i < b.length
            · have hl2 : decide (((16 * k + i : Nat) : Int) < (b.length : Int)) = true := by simp; omega
              have hp1 := wp1 i (by omega)
              have hp2 := wp1 (16 * k + i) (by omega)
              have hx : (fil b.length (16 * k + i) (trn w R c b) (fun j => b.getD j 0)).getD (16 * k + i) 0 ^^^ (ksB w R c k).getD i 0 = trn w R c b (16 * k + i) := by
                rw [fil_getD hm2, if_neg (by omega)]
                unfold trn
                rw [show (16 * k + i) / 16 = k by omega, show (16 * k + i) % 16 = i by omega]
              have hst := fil_setx (g := fun j => b.getD j 0) hm2 hx
              conv => whnf
              repeat (first | (refine gdT hl1 ?_; conv => whnf) | (refine pkT hl1 ?_; conv => whnf) | (refine gdT hl2 ?_; conv => whnf) | (refine Exists.intro _ (And.intro (sput_m8 (i := 16 * k + i) (by first | rfl | omega | fail)) ?_); conv => whnf) | (refine Exists.intro _ (And.intro (sload_u8 (i := 16 * k + i) (by first | rfl | omega | fail) (by first | omega | fail)) ?_); conv => whnf) | (refine Exists.intro _ (And.intro (idx_i (m := 16 * k + i) (by first | rfl | fail)) ?_); conv => whnf) | (refine Exists.intro _ (And.intro (sload_u8 (i := i) (by first | rfl | (simp; done) | fail) (by first | omega | fail)) ?_); conv => whnf) | (refine Exists.intro _ (And.intro (idx_i (m := i) (by first | rfl | fail)) ?_); conv => whnf) | (refine Exists.intro _ (And.intro rfl ?_); conv => whnf) | (refine And.intro (by first | omega | (simp; done) | fail) ?_; conv => whnf) | (refine And.intro (by kernel_rfl) ?_; conv => whnf) | (refine And.intro ⟨by first | exact @rfl Nat _ | fail, by first | (simp only [hf, hkl, ti5, List.length_map]; omega) | fail⟩ ?_; conv => whnf) | fail)
              refine ⟨⟨i + 1, by omega, by omega⟩, by simp only; omega, ?_⟩
              refine Weak.sel [0, 1, 2, 3, 4] rfl rfl ?_ ?_ rfl rfl
              · (repeat' (first | exact trivial | refine And.intro ?_ ?_ | fail)) <;> first | rfl | exact wk_i (by first | exact hp1.symm | fail) | fail
              · (repeat' (first | exact trivial | refine And.intro ?_ ?_ | (refine wk_cons ?_ ?_))) <;> first | exact ren_m8 (by first | exact hst | exact hst.symm | fail) | rfl | exact wk_i (by first | rfl | exact hp2.symm | fail) | exact ren_eq (by first | (simp; done) | fail) (by first | rfl | fail) | fail
            · have hl2 : decide (((16 * k + i : Nat) : Int) < (b.length : Int)) = false := by simp; omega
              have hmm : 16 * k + i = b.length := by omega
              have hl3 : (((16 * k + i : Nat) : Int) == (b.length : Int)) = true := by simp; omega
              conv => whnf
              repeat (first | (refine gdT hl1 ?_; conv => whnf) | (refine pkT hl1 ?_; conv => whnf) | (refine gdF hl2 ?_; conv => whnf) | (refine gdT hl3 ?_; conv => whnf) | (refine Exists.intro _ (And.intro rfl ?_); conv => whnf) | (refine And.intro (by first | omega | (simp; done) | fail) ?_; conv => whnf) | (refine And.intro (by kernel_rfl) ?_; conv => whnf) | fail)
              have hfm : fil b.length (16 * k + i) (trn w R c b) (fun j => b.getD j 0) = fil b.length (b.length) (trn w R c b) (fun j => b.getD j 0) := by rw [hmm]
              exact ⟨[0, 1, 2, 3], rfl, rfl, by (repeat' (first | exact trivial | refine And.intro ?_ ?_)) <;> first | exact ren_m8 (by first | rfl | exact hfm.symm | fail) | rfl | exact wk_cons (wk_i (by first | omega)) rfl, rfl⟩
          · obtain rfl : i = 16 := by omega
            have hl1 : decide (((16 : Nat) : Int) < 16) = false := by decide
            have hmm : 16 * k + 16 = b.length := by omega
            have hl3 : (((16 * k + 16 : Nat) : Int) == (b.length : Int)) = true := by simp; omega
            conv => whnf
            repeat (first | (refine brF rfl ?_; conv => whnf) | (refine pkF hl1 ?_; conv => whnf) | (refine gdT hl3 ?_; conv => whnf) | (refine And.intro (by first | omega | (simp; done) | fail) ?_; conv => whnf) | (refine And.intro (by kernel_rfl) ?_; conv => whnf) | fail)
            have hfm : fil b.length (16 * k + 16) (trn w R c b) (fun j => b.getD j 0) = fil b.length (b.length) (trn w R c b) (fun j => b.getD j 0) := by rw [hmm]
            exact ⟨[0, 1, 2, 3], rfl, rfl, by (repeat' (first | exact trivial | refine And.intro ?_ ?_)) <;> first | exact ren_m8 (by first | rfl | exact hfm.symm | fail) | rfl | exact wk_cons (wk_i (by first | omega)) rfl, rfl⟩
      · conv => whnf
        repeat (first | (refine brF rfl ?_; conv => whnf) | (refine Exists.intro _ (And.intro rfl ?_); conv => whnf) | fail)
        have htl : fil b.length b.length (trn w R c b) (fun j => b.getD j 0) = turnL w R c b := fil_full ..
        refine ⟨[0, 1, 2, 3, 6], ?_, rfl, rfl, ?_, rfl⟩
        · (repeat' (first | (refine wk_tup ?_) | (refine wk_cons ?_ ?_))) <;> first | rfl | fail
        · (repeat' (first | exact trivial | refine And.intro ?_ ?_ | (refine wk_cons ?_ ?_))) <;> first | exact ren_m8 (by first | exact htl | exact htl.symm | fail) | rfl | exact ren_eq (by first | (simp; done) | fail) (by first | rfl | fail) | exact ren_app2 (by first | (simp; done) | fail) (by first | rfl | fail) rfl | fail
    · refine ok1_yield 10 [5, 6, 7] [false, false, true, true] (syield_of (ps := [29]) (N := Try.f53.ntmps) (R0 := [(8, .p 1 0), (11, .p 3 0)]) (args0 := [.agg ((ksB w R c k).map .u8)]) (ex := .normal) (H0t := [some (.box [.sl 2 0 b.length 1 false]), some (.row 5 ((fil b.length (16 * k) (trn w R c b) (fun j => b.getD j 0)).map .u8)), some (.box [.i ((16 * k : Nat) : Int)])]) (H1t := [some (.box [.sl 2 0 b.length 1 false]), some (.row 5 ((fil b.length (16 * (k + 1)) (trn w R c b) (fun j => b.getD j 0)).map .u8)), some (.box [.i ((16 * (k + 1) : Nat) : Int)])]) (.inl rfl) rfl rfl rfl ?_) rfl rfl ⟨⟨rfl, by first | ((repeat' (first | exact wk_nil | exact ren_m8 rfl | (refine wk_agg ?_) | (refine wk_cons ?_ ?_))); done)⟩, by (repeat' (first | exact trivial | refine And.intro ?_ ?_)) <;> first | exact ren_m8 rfl | rfl | fail, by first | (simp [plainHf, plainB]; done) | fail, ?_⟩
      · subst hasq
        subst hbdq
        refine sw_ok ttOk mixed (by kernel_rfl) ?_
        conv => whnf
        repeat (first | (refine Exists.intro _ (And.intro (sput_all rfl (by first | rfl | (simp [hkl]; done) | fail)) ?_); conv => whnf) | (refine And.intro (by first | omega | (simp; done) | (simp; omega) | fail) ?_; conv => whnf) | (refine And.intro (by kernel_rfl) ?_; conv => whnf) | fail)
        refine sw_ok ttOk mixed (by kernel_rfl) ?_
        conv => whnf
        repeat (fail)
        refine loop_rule ttOk mixed (by kernel_rfl) (ι := { i : Nat // i ≤ 16 ∧ 16 * k + i ≤ b.length }) (fun i => [(8, .p 1 0), (11, .p 3 0), (12, .p 4 0), (13, .i (i.1 : Int))]) (fun i => [none, some (.box [.sl 2 0 b.length 1 false]), some (.row 5 ((fil b.length (16 * k + i.1) (trn w R c b) (fun j => b.getD j 0)).map .u8)), some (.box [.i ((16 * k + i.1 : Nat) : Int)]), some (.box ((ksB w R c k).map .u8))]) (fun _ => 5) (fun i => 16 - i.1) ⟨0, by omega, by omega⟩ ?_ ?_
        · refine Weak.sel [0, 1, 2, 3, 4] rfl rfl ?_ ?_ rfl rfl
          · (repeat' (first | exact trivial | refine And.intro ?_ ?_ | fail)) <;> first | rfl | fail
          · (repeat' (first | exact trivial | refine And.intro ?_ ?_ | (refine wk_cons ?_ ?_))) <;> first | rfl | exact ren_eq (by first | (simp; done) | fail) (by first | rfl | fail) | fail
        · rintro ⟨i, hi, him⟩
          have hf := fil_len b.length (16 * k + i) (trn w R c b) (fun j => b.getD j 0)
          dsimp only
          by_cases hi2 : i < 16
          · have hl1 : decide ((i : Int) < 16) = true := by simp; omega
            by_cases hm2 : 16 * k + i < b.length
            · have hl2 : decide (((16 * k + i : Nat) : Int) < (b.length : Int)) = true := by simp; omega
              have hp1 := wp1 i (by omega)
              have hp2 := wp1 (16 * k + i) (by omega)
              have hx : (fil b.length (16 * k + i) (trn w R c b) (fun j => b.getD j 0)).getD (16 * k + i) 0 ^^^ (ksB w R c k).getD i 0 = trn w R c b (16 * k + i) := by
                rw [fil_getD hm2, if_neg (by omega)]
                unfold trn
                rw [show (16 * k + i) / 16 = k by omega, show (16 * k + i) % 16 = i by omega]
              have hst := fil_setx (g := fun j => b.getD j 0) hm2 hx
              conv => whnf
              repeat (first | (refine gdT hl1 ?_; conv => whnf) | (refine pkT hl1 ?_; conv => whnf) | (refine gdT hl2 ?_; conv => whnf) | (refine Exists.intro _ (And.intro (sput_m8 (i := 16 * k + i) (by first | rfl | omega | fail)) ?_); conv => whnf) | (refine Exists.intro _ (And.intro (sload_u8 (i := 16 * k + i) (by first | rfl | omega | fail) (by first | omega | fail)) ?_); conv => whnf) | (refine Exists.intro _ (And.intro (idx_i (m := 16 * k + i) (by first | rfl | fail)) ?_); conv => whnf) | (refine Exists.intro _ (And.intro (sload_u8 (i := i) (by first | rfl | (simp; done) | fail) (by first | omega | fail)) ?_); conv => whnf) | (refine Exists.intro _ (And.intro (idx_i (m := i) (by first | rfl | fail)) ?_); conv => whnf) | (refine Exists.intro _ (And.intro rfl ?_); conv => whnf) | (refine And.intro (by first | omega | (simp; done) | fail) ?_; conv => whnf) | (refine And.intro (by kernel_rfl) ?_; conv => whnf) | (refine And.intro ⟨by first | exact @rfl Nat _ | fail, by first | (simp only [hf, hkl, ti5, List.length_map]; omega) | fail⟩ ?_; conv => whnf) | fail)
              refine ⟨⟨i + 1, by omega, by omega⟩, by simp only; omega, ?_⟩
              refine Weak.sel [0, 1, 2, 3, 4] rfl rfl ?_ ?_ rfl rfl
              · (repeat' (first | exact trivial | refine And.intro ?_ ?_ | fail)) <;> first | rfl | exact wk_i (by first | exact hp1.symm | fail) | fail
              · (repeat' (first | exact trivial | refine And.intro ?_ ?_ | (refine wk_cons ?_ ?_))) <;> first | exact ren_m8 (by first | exact hst | exact hst.symm | fail) | rfl | exact wk_i (by first | rfl | exact hp2.symm | fail) | exact ren_eq (by first | (simp; done) | fail) (by first | rfl | fail) | fail
            · have hl2 : decide (((16 * k + i : Nat) : Int) < (b.length : Int)) = false := by simp; omega
              exact absurd hca (by omega)
          · obtain rfl : i = 16 := by omega
            have hl1 : decide (((16 : Nat) : Int) < 16) = false := by decide
            have hmm : 16 * k + 16 = 16 * (k + 1) := by omega
            have hl3 : (((16 * k + 16 : Nat) : Int) == (b.length : Int)) = false := by simp; omega
            conv => whnf
            repeat (first | (refine brF rfl ?_; conv => whnf) | (refine pkF hl1 ?_; conv => whnf) | (refine gdF hl3 ?_; conv => whnf) | (refine And.intro (by first | omega | (simp; done) | fail) ?_; conv => whnf) | (refine And.intro (by kernel_rfl) ?_; conv => whnf) | fail)
            have hfm : fil b.length (16 * k + 16) (trn w R c b) (fun j => b.getD j 0) = fil b.length (16 * (k + 1)) (trn w R c b) (fun j => b.getD j 0) := by rw [hmm]
            exact ⟨[0, 1, 2, 3], rfl, rfl, by (repeat' (first | exact trivial | refine And.intro ?_ ?_)) <;> first | exact ren_m8 (by first | rfl | fail) | rfl | fail, rfl⟩
      · conv => whnf
        repeat (first | (refine brT rfl ?_; conv => whnf) | (refine Exists.intro _ (And.intro (sload_all rfl (by first | rfl | (simp; omega))) ?_); conv => whnf) | (refine Exists.intro _ (And.intro rfl ?_); conv => whnf) | fail)
        refine ok1_callF [] [] true (h54) rfl rfl ⟨⟨rfl, by first | ((repeat' (first | exact wk_nil | exact ren_m8 rfl | (refine wk_agg ?_) | (refine wk_cons ?_ ?_))); done) | fail⟩, trivial, by first | rfl | fail, by first | simp [plainRf, plainR, plainT, plainW], ?_⟩
        conv => whnf
        have hnl := nextC_len hcl
        repeat (first | (refine Exists.intro _ (And.intro (sput_all rfl (by first | rfl | (simp [hcl, hnl]; done) | fail)) ?_); conv => whnf) | (refine And.intro (by first | omega | (simp; omega) | fail) ?_; conv => whnf) | fail)
        refine ⟨⟨k + 1, .inr (by omega)⟩, by simp only; omega, ?_⟩
        refine Weak.sel [0, 1, 2, 3, 4, 5, 6, 7, 8, 9, 10] rfl rfl ?_ ?_ rfl rfl
        · (repeat' (first | exact trivial | refine And.intro ?_ ?_ | fail)) <;> first | rfl | fail
        · (repeat' (first | exact trivial | refine And.intro ?_ ?_ | (refine wk_cons ?_ ?_))) <;> first | rfl | exact ren_eq (by first | (simp; done) | fail) (by first | rfl | fail) | exact ren_app2 (by first | (simp; done) | fail) (by first | rfl | fail) rfl | fail

theorem f53_3 (n : Nat) (fl : Bool) (w : List UInt8) (R : Nat) (hn : n = 4 * (R + 1)) (hw : w.length = 16 * (R + 1)) (hR1 : 1 ≤ R) (hR2 : R ≤ 20) (c b : List UInt8) (n1 n2 : Nat) (h12 : n1 + n2 = b.length) (hc : c.length = 16) (hb : b.length < 100000000000000) (f1 f2 f3 : Bool) :
    SCall Try.prog 53 [.p 0 0, .agg (c.map .u8), .sl 2 0 3 1 f1] [some (.ro (sbx.map .u8 ++ [.sl 1 0 n 4 fl])), some (.ro (w.map .u8)), some (.ro [.sl 3 0 n1 1 f2, .slnil, .sl 3 n1 n2 1 f3]), some (.ro (b.map .u8))]
      (.tup [.sl 4 0 b.length 1 false, .i 0]) [some (.ro (sbx.map .u8 ++ [.sl 1 0 n 4 fl])), some (.ro (w.map .u8)), some (.ro [.sl 3 0 n1 1 f2, .slnil, .sl 3 n1 n2 1 f3]), some (.ro (b.map .u8)), some (.row 5 ((turnL w R c b).map .u8))] := by
  have h89 := f89 n fl w c
  have hb0 : b.map SV.u8 = List.take (n1 * 1) (List.drop 0 (List.take (n1 * 1) (List.drop 0 (b.map SV.u8)))) ++ List.take (n2 * 1) (List.drop n1 (b.map SV.u8)) := by
    rw [Nat.mul_one, Nat.mul_one, List.drop_zero, List.drop_zero, List.take_take, Nat.min_self, List.take_of_length_le (i := n2) (by simp; omega), List.take_append_drop]
  refine scall_of ttOk (by kernel_rfl : Try.prog.funcs[53]? = some Try.f53) rfl rfl rfl ?_
  refine sw_ok ttOk mixed (by kernel_rfl) ?_
  conv => whnf
  repeat (first | (refine brF rfl ?_; conv => whnf) | (refine And.intro (by kernel_rfl) ?_; conv => whnf) | fail)
  refine loop_rounds ttOk mixed (by kernel_rfl) 4 ?_
  conv => whnf
  repeat (first | (refine brT rfl ?_; conv => whnf) | (refine brF rfl ?_; conv => whnf) | (refine Exists.intro _ (And.intro (sload_all rfl (by first | rfl | (simp; omega))) ?_); conv => whnf) | (refine Exists.intro _ (And.intro rfl ?_); conv => whnf) | (refine And.intro (by first | omega | (simp; done) | (simp [ti5]; omega)) ?_; conv => whnf) | (refine And.intro (Nat.le_of_ble_eq_true rfl) ?_; conv => whnf) | (refine And.intro ⟨rfl, Nat.le_of_ble_eq_true rfl⟩ ?_; conv => whnf) | fail)
  refine ok1_callF [0, 1] [false, true, false, true] false (h89) rfl rfl ⟨⟨rfl, by first | ((repeat' (first | exact wk_nil | exact ren_m8 rfl | exact rfl | (refine wk_agg ?_) | (refine wk_cons ?_ ?_))); done) | fail⟩, by (repeat' (first | exact trivial | refine And.intro ?_ ?_)) <;> first | exact ren_eq (by first | (simp; done) | fail) (by first | rfl | fail) | exact ren_app2 (by first | (simp; done) | fail) (by first | rfl | fail) (by first | rfl | fail), by first | simp [plainHf, plainB], by first | rfl | fail, ?_⟩
  conv => whnf
  repeat (fail)
  refine SWp.weak (R0 := [(8, .p 5 0), (11, .p 7 0), (28, .fn 102 [.p 8 0, .p 9 0])]) (H0 := [some (.ro (sbx.map .u8 ++ [.sl 1 0 n 4 fl])), some (.ro (w.map .u8)), some (.ro [.sl 3 0 n1 1 f2, .slnil, .sl 3 n1 n2 1 f3]), some (.ro ((b).map .u8)), none, some (.box [.sl 6 0 b.length 1 false]), some (.row 5 (b.map .u8)), some (.box [.i 0]), some (.box [.p 0 0]), some (.box (c.map .u8))]) (L0 := 10) ?_ ?_
  · refine Weak.sel [0, 1, 2, 3, 4, 5, 7, 8, 9, 10] rfl rfl ?_ ?_ rfl rfl
    · (repeat' (first | exact trivial | refine And.intro ?_ ?_ | fail)) <;> first | rfl | fail
    · (repeat' (first | exact trivial | exact ren_eq (plainL_u8 _) hb0 | refine And.intro ?_ ?_ | (refine wk_cons ?_ ?_))) <;> first | rfl | exact wk_sl rfl (by first | rfl | fail) (by first | rfl | omega | fail) | exact ren_eq (by first | (simp; done) | fail) (by first | rfl | fail) | exact ren_app2 (by first | (simp; done) | fail) (by first | rfl | fail) rfl | fail
  refine range_named rfl rfl rfl (by kernel_rfl : Try.prog.funcs[102]? = some Try.f102) rfl rfl rfl rfl ?_
  intro asq bdq hasq hbdq
  refine sw_ok ttOk mixed (by kernel_rfl) ?_
  conv => whnf
  repeat (fail)
  refine loop_rule ttOk mixed (by kernel_rfl) (ι := { k : Nat // k = 0 ∨ 16 * k < b.length }) (fun k => [(0, .yld 10), (1, .p 8 0), (2, .p 9 0)]) (fun k => [some (.ro (sbx.map .u8 ++ [.sl 1 0 n 4 fl])), some (.ro (w.map .u8)), some (.ro [.sl 3 0 n1 1 f2, .slnil, .sl 3 n1 n2 1 f3]), some (.ro ((b).map .u8)), none, some (.box [.sl 6 0 b.length 1 false]), some (.row 5 ((fil b.length (16 * k.1) (trn w R c b) (fun j => b.getD j 0)).map .u8)), some (.box [.i ((16 * k.1 : Nat) : Int)]), some (.box [.p 0 0]), some (.box ((ctrN c k.1).map .u8)), some (.obj (.loop [(8, .p 5 0), (11, .p 7 0)] Try.f53.ntmps [29] asq bdq))]) (fun _ => 11) (fun k => b.length - 16 * k.1) ⟨0, .inl rfl⟩ ?_ ?_
  · have hz : fil b.length (16 * 0) (trn w R c b) (fun j => b.getD j 0) = b := fil_of_list rfl
    refine Weak.sel [0, 1, 2, 3, 4, 5, 6, 7, 8, 9, 10] rfl rfl ?_ ?_ rfl rfl
    · (repeat' (first | exact trivial | refine And.intro ?_ ?_ | fail)) <;> first | rfl | fail
    · (repeat' (first | exact trivial | refine And.intro ?_ ?_ | (refine wk_cons ?_ ?_))) <;> first | exact ren_m8 (by first | exact hz | fail) | rfl | exact ren_eq (by first | (simp; done) | fail) (by first | rfl | fail) | exact ren_app2 (by first | (simp; done) | fail) (by first | rfl | fail) rfl | fail
  · rintro ⟨k, hk⟩
    have hf := fil_len b.length (16 * k) (trn w R c b) (fun j => b.getD j 0)
    have hcl := ctrN_len hc k
    have hse := f47L n fl w R hn hw hR1 hR2 (ctrN c k) hcl
    have h54 := f54L (ctrN c k) hcl
    rw [ksB_eq] at hse
    have hkl := ksB_len (w := w) (R := R) hc k
    dsimp only
    conv => whnf
    repeat (first | (refine brT rfl ?_; conv => whnf) | (refine Exists.intro _ (And.intro (sload_all rfl (by first | rfl | (simp; omega))) ?_); conv => whnf) | (refine Exists.intro _ (And.intro rfl ?_); conv => whnf) | (refine And.intro (by kernel_rfl) ?_; conv => whnf) | fail)
    refine ok1_callF [0, 1] [false, false] true (hse) rfl rfl ⟨⟨rfl, by first | ((repeat' (first | exact wk_nil | exact ren_m8 rfl | exact rfl | (refine wk_agg ?_) | (refine wk_cons ?_ ?_))); done) | fail⟩, by (repeat' (first | exact trivial | refine And.intro ?_ ?_)) <;> first | exact ren_eq (by first | (simp; done) | fail) (by first | rfl | fail) | exact ren_app2 (by first | (simp; done) | fail) (by first | rfl | fail) (by first | rfl | fail), by first | rfl | fail, by first | simp [plainRf, plainR, plainT, plainW], ?_⟩
    conv => whnf
    repeat (first | (refine brT rfl ?_; conv => whnf) | fail)
    have hcase : b.length ≤ 16 * (k + 1) ∨ 16 * (k + 1) < b.length := by omega
    rcases hcase with hca | hca
    · refine ok1_yield 10 [5, 6, 7] [false, false, true, true] (syield_of (ps := [29]) (N := Try.f53.ntmps) (R0 := [(8, .p 1 0), (11, .p 3 0)]) (args0 := [.agg ((ksB w R c k).map .u8)]) (ex := (.exit 2)) (H0t := [some (.box [.sl 2 0 b.length 1 false]), some (.row 5 ((fil b.length (16 * k) (trn w R c b) (fun j => b.getD j 0)).map .u8)), some (.box [.i ((16 * k : Nat) : Int)])]) (H1t := [some (.box [.sl 2 0 b.length 1 false]), some (.row 5 ((fil b.length (b.length) (trn w R c b) (fun j => b.getD j 0)).map .u8)), some (.box [.i ((b.length : Nat) : Int)])]) (.inr (.inr ⟨2, rfl⟩)) rfl rfl rfl ?_) rfl rfl ⟨⟨rfl, by first | ((repeat' (first | exact wk_nil | exact ren_m8 rfl | (refine wk_agg ?_) | (refine wk_cons ?_ ?_))); done)⟩, by (repeat' (first | exact trivial | refine And.intro ?_ ?_)) <;> first | exact ren_m8 rfl | rfl | fail, by first | (simp [plainHf, plainB]; done) | fail, ?_⟩
      · subst hasq
        subst hbdq
        refine sw_ok ttOk mixed (by kernel_rfl) ?_
        conv => whnf
        repeat (first | (refine Exists.intro _ (And.intro (sput_all rfl (by first | rfl | (simp [hkl]; done) | fail)) ?_); conv => whnf) | (refine And.intro (by first | omega | (simp; done) | (simp; omega) | fail) ?_; conv => whnf) | (refine And.intro (by kernel_rfl) ?_; conv => whnf) | fail)
        refine sw_ok ttOk mixed (by kernel_rfl) ?_
        conv => whnf
        repeat (fail)
        refine loop_rule ttOk mixed (by kernel_rfl) (ι := { i : Nat // i ≤ 16 ∧ 16 * k + i ≤ b.length }) (fun i => [(8, .p 1 0), (11, .p 3 0), (12, .p 4 0), (13, .i (i.1 : Int))]) (fun i => [none, some (.box [.sl 2 0 b.length 1 false]), some (.row 5 ((fil b.length (16 * k + i.1) (trn w R c b) (fun j => b.getD j 0)).map .u8)), some (.box [.i ((16 * k + i.1 : Nat) : Int)]), some (.box ((ksB w R c k).map .u8))]) (fun _ => 5) (fun i => 16 - i.1) ⟨0, by omega, by omega⟩ ?_ ?_
        · refine Weak.sel [0, 1, 2, 3, 4] rfl rfl ?_ ?_ rfl rfl
          · (repeat' (first | exact trivial | refine And.intro ?_ ?_ | fail)) <;> first | rfl | fail
          · (repeat' (first | exact trivial | refine And.intro ?_ ?_ | (refine wk_cons ?_ ?_))) <;> first | rfl | exact ren_eq (by first | (simp; done) | fail) (by first | rfl | fail) | fail
        · rintro ⟨i, hi, him⟩
          have hf := fil_len b.length (16 * k + i) (trn w R c b) (fun j => b.getD j 0)
          dsimp only
          by_cases hi2 : i < 16
          · have hl1 : decide ((i : Int) < 16) = true := by simp; omega
            by_cases hm2 : 16 * k + i < b.length
            · have hl2 : decide (((16 * k + i : Nat) : Int) < (b.length : Int)) = true := by simp; omega
              have hp1 := wp1 i (by omega)
              have hp2 := wp1 (16 * k + i) (by omega)
              have hx : (fil b.length (16 * k + i) (trn w R c b) (fun j => b.getD j 0)).getD (16 * k + i) 0 ^^^ (ksB w R c k).getD i 0 = trn w R c b (16 * k + i) := by
                rw [fil_getD hm2, if_neg (by omega)]
                unfold trn
                rw [show (16 * k + i) / 16 = k by omega, show (16 * k + i) % 16 = i by omega]
              have hst := fil_setx (g := fun j => b.getD j 0) hm2 hx
              conv => whnf
              repeat (first | (refine gdT hl1 ?_; conv => whnf) | (refine pkT hl1 ?_; conv => whnf) | (refine gdT hl2 ?_; conv => whnf) | (refine Exists.intro _ (And.intro (sput_m8 (i := 16 * k + i) (by first | rfl | omega | fail)) ?_); conv => whnf) | (refine Exists.intro _ (And.intro (sload_u8 (i := 16 * k + i) (by first | rfl | omega | fail) (by first | omega | fail)) ?_); conv => whnf) | (refine Exists.intro _ (And.intro (idx_i (m := 16 * k + i) (by first | rfl | fail)) ?_); conv => whnf) | (refine Exists.intro _ (And.intro (sload_u8 (i := i) (by first | rfl | (simp; done) | fail) (by first | omega | fail)) ?_); conv => whnf) | (refine Exists.intro _ (And.intro (idx_i (m := i) (by first | rfl | fail)) ?_); conv => whnf) | (refine Exists.intro _ (And.intro rfl ?_); conv => whnf) | (refine And.intro (by first | omega | (simp; done) | fail) ?_; conv => whnf) | (refine And.intro (by kernel_rfl) ?_; conv => whnf) | (refine And.intro ⟨by first | exact @rfl Nat _ | fail, by first | (simp only [hf, hkl, ti5, List.length_map]; omega) | fail⟩ ?_; conv => whnf) | fail)
              refine ⟨⟨i + 1, by omega, by omega⟩, by simp only; omega, ?_⟩
              refine Weak.sel [0, 1, 2, 3, 4] rfl rfl ?_ ?_ rfl rfl
              · (repeat' (first | exact trivial | refine And.intro ?_ ?_ | fail)) <;> first | rfl | exact wk_i (by first | exact hp1.symm | fail) | fail
              · (repeat' (first | exact trivial | refine And.intro ?_ ?_ | (refine wk_cons ?_ ?_))) <;> first | exact ren_m8 (by first | exact hst | exact hst.symm | fail) | rfl | exact wk_i (by first | rfl | exact hp2.symm | fail) | exact ren_eq (by first | (simp; done) | fail) (by first | rfl | fail) | fail
            · have hl2 : decide (((16 * k + i : Nat) : Int) < (b.length : Int)) = false := by simp; omega
              have hmm : 16 * k + i = b.length := by omega
              have hl3 : (((16 * k + i : Nat) : Int) == (b.length : Int)) = true := by simp; omega
              conv => whnf
              repeat (first | (refine gdT hl1 ?_; conv => whnf) | (refine pkT hl1 ?_; conv => whnf) | (refine gdF hl2 ?_; conv => whnf) | (refine gdT hl3 ?_; conv => whnf) | (refine Exists.intro _ (And.intro rfl ?_); conv => whnf) | (refine And.intro (by first | omega | (simp; done) | fail) ?_; conv => whnf) | (refine And.intro (by kernel_rfl) ?_; conv => whnf) | fail)
              have hfm : fil b.length (16 * k + i) (trn w R c b) (fun j => b.getD j 0) = fil b.length (b.length) (trn w R c b) (fun j => b.getD j 0) := by rw [hmm]
              exact ⟨[0, 1, 2, 3], rfl, rfl, by (repeat' (first | exact trivial | refine And.intro ?_ ?_)) <;> first | exact ren_m8 (by first | rfl | exact hfm.symm | fail) | rfl | exact wk_cons (wk_i (by first | omega)) rfl, rfl⟩
          · obtain rfl : i = 16 := by omega
            have hl1 : decide (((16 : Nat) : Int) < 16) = false := by decide
            have hmm : 16 * k + 16 = b.length := by omega
            have hl3 : (((16 * k + 16 : Nat) : Int) == (b.length : Int)) = true := by simp; omega
            conv => whnf
            repeat (first | (refine brF rfl ?_; conv => whnf) | (refine pkF hl1 ?_; conv => whnf) | (refine gdT hl3 ?_; conv => whnf) | (refine And.intro (by first | omega | (simp; done) | fail) ?_; conv => whnf) | (refine And.intro (by kernel_rfl) ?_; conv => whnf) | fail)
            have hfm : fil b.length (16 * k + 16) (trn w R c b) (fun j => b.getD j 0) = fil b.length (b.length) (trn w R c b) (fun j => b.getD j 0) := by rw [hmm]
            exact ⟨[0, 1, 2, 3], rfl, rfl, by (repeat' (first | exact trivial | refine And.intro ?_ ?_)) <;> first | exact ren_m8 (by first | rfl | exact hfm.symm | fail) | rfl | exact wk_cons (wk_i (by first | omega)) rfl, rfl⟩
      · conv => whnf
        repeat (first | (refine brF rfl ?_; conv => whnf) | (refine Exists.intro _ (And.intro rfl ?_); conv => whnf) | fail)
        have htl : fil b.length b.length (trn w R c b) (fun j => b.getD j 0) = turnL w R c b := fil_full ..
        refine ⟨[0, 1, 2, 3, 6], ?_, rfl, rfl, ?_, rfl⟩
        · (repeat' (first | (refine wk_tup ?_) | (refine wk_cons ?_ ?_))) <;> first | rfl | fail
        · (repeat' (first | exact trivial | refine And.intro ?_ ?_ | (refine wk_cons ?_ ?_))) <;> first | exact ren_m8 (by first | exact htl | exact htl.symm | fail) | rfl | exact ren_eq (by first | (simp; done) | fail) (by first | rfl | fail) | exact ren_app2 (by first | (simp; done) | fail) (by first | rfl | fail) rfl | fail
    · refine ok1_yield 10 [5, 6, 7] [false, false, true, true] (syield_of (ps := [29]) (N := Try.f53.ntmps) (R0 := [(8, .p 1 0), (11, .p 3 0)]) (args0 := [.agg ((ksB w R c k).map .u8)]) (ex := .normal) (H0t := [some (.box [.sl 2 0 b.length 1 false]), some (.row 5 ((fil b.length (16 * k) (trn w R c b) (fun j => b.getD j 0)).map .u8)), some (.box [.i ((16 * k : Nat) : Int)])]) (H1t := [some (.box [.sl 2 0 b.length 1 false]), some (.row 5 ((fil b.length (16 * (k + 1)) (trn w R c b) (fun j => b.getD j 0)).map .u8)), some (.box [.i ((16 * (k + 1) : Nat) : Int)])]) (.inl rfl) rfl rfl rfl ?_) rfl rfl ⟨⟨rfl, by first | ((repeat' (first | exact wk_nil | exact ren_m8 rfl | (refine wk_agg ?_) | (refine wk_cons ?_ ?_))); done)⟩, by (repeat' (first | exact trivial | refine And.intro ?_ ?_)) <;> first | exact ren_m8 rfl | rfl | fail, by first | (simp [plainHf, plainB]; done) | fail, ?_⟩
      · subst hasq
        subst hbdq
        refine sw_ok ttOk mixed (by kernel_rfl) ?_
        conv => whnf
        repeat (first | (refine Exists.intro _ (And.intro (sput_all rfl (by first | rfl | (simp [hkl]; done) | fail)) ?_); conv => whnf) | (refine And.intro (by first | omega | (simp; done) | (simp; omega) | fail) ?_; conv => whnf) | (refine And.intro (by kernel_rfl) ?_; conv => whnf) | fail)
        refine sw_ok ttOk mixed (by kernel_rfl) ?_
        conv => whnf
        repeat (fail)
        refine loop_rule ttOk mixed (by kernel_rfl) (ι := { i : Nat // i ≤ 16 ∧ 16 * k + i ≤ b.length }) (fun i => [(8, .p 1 0), (11, .p 3 0), (12, .p 4 0), (13, .i (i.1 : Int))]) (fun i => [none, some (.box [.sl 2 0 b.length 1 false]), some (.row 5 ((fil b.length (16 * k + i.1) (trn w R c b) (fun j => b.getD j 0)).map .u8)), some (.box [.i ((16 * k + i.1 : Nat) : Int)]), some (.box ((ksB w R c k).map .u8))]) (fun _ => 5) (fun i => 16 - i.1) ⟨0, by omega, by omega⟩ ?_ ?_
        · refine Weak.sel [0, 1, 2, 3, 4] rfl rfl ?_ ?_ rfl rfl
          · (repeat' (first | exact trivial | refine And.intro ?_ ?_ | fail)) <;> first | rfl | fail
          · (repeat' (first | exact trivial | refine And.intro ?_ ?_ | (refine wk_cons ?_ ?_))) <;> first | rfl | exact ren_eq (by first | (simp; done) | fail) (by first | rfl | fail) | fail
        · rintro ⟨i, hi, him⟩
          have hf := fil_len b.length (16 * k + i) (trn w R c b) (fun j => b.getD j 0)
          dsimp only
          by_cases hi2 : i < 16
          · have hl1 : decide ((i : Int) < 16) = true := by simp; omega
            by_cases hm2 : 16 * k + i < b.length
            · have hl2 : decide (((16 * k + i : Nat) : Int) < (b.length : Int)) = true := by simp; omega
              have hp1 := wp1 i (by omega)
              have hp2 := wp1 (16 * k + i) (by omega)
              have hx : (fil b.length (16 * k + i) (trn w R c b) (fun j => b.getD j 0)).getD (16 * k + i) 0 ^^^ (ksB w R c k).getD i 0 = trn w R c b (16 * k + i) := by
                rw [fil_getD hm2, if_neg (by omega)]
                unfold trn
                rw [show (16 * k + i) / 16 = k by omega, show (16 * k + i) % 16 = i by omega]
              have hst := fil_setx (g := fun j => b.getD j 0) hm2 hx
              conv => whnf
              repeat (first | (refine gdT hl1 ?_; conv => whnf) | (refine pkT hl1 ?_; conv => whnf) | (refine gdT hl2 ?_; conv => whnf) | (refine Exists.intro _ (And.intro (sput_m8 (i := 16 * k + i) (by first | rfl | omega | fail)) ?_); conv => whnf) | (refine Exists.intro _ (And.intro (sload_u8 (i := 16 * k + i) (by first | rfl | omega | fail) (by first | omega | fail)) ?_); conv => whnf) | (refine Exists.intro _ (And.intro (idx_i (m := 16 * k + i) (by first | rfl | fail)) ?_); conv => whnf) | (refine Exists.intro _ (And.intro (sload_u8 (i := i) (by first | rfl | (simp; done) | fail) (by first | omega | fail)) ?_); conv => whnf) | (refine Exists.intro _ (And.intro (idx_i (m := i) (by first | rfl | fail)) ?_); conv => whnf) | (refine Exists.intro _ (And.intro rfl ?_); conv => whnf) | (refine And.intro (by first | omega | (simp; done) | fail) ?_; conv => whnf) | (refine And.intro (by kernel_rfl) ?_; conv => whnf) | (refine And.intro ⟨by first | exact @rfl Nat _ | fail, by first | (simp only [hf, hkl, ti5, List.length_map]; omega) | fail⟩ ?_; conv => whnf) | fail)
              refine ⟨⟨i + 1, by omega, by omega⟩, by simp only; omega, ?_⟩
              refine Weak.sel [0, 1, 2, 3, 4] rfl rfl ?_ ?_ rfl rfl
              · (repeat' (first | exact trivial | refine And.intro ?_ ?_ | fail)) <;> first | rfl | exact wk_i (by first | exact hp1.symm | fail) | fail
              · (repeat' (first | exact trivial | refine And.intro ?_ ?_ | (refine wk_cons ?_ ?_))) <;> first | exact ren_m8 (by first | exact hst | exact hst.symm | fail) | rfl | exact wk_i (by first | rfl | exact hp2.symm | fail) | exact ren_eq (by first | (simp; done) | fail) (by first | rfl | fail) | fail
            · have hl2 : decide (((16 * k + i : Nat) : Int) < (b.length : Int)) = false := by simp; omega
              exact absurd hca (by omega)
          · obtain rfl : i = 16 := by omega
            have hl1 : decide (((16 : Nat) : Int) < 16) = false := by decide
            have hmm : 16 * k + 16 = 16 * (k + 1) := by omega
            have hl3 : (((16 * k + 16 : Nat) : Int) == (b.length : Int)) = false := by simp; omega
            conv => whnf
            repeat (first | (refine brF rfl ?_; conv => whnf) | (refine pkF hl1 ?_; conv => whnf) | (refine gdF hl3 ?_; conv => whnf) | (refine And.intro (by first | omega | (simp; done) | fail) ?_; conv => whnf) | (refine And.intro (by kernel_rfl) ?_; conv => whnf) | fail)
            have hfm : fil b.length (16 * k + 16) (trn w R c b) (fun j => b.getD j 0) = fil b.length (16 * (k + 1)) (trn w R c b) (fun j => b.getD j 0) := by rw [hmm]
            exact ⟨[0, 1, 2, 3], rfl, rfl, by (repeat' (first | exact trivial | refine And.intro ?_ ?_)) <;> first | exact ren_m8 (by first | rfl | fail) | rfl | fail, rfl⟩
      · conv => whnf
        repeat (first | (refine brT rfl ?_; conv => whnf) | (refine Exists.intro _ (And.intro (sload_all rfl (by first | rfl | (simp; omega))) ?_); conv => whnf) | (refine Exists.intro _ (And.intro rfl ?_); conv => whnf) | fail)
        refine ok1_callF [] [] true (h54) rfl rfl ⟨⟨rfl, by first | ((repeat' (first | exact wk_nil | exact ren_m8 rfl | (refine wk_agg ?_) | (refine wk_cons ?_ ?_))); done) | fail⟩, trivial, by first | rfl | fail, by first | simp [plainRf, plainR, plainT, plainW], ?_⟩
        conv => whnf
        have hnl := nextC_len hcl
        repeat (first | (refine Exists.intro _ (And.intro (sput_all rfl (by first | rfl | (simp [hcl, hnl]; done) | fail)) ?_); conv => whnf) | (refine And.intro (by first | omega | (simp; omega) | fail) ?_; conv => whnf) | fail)
        refine ⟨⟨k + 1, .inr (by omega)⟩, by simp only; omega, ?_⟩
        refine Weak.sel [0, 1, 2, 3, 4, 5, 6, 7, 8, 9, 10] rfl rfl ?_ ?_ rfl rfl
        · (repeat' (first | exact trivial | refine And.intro ?_ ?_ | fail)) <;> first | rfl | fail
        · (repeat' (first | exact trivial | refine And.intro ?_ ?_ | (refine wk_cons ?_ ?_))) <;> first | rfl | exact ren_eq (by first | (simp; done) | fail) (by first | rfl | fail) | exact ren_app2 (by first | (simp; done) | fail) (by first | rfl | fail) rfl | fail
end Go.Sh
/- append of so many noughts ('append(x, make(..)...)'), onto nothing or onto a row of one's own. -/
namespace Go.Sh
set_option linter.unusedSimpArgs false
section
variable {P : Program} {ρ : Ren} {H : Heap} {w : World}

theorem wrap_ok (m : Nat) (h : m ≤ 140737488355328) : IntKind.i64.wrap (m : Int) = (m : Int) := by
  have := w64_eq (m : Int); unfold w64 at this; rw [this]; omega
theorem app_roomZ {t xT ty el sz n m c : Nat} {a : Option Addr} {z : Value} {i : TypeInfo} (hT : P.underlying t = some (.slice el)) (hX : P.underlying xT = some (.int .i64))
    (hi : P.info? el = some i) (hz : i.zero = some z) (hsz : i.size = sz) (hzs : z.cells.size = sz) (h0 : 0 < sz) (hb : m * i.bytes ≤ 140737488355328) (hm : m ≤ 140737488355328) (hroom : n + m ≤ c) :
    (Builtin.append_ #[t, xT] ty #[.slice a n c, .int .i64 (m : Int)]).run P w = (match a with | some a => (storeCells (a.add (n * sz)) (Builtin.zeroCells z.cells m).toList).run P w | none => .ok () w).andThen fun _ w' => .ok (.slice a (n + m) c) w' := by
  have e1 : (underlying xT).run P w = .ok (.int .i64) w := run_und hX
  have e2 : ∀ w : World, (typeInfo el).run P w = .ok i w := fun w => by simp [typeInfo, hi]
  have e3 : ∀ w : World, (zeroValue el).run P w = .ok z w := fun w => by simp [zeroValue, typeInfo, hi, hz]
  have e4 : (sizeOf el).run P w = .ok sz w := by simp [sizeOf, typeInfo, hi, hsz]
  have e5 : ∀ w : World, (asInt (Value.int .i64 (m : Int))).run P w = .ok (m : Int) w := fun w => by simp [asInt, asIntOf]
  have hw := wrap_ok m hm
  have hbig : ¬ ((m : Int) * (i.bytes : Int) > 2 ^ 48) := by
    have : ((m * i.bytes : Nat) : Int) ≤ 140737488355328 := by omega
    rw [Int.natCast_mul] at this; omega
  have hneg : ¬ ((m : Int) < 0) := by omega
  unfold Builtin.append_
  simp only [List.getElem?_toArray, List.getElem?_cons_zero, List.getElem?_cons_succ, Sem.run_bind, run_und hT, Result.andThen_ok, e4, e1, Sem.run_pure, if_true, e5, hw, hneg, if_false, e2, hbig, Int.toNat_natCast, hroom, Bool.not_true, Bool.false_eq_true]
  by_cases hms : m * sz = 0
  · have hm0 : m = 0 := by rcases Nat.mul_eq_zero.1 hms with h | h; exact h; omega
    subst hm0
    simp only [Nat.zero_mul, if_true, Sem.run_pure, Result.andThen_ok]
    cases a <;> simp [Sem.run_pure, Result.andThen, Builtin.zeroCells]
  · simp only [hms, if_false, Sem.run_bind, e3, Result.andThen_ok, Sem.run_pure]
    cases a <;> simp [Sem.run_pure, Result.andThen]
theorem app_growZ {t xT ty el sz n m c : Nat} {a : Option Addr} {z : Value} {olds : List Value} {i : TypeInfo} (hT : P.underlying t = some (.slice el)) (hX : P.underlying xT = some (.int .i64))
    (hi : P.info? el = some i) (hz : i.zero = some z) (hsz : i.size = sz) (h0 : 0 < sz) (hb : m * i.bytes ≤ 140737488355328) (hm : m ≤ 140737488355328) (hnm : n + m ≤ 140737488355328)
    (ho : (Builtin.firstCells sz n (.slice a n c)).run P w.drew = .ok ⟨olds⟩ w.drew) (hg : c < n + m) (hby : 0 < i.bytes) (h48 : Builtin.nextslicecap (n + m) c * i.bytes ≤ 281474976710656) :
    (Builtin.append_ #[t, xT] ty #[.slice a n c, .int .i64 (m : Int)]).run P w = .ok (.slice (some ⟨w.heap.size, 0, none⟩) (n + m) (grownCap w (n + m) c el))
      (w.drew.alloc (.cells ((⟨olds⟩ : Array Value) ++ ⟨(Builtin.zeroCells z.cells m).toList⟩ ++ Builtin.zeroCells z.cells (grownCap w (n + m) c el - (n + m))) el)) := by
  have hn : ¬ (n + m ≤ c) := by omega
  have h48' : ¬ (281474976710656 < Builtin.nextslicecap (n + m) c * i.bytes) := by omega
  have hb0 : ¬ (i.bytes = 0) := by omega
  have e1 : (underlying xT).run P w = .ok (.int .i64) w := run_und hX
  have e2 : ∀ w : World, (typeInfo el).run P w = .ok i w := fun w => by simp [typeInfo, hi]
  have e3 : ∀ w : World, (zeroValue el).run P w = .ok z w := fun w => by simp [zeroValue, typeInfo, hi, hz]
  have e4 : (sizeOf el).run P w = .ok sz w := by simp [sizeOf, typeInfo, hi, hsz]
  have e5 : ∀ w : World, (asInt (Value.int .i64 (m : Int))).run P w = .ok (m : Int) w := fun w => by simp [asInt, asIntOf]
  have hch : (choose (.appendCap (n + m) c el)).run P w = .ok (grownCap w (n + m) c el) w.drew := by
    rw [run_choose]; rfl
  have hbig : (2 : Nat) ^ 48 = 281474976710656 := by decide
  have hw := wrap_ok m hm
  have hbig2 : ¬ ((m : Int) * (i.bytes : Int) > 2 ^ 48) := by
    have : ((m * i.bytes : Nat) : Int) ≤ 140737488355328 := by omega
    rw [Int.natCast_mul] at this; omega
  have hneg : ¬ ((m : Int) < 0) := by omega
  have hmax : ¬ (((n + m : Nat) : Int) > IntKind.i64.max) := by
    have : IntKind.i64.max = 9223372036854775807 := by decide
    rw [this]; omega
  unfold Builtin.append_
  simp only [List.getElem?_toArray, List.getElem?_cons_zero, List.getElem?_cons_succ, Sem.run_bind, run_und hT, Result.andThen_ok, e4, e1, Sem.run_pure, if_true, e5, hw, hneg, if_false, e2, hbig2, Int.toNat_natCast, hn, hmax, false_and, Bool.not_true, Bool.false_eq_true, gt_iff_lt, hbig, h48', hch, run_askRoom, ho]
  by_cases hms : m * sz = 0
  · have hm0 : m = 0 := by rcases Nat.mul_eq_zero.1 hms with h | h; exact h; omega
    subst hm0
    simp only [Nat.zero_mul, if_true, Sem.run_pure, Result.andThen_ok, Sem.run_bind, e3, newRow, run_newObj]
    simp [Builtin.zeroCells]
    rfl
  · simp only [hms, if_false, Sem.run_bind, e3, Result.andThen_ok, Sem.run_pure, newRow, run_newObj]
    rfl

/-- append onto a row of one's own: it goes over into the new one. -/
theorem app_row_gen {o : Oper} {x y : Operand} {t xT el sz by_ id nid k n m : Nat} {full : Bool} {l ys : List SV} {rb : RB} {e : Operand → Value} (ho : o.op = .call { callee := .builtin .append, args := #[x, y], argTypes := #[t, xT] })
    {v : Value} (hvs : v.cells.size = sz) (hx : Rel ρ (.sl id k n sz full) (e x)) (hid : H id = some (.row el l)) (hr : ρ id = some rb) (hb : BRel ρ w rb (.row el l)) (hin : k + n * sz ≤ l.length) {news : List Value} (hrn : Rels ρ ys news) (ha : atoms ys = true) (hlen : ys.length = m * sz)
    (hrr : ∀ (a : Option Addr) (c : Nat), n + m ≤ c → (Builtin.append_ #[t, xT] o.type #[.slice a n c, e y]).run P w = (match a with | some a => (storeCells (a.add (n * sz)) news).run P w | none => .ok () w).andThen fun _ w' => .ok (.slice a (n + m) c) w')
    (hgr : ∀ (a : Option Addr) (c : Nat) (olds : List Value), (Builtin.firstCells sz n (.slice a n c)).run P w.drew = .ok ⟨olds⟩ w.drew → c < n + m → Builtin.nextslicecap (n + m) c * by_ ≤ 281474976710656 →
      (Builtin.append_ #[t, xT] o.type #[.slice a n c, e y]).run P w = .ok (.slice (some ⟨w.heap.size, 0, none⟩) (n + m) (grownCap w (n + m) c el)) (w.drew.alloc (.cells ((⟨olds⟩ : Array Value) ++ ⟨news⟩ ++ Builtin.zeroCells v.cells (grownCap w (n + m) c el - (n + m))) el)))
    (hm : (n + m) * by_ ≤ 140737488355328) (hne : id ≠ nid) (hn : ρ nid = none) :
    ∃ v w' ρ', (execOp e o).run P w = .ok (.value v) w' ∧ Chg ρ H w [(id, none), (nid, some (.row el ((l.drop k).take (n * sz) ++ ys)))] ρ' w' ∧ Rel ρ' (.sl nid 0 (n + m) sz false) v := by
  have hsrcx : Src P ρ w (e x) sz n ((l.drop k).take (n * sz)) := src_sl hx hr hb hin
  obtain ⟨olds, _, hfo, hro, hao, hleno, _⟩ := hsrcx
  have hfo1 := hfo (w.drawn + 1)
  have hnl := hrn.length
  have hx0 := hx
  simp only [Rel] at hx
  obtain ⟨rb', a, c, hr', he, hnc, hfull, hdis⟩ := hx
  rw [hr] at hr'; cases hr'
  by_cases hroom : n + m ≤ c
  · by_cases hc0 : c = 0
    · -- nothing there, nothing comes
      subst hc0
      obtain rfl : n = 0 := by omega
      obtain rfl : m = 0 := by omega
      have hy0 : ys = [] := List.eq_nil_of_length_eq_zero (by rw [hlen]; simp)
      subst hy0
      rw [Rels.nil_iff] at hrn; subst hrn
      refine ⟨.slice a 0 0, w, setR ρ nid ⟨0, 0, 0, true⟩, app_run ho ?_, ?_, ?_⟩
      · rw [he, hrr _ _ hroom]
        cases a <;> rfl
      · exact Chg.move hne hid hr rfl hn (fun i o hh => by simp [foot] at hh) (.inl ⟨rfl, by simp⟩) (Fr.refl _ _)
      · simp only [Rel]
        exact ⟨_, a, 0, setR_same _ _ _, rfl, by omega, fun h => (by cases h), .inl rfl⟩
    · obtain ⟨hvirt, ha2, hcap⟩ := hdis.resolve_left hc0
      rcases hb with ⟨hv1, _⟩ | ⟨_, ca, fz, hca, hz, hcs, hla, hlr, hll⟩
      · rw [hvirt] at hv1; cases hv1
      have hcm : (n + m) * sz ≤ c * sz := Nat.mul_le_mul_right _ hroom
      rw [Nat.add_mul] at hcm
      have hst := run_puts (P := P) (o := rb.off + k + n * sz) news 0 hca hz (by omega) (hrn.oneCell ha)
      have hps : (putAt ca (rb.off + k + n * sz) news).size = ca.size := putAt_size _ _ _ (by omega)
      refine ⟨.slice a (n + m) c, World.putCells w rb.blk (rb.off + k + n * sz) news, setR ρ nid ⟨rb.blk, rb.off + k, rb.cap - k, false⟩, app_run ho ?_, ?_, ?_⟩
      · rw [he, hrr _ _ hroom, ha2]
        simp only [add_addr, hst, Nat.add_zero]
        rfl
      · refine Chg.move hne hid hr rfl hn ?_ (.inr ⟨rfl, _, fz, World.putCells_heap w rb.blk _ news hca, hz.put _ _ (by omega), ?_, ?_, ?_, ?_⟩) ?_
        · rintro i o2 ⟨h1, h2, h3⟩
          exact .inl ⟨hvirt, h2, by simp only at h3; omega⟩
        · rw [hps]; simp only; omega
        · simp [atoms] at hao ha ⊢; exact ⟨hao, ha⟩
        · have e1 : ((putAt ca (rb.off + k + n * sz) news).toList.drop (rb.off + k)).take (((l.drop k).take (n * sz) ++ ys)).length = List.take (n * sz) (List.drop k ((ca.toList.drop rb.off).take l.length)) ++ news := by
            have h1 : ((l.drop k).take (n * sz) ++ ys).length = n * sz + news.length := by rw [List.length_append, hleno, hnl]
            rw [h1]
            apply List.ext_getElem?
            intro j
            by_cases hj : j < n * sz + news.length
            · rw [drop_take_get hj, Array.getElem?_toList, putAt_getElem? _ _ _ (by omega)]
              by_cases h2 : j < n * sz
              · rw [if_neg (by omega)]
                rw [List.getElem?_append_left (by simp; omega), List.getElem?_take_of_lt h2, List.getElem?_drop, drop_take_get (by omega), Array.getElem?_toList, Nat.add_assoc]
              · rw [if_pos (by omega)]
                rw [List.getElem?_append_right (by simp; omega)]
                congr 1
                simp; omega
            · rw [List.getElem?_eq_none (by simp; omega)]
              rw [List.getElem?_eq_none (by simp; omega)]
          rw [e1]
          exact ((hlr.drop k).take (n * sz)).append hrn
        · simp only [List.length_append, hleno, hlen]; omega
        · exact Fr.putCells _ _ _ _ _ hca (by omega) (fun o2 h1 h2 => ⟨hvirt, rfl, by omega⟩)
      · simp only [Rel]
        refine ⟨_, a, c, setR_same _ _ _, rfl, hroom, fun h => (by cases h), .inr ⟨rfl, by rw [ha2]; simp, by simp only; omega⟩⟩
  · rw [he] at hfo1
    have hg := hgr a c _ hfo1 (by omega) (growslice_fits (by omega) hm)
    have hge := grownCap_ge w (n + m) c el
    obtain ⟨g1, g2⟩ := grown_row (ρ := ρ) (w := w) (nid := nid) (el := el) hro hao hrn ha hleno hlen hvs hge
    refine ⟨_, _, _, app_run ho (by rw [he]; exact hg), Chg.move hne hid hr rfl hn (fun i o2 hh => .inr (by rw [hh.2.1]; exact Nat.le_refl _)) g1 ?_, g2⟩
    exact (Fr.refl _ w).drew.trans (Fr.alloc (fun i o2 => foot rb (.row el l) i o2) w.drew _) (fun _ _ _ h => h)

theorem zfacts {el by_ : Nat} {z : SV} (hz : pzero P el = some z) (hza : z.atom = true) (hs : psz P el = some 1) (hb : pbytes P el = some by_) :
    ∃ i v, P.info? el = some i ∧ i.zero = some v ∧ v.cells = #[v] ∧ i.size = 1 ∧ i.bytes = by_ ∧ ∀ ρ, Rel ρ z v := by
  obtain ⟨i, v, hi, hv, hr, ht⟩ := zero_of hz
  unfold psz at hs
  unfold pbytes at hb
  rw [hi] at hs hb
  simp only [Option.map_some, Option.some.injEq] at hs hb
  exact ⟨i, v, hi, hv, (hr (fun _ => none)).cells hza, hs, hb, hr⟩
theorem zero_rels {z : SV} {v : Value} (h : Rel ρ z v) (hv : v.cells = #[v]) (m : Nat) : Rels ρ (List.replicate m z) (Builtin.zeroCells v.cells m).toList := by
  rw [hv, zeroCells_one]; exact Rels.replicate h m
theorem zero_atoms {z : SV} (hza : z.atom = true) (m : Nat) : atoms (List.replicate m z) = true := by
  simp only [atoms, List.all_eq_true]; intro y hy; rw [(List.mem_replicate.1 hy).2]; exact hza

theorem lt_append_rowZ {o : Oper} {R : Env} {x y : Operand} {t xT el by_ nid n m id k : Nat} {full : Bool} {z : SV} {l : List SV} (ho : o.op = .call { callee := .builtin .append, args := #[x, y], argTypes := #[t, xT] })
    (hT : P.underlying t = some (.slice el)) (hX : P.underlying xT = some (.int .i64)) (hz : pzero P el = some z) (hza : z.atom = true) (hs : psz P el = some 1) (hb : pbytes P el = some by_) (hb0 : 0 < by_)
    (hx : evO R x = some (.sl id k n 1 full)) (hid : H id = some (.row el l)) (hin1 : k + n * 1 ≤ l.length) (hy : evO R y = some (.i (m : Int))) (hm : (n + m) * by_ ≤ 140737488355328) (hne : nid ≠ id) :
    LT P o R H [id] [(id, none), (nid, some (.row el ((l.drop k).take (n * 1) ++ List.replicate m z)))] (some (.sl nid 0 (n + m) 1 false)) := by
  refine LT.of_run (by simp [ho]) fun e w ρ h1 h2 _ hfresh => ?_
  have hx2 := h1 x (by simp [ho, Op.operands, Call.operands]) _ hx
  have hy2 := h1 y (by simp [ho, Op.operands, Call.operands]) _ hy
  simp only [Rel] at hy2
  obtain ⟨rb, hr, hbr⟩ := h2 id (by simp) _ hid
  obtain ⟨i, v, hi, hv, hvc, his, hib, hvr⟩ := zfacts hz hza hs hb
  have hnm : n + m ≤ 140737488355328 := Nat.le_trans (Nat.le_mul_of_pos_right _ hb0) hm
  have hmb : m * i.bytes ≤ 140737488355328 := by rw [hib]; exact Nat.le_trans (Nat.mul_le_mul_right _ (by omega)) hm
  obtain ⟨v2, w', ρ', a1, a2, a3⟩ := app_row_gen (w := w) (H := H) (nid := nid) (t := t) (xT := xT) (by_ := by_) (v := v) ho (by rw [hvc]; rfl) hx2 hid hr hbr hin1 (zero_rels (hvr ρ) hvc m) (zero_atoms hza m) (by simp)
    (fun a c hroom => by rw [hy2]; exact app_roomZ hT hX hi hv his (by rw [hvc]; rfl) (by decide) hmb (by omega) hroom)
    (fun a c olds hol hg h48 => by rw [hy2]; exact app_growZ hT hX hi hv his (by decide) hmb (by omega) hnm hol hg (by rw [hib]; exact hb0) (by rw [hib]; exact h48))
    hm (fun e => hne e.symm) (hfresh nid (some (.row el ((l.drop k).take (n * 1) ++ List.replicate m z))) (by simp) (by simpa using hne))
  exact ⟨_, w', ρ', a1, a2, .inl ⟨v2, rfl, fun u hu => by cases hu; exact a3⟩⟩
end

theorem ok1_appZ {P : Program} {o : Oper} {R : RL} {H : HL} {L : Nat} {k : K1} {x y : Operand} {t xT : Nat} (el by_ id off n m : Nat) (full : Bool) (l : List SV) (z : SV) (ho : o.op = .call { callee := .builtin .append, args := #[x, y], argTypes := #[t, xT] })
    (hT : P.underlying t = some (.slice el)) (hX : P.underlying xT = some (.int .i64)) (hz : pzero P el = some z) (hza : z.atom = true) (hs : psz P el = some 1) (hb : pbytes P el = some by_) (hb0 : 0 < by_)
    (hx : ev R x = some (.sl id off n 1 full)) (hid : hk H id = some (.row el l)) (hin : off + n * 1 ≤ l.length) {v : Int} (hy : ev R y = some (.i v)) (hv : v = (m : Int)) (hm : (n + m) * by_ ≤ 140737488355328) (hl : H.length ≤ L)
    (h : k (some (.sl L 0 (n + m) 1 false)) [(id, none), (L, some (.row el ((l.drop off).take (n * 1) ++ List.replicate m z)))] [id] (L + 1)) : Ok1 P o R H L k := by
  subst hv
  have hid2 := hk_lt hl hid
  exact ok1_move hid2 (by simp) (lt_append_rowZ ho hT hX hz hza hs hb hb0 (ev_some hx) (hk_some hid) hin (ev_some hy) hm (by omega)) h
end Go.Sh
