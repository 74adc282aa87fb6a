/- aes.Seal, walked. -/
import Derived.Test.YtaknbogocnkmnaaE4a
namespace Go.Sh
open Go.Proofs
set_option maxHeartbeats 8000000
set_option linter.unusedSimpArgs false

theorem f47n (b : List UInt8) : SCall Try.prog 47 [.pnil, .agg (b.map .u8)] [] (.agg (List.replicate 16 (.u8 0))) [] := by
  refine scall_of ttOk (by kernel_rfl : Try.prog.funcs[47]? = some Try.f47) rfl rfl rfl ?_
  refine sw_ok ttOk mixed (by kernel_rfl) ?_
  conv => whnf
  repeat (first | (refine brT rfl ?_; conv => whnf) | (refine Exists.intro _ (And.intro (sload_all rfl (by first | rfl | fail)) ?_); conv => whnf) | (refine Exists.intro _ (And.intro (sput_all rfl (by first | rfl | fail)) ?_); conv => whnf) | (refine Exists.intro _ (And.intro rfl ?_); conv => whnf) | (refine And.intro (by first | (simp; done) | fail) ?_; conv => whnf) | (refine And.intro (by kernel_rfl) ?_; conv => whnf) | fail)
  refine ⟨[], ?_, rfl, rfl, ?_, rfl⟩
  · (repeat' (first | (refine wk_agg ?_) | (refine wk_cons ?_ ?_))) <;> first | rfl | fail
  · (repeat' (first | exact trivial | fail)) <;> fail

theorem f47 (fl : Bool) (w : List UInt8) (R : Nat) (hR : w.length = 16 * (R + 1)) (hR1 : 1 ≤ R) (hR2 : R ≤ 20) (b0 b1 b2 b3 b4 b5 b6 b7 b8 b9 b10 b11 b12 b13 b14 b15 : UInt8) :
    SCall Try.prog 47 [.p 0 0, .agg ([b0, b1, b2, b3, b4, b5, b6, b7, b8, b9, b10, b11, b12, b13, b14, b15].map .u8)] [some (ciB (4 * (R + 1)) fl), some (ciW w)]
      (.agg ((sealSt w R [b0, b1, b2, b3, b4, b5, b6, b7, b8, b9, b10, b11, b12, b13, b14, b15] R).map .u8)) [some (ciB (4 * (R + 1)) fl), some (ciW w)] := by
  have hl := sbx_len
  obtain ⟨nW, hnW⟩ : ∃ nW, nW = 4 * (R + 1) := ⟨_, rfl⟩
  rw [← hnW]
  unfold ciB ciW
  refine scall_of ttOk (by kernel_rfl : Try.prog.funcs[47]? = some Try.f47) rfl rfl rfl ?_
  refine sw_ok ttOk mixed (by kernel_rfl) ?_
  conv => whnf
  repeat (first | (refine brF rfl ?_; conv => whnf) | (refine Exists.intro _ (And.intro rfl ?_); conv => whnf) | (refine And.intro (by kernel_rfl) ?_; conv => whnf) | fail)
  refine loop_rounds ttOk mixed (by kernel_rfl) 5 ?_
  conv => whnf
  repeat (first | (refine brT rfl ?_; conv => whnf) | (refine Exists.intro _ (And.intro (sload_end (by first | rfl | (simp [hl]; done) | fail)) ?_); conv => whnf) | (refine Exists.intro _ (And.intro (idx_i (m := 0) (by first | rfl | fail)) ?_); conv => whnf) | (refine Exists.intro _ (And.intro (evb_i (m := 0) rfl (by first | rfl | fail)) ?_); conv => whnf) | (refine Exists.intro _ (And.intro (evb_i (m := 4) rfl (by first | rfl | fail)) ?_); conv => whnf) | (refine Exists.intro _ (And.intro (sload_col (i := 0) (by first | rfl | fail) (by first | omega | (simp [hl]; done) | fail)) ?_); conv => whnf) | (refine Exists.intro _ (And.intro rfl ?_); conv => whnf) | (refine And.intro (by first | omega | (simp; done) | fail) ?_; conv => whnf) | fail)
  refine ok1_callP [] (f86 _ _ _ _ _ _ _ _) rfl rfl ⟨⟨rfl, by first | rfl | fail⟩, trivial, by first | rfl | fail, ?_⟩
  conv => whnf
  repeat (first | (refine brT rfl ?_; conv => whnf) | (refine Exists.intro _ (And.intro (sload_end (by first | rfl | (simp [hl]; done) | fail)) ?_); conv => whnf) | (refine Exists.intro _ (And.intro (idx_i (m := 0) (by first | rfl | fail)) ?_); conv => whnf) | (refine Exists.intro _ (And.intro (idx_i (m := 1) (by first | rfl | fail)) ?_); conv => whnf) | (refine Exists.intro _ (And.intro (evb_i (m := 4) rfl (by first | rfl | fail)) ?_); conv => whnf) | (refine Exists.intro _ (And.intro (evb_i (m := 8) rfl (by first | rfl | fail)) ?_); conv => whnf) | (refine Exists.intro _ (And.intro (sload_col (i := 4) (by first | rfl | fail) (by first | omega | (simp [hl]; done) | fail)) ?_); conv => whnf) | (refine Exists.intro _ (And.intro rfl ?_); conv => whnf) | (refine And.intro (by first | omega | (simp; done) | fail) ?_; conv => whnf) | (refine And.intro (by kernel_rfl) ?_; conv => whnf) | fail)
  refine ok1_callP [] (f86 _ _ _ _ _ _ _ _) rfl rfl ⟨⟨rfl, by first | rfl | fail⟩, trivial, by first | rfl | fail, ?_⟩
  conv => whnf
  repeat (first | (refine brT rfl ?_; conv => whnf) | (refine Exists.intro _ (And.intro (sload_end (by first | rfl | (simp [hl]; done) | fail)) ?_); conv => whnf) | (refine Exists.intro _ (And.intro (idx_i (m := 1) (by first | rfl | fail)) ?_); conv => whnf) | (refine Exists.intro _ (And.intro (idx_i (m := 2) (by first | rfl | fail)) ?_); conv => whnf) | (refine Exists.intro _ (And.intro (evb_i (m := 8) rfl (by first | rfl | fail)) ?_); conv => whnf) | (refine Exists.intro _ (And.intro (evb_i (m := 12) rfl (by first | rfl | fail)) ?_); conv => whnf) | (refine Exists.intro _ (And.intro (sload_col (i := 8) (by first | rfl | fail) (by first | omega | (simp [hl]; done) | fail)) ?_); conv => whnf) | (refine Exists.intro _ (And.intro rfl ?_); conv => whnf) | (refine And.intro (by first | omega | (simp; done) | fail) ?_; conv => whnf) | (refine And.intro ⟨rfl, Nat.le_of_ble_eq_true rfl⟩ ?_; conv => whnf) | (refine And.intro (by kernel_rfl) ?_; conv => whnf) | fail)
  refine ok1_callP [] (f86 _ _ _ _ _ _ _ _) rfl rfl ⟨⟨rfl, by first | rfl | fail⟩, trivial, by first | rfl | fail, ?_⟩
  conv => whnf
  repeat (first | (refine brT rfl ?_; conv => whnf) | (refine Exists.intro _ (And.intro (sload_end (by first | rfl | (simp [hl]; done) | fail)) ?_); conv => whnf) | (refine Exists.intro _ (And.intro (idx_i (m := 2) (by first | rfl | fail)) ?_); conv => whnf) | (refine Exists.intro _ (And.intro (idx_i (m := 3) (by first | rfl | fail)) ?_); conv => whnf) | (refine Exists.intro _ (And.intro (evb_i (m := 12) rfl (by first | rfl | fail)) ?_); conv => whnf) | (refine Exists.intro _ (And.intro (evb_i (m := 16) rfl (by first | rfl | fail)) ?_); conv => whnf) | (refine Exists.intro _ (And.intro (sload_col (i := 12) (by first | rfl | fail) (by first | omega | (simp [hl]; done) | fail)) ?_); conv => whnf) | (refine Exists.intro _ (And.intro rfl ?_); conv => whnf) | (refine And.intro (by first | omega | (simp; done) | fail) ?_; conv => whnf) | (refine And.intro ⟨rfl, Nat.le_of_ble_eq_true rfl⟩ ?_; conv => whnf) | (refine And.intro (by kernel_rfl) ?_; conv => whnf) | fail)
  refine ok1_callP [] (f86 _ _ _ _ _ _ _ _) rfl rfl ⟨⟨rfl, by first | rfl | fail⟩, trivial, by first | rfl | fail, ?_⟩
  conv => whnf
  repeat (first | (refine brF rfl ?_; conv => whnf) | (refine Exists.intro _ (And.intro (idx_i (m := 3) (by first | rfl | fail)) ?_); conv => whnf) | (refine Exists.intro _ (And.intro rfl ?_); conv => whnf) | (refine And.intro (by first | omega | (simp; done) | fail) ?_; conv => whnf) | (refine And.intro ⟨rfl, Nat.le_of_ble_eq_true rfl⟩ ?_; conv => whnf) | (refine And.intro (by kernel_rfl) ?_; conv => whnf) | fail)
  refine loop_rule ttOk mixed (by kernel_rfl) (ι := { n : Nat // 1 ≤ n ∧ n ≤ R + 1 }) (fun n => [(2, .p 2 0), (4, .p 4 0), (5, .p 5 0), (6, .p 6 0), (8, .p 7 0)]) (fun n => [some (.ro (sbx.map .u8 ++ [.sl 1 0 nW 4 fl])), some (.ro (w.map .u8)), some (.box [.p 0 0]), some (.box ([b0, b1, b2, b3, b4, b5, b6, b7, b8, b9, b10, b11, b12, b13, b14, b15].map .u8)), some (.box (List.replicate 16 (.u8 0))), some (.box (List.replicate 16 (.u8 0))), some (.box ((sealSt w R [b0, b1, b2, b3, b4, b5, b6, b7, b8, b9, b10, b11, b12, b13, b14, b15] (n.1 - 1)).map .u8)), some (.box [.i (n.1 : Int)])]) (fun _ => 8) (fun n => R + 1 - n.1) ⟨1, by omega⟩ ?_ ?_
  · refine Weak.sel [0, 1, 2, 3, 4, 5, 6, 7] rfl rfl ?_ ?_ rfl rfl
    · (repeat' (first | exact trivial | refine And.intro ?_ ?_ | fail)) <;> first | rfl | fail
    · (repeat' (first | exact trivial | refine And.intro ?_ ?_ | (refine wk_cons ?_ ?_))) <;> first | rfl | exact ren_eq (by first | (simp; done) | fail) (by first | rfl | fail) | exact ren_app2 (by first | (simp; done) | fail) (by first | rfl | fail) rfl | fail
  · rintro ⟨n, hn1, hn2⟩
    have hlen := sealSt_len w R [b0, b1, b2, b3, b4, b5, b6, b7, b8, b9, b10, b11, b12, b13, b14, b15] rfl (n - 1)
    obtain ⟨st, hst⟩ : ∃ st, st = sealSt w R [b0, b1, b2, b3, b4, b5, b6, b7, b8, b9, b10, b11, b12, b13, b14, b15] (n - 1) := ⟨_, rfl⟩
    rw [← hst] at hlen
    obtain ⟨s0, s1, s2, s3, s4, s5, s6, s7, s8, s9, s10, s11, s12, s13, s14, s15, rfl⟩ := ex16 hlen
    dsimp only
    rw [← hst]
    have h48 := f48 nW (by omega) fl w
    unfold ciB ciW at h48
    conv => whnf
    repeat (first | (refine Exists.intro _ (And.intro rfl ?_); conv => whnf) | fail)
    refine ok1_callF [0, 1] [false, false] false (h48) rfl rfl ⟨⟨rfl, by first | rfl | fail⟩, by (repeat' (first | exact trivial | refine And.intro ?_ ?_)) <;> first | exact ren_eq (by first | (simp; done) | fail) (by first | rfl | fail) | exact ren_app2 (by first | (simp; done) | fail) (by first | rfl | fail) (by first | rfl | fail), by first | rfl | fail, by first | rfl | fail, ?_⟩
    conv => whnf
    repeat (first | (refine And.intro (by kernel_rfl) ?_; conv => whnf) | fail)
    have hq : ((nW / 4 : Nat) : Int) - 1 = (R : Int) := by omega
    rw [hq] at h48
    refine ⟨fun hc => ?_, fun hc => ?_⟩
    · have hc' : n ≤ R := by
        have h2 : decide ((n : Int) ≤ ((nW / 4 : Nat) : Int) - 1) = true := hc
        rw [hq] at h2; simp at h2; omega
      conv => whnf
      repeat (first | (refine Exists.intro _ (And.intro (sload_all rfl (by first | rfl | fail)) ?_); conv => whnf) | (refine Exists.intro _ (And.intro (sput_all rfl (by first | rfl | fail)) ?_); conv => whnf) | (refine Exists.intro _ (And.intro rfl ?_); conv => whnf) | (refine And.intro (by first | omega | (simp; done) | fail) ?_; conv => whnf) | fail)
      have h87 := f87 nW fl w [s0, s1, s2, s3, s4, s5, s6, s7, s8, s9, s10, s11, s12, s13, s14, s15]
      unfold ciB ciW at h87
      refine ok1_callF [0, 1] [false, false, false, false] false (h87) rfl rfl ⟨⟨rfl, by first | rfl | fail⟩, by (repeat' (first | exact trivial | refine And.intro ?_ ?_)) <;> first | exact ren_eq (by first | (simp; done) | fail) (by first | rfl | fail) | exact ren_app2 (by first | (simp; done) | fail) (by first | rfl | fail) (by first | rfl | fail), by first | rfl | fail, by first | rfl | fail, ?_⟩
      conv => whnf
      repeat (fail)
      refine SWp.weak (R0 := [(2, .p 2 0), (4, .p 4 0), (5, .p 5 0), (6, .p 6 0), (8, .p 7 0), (48, .fn 101 [.p 9 0, .p 8 0])]) (H0 := [some (.ro (sbx.map .u8 ++ [.sl 1 0 nW 4 fl])), some (.ro (w.map .u8)), some (.box [.p 0 0]), some (.box ([b0, b1, b2, b3, b4, b5, b6, b7, b8, b9, b10, b11, b12, b13, b14, b15].map .u8)), some (.box (List.replicate 16 (.u8 0))), some (.box (List.replicate 16 (.u8 0))), some (.box ([s0, s1, s2, s3, s4, s5, s6, s7, s8, s9, s10, s11, s12, s13, s14, s15].map .u8)), some (.box [.i (n : Int)]), some (.box [.p 0 0]), some (.box ([s0, s1, s2, s3, s4, s5, s6, s7, s8, s9, s10, s11, s12, s13, s14, s15].map .u8))]) (L0 := 10) ?_ ?_
      · refine Weak.sel [0, 1, 2, 3, 4, 5, 6, 7, 9, 10] rfl rfl ?_ ?_ rfl rfl
        · (repeat' (first | exact trivial | refine And.intro ?_ ?_ | fail)) <;> first | rfl | fail
        · (repeat' (first | exact trivial | refine And.intro ?_ ?_ | (refine wk_cons ?_ ?_))) <;> first | rfl | exact ren_eq (by first | (simp; done) | fail) (by first | rfl | fail) | exact ren_app2 (by first | (simp; done) | fail) (by first | rfl | fail) rfl | fail
      refine range_rule (ps := [49, 50]) rfl rfl rfl (by kernel_rfl : Try.prog.funcs[101]? = some Try.f101) rfl rfl rfl rfl ?_
      refine sw_ok ttOk mixed (by kernel_rfl) ?_
      have hf84 := fun a b c d => f84 a b c d nW fl w
      unfold ciB ciW at hf84
      conv => whnf
      repeat (fail)
      have hw0 : w64 (w64 (4 * (n : Int)) + 0) = ((4 * n + 0 : Nat) : Int) := w64_4n n 0 (by omega) (by omega)
      have hw1 : w64 (w64 (4 * (n : Int)) + 1) = ((4 * n + 1 : Nat) : Int) := w64_4n n 1 (by omega) (by omega)
      have hw2 : w64 (w64 (4 * (n : Int)) + 2) = ((4 * n + 2 : Nat) : Int) := w64_4n n 2 (by omega) (by omega)
      have hw3 : w64 (w64 (4 * (n : Int)) + 3) = ((4 * n + 3 : Nat) : Int) := w64_4n n 3 (by omega) (by omega)
      by_cases hlast : n < R
      · have hlt : decide ((n : Int) < (R : Int)) = true := by simp; omega
        refine loop_rounds ttOk mixed (by kernel_rfl) 5 ?_
        conv => whnf
        repeat (first | (refine brT rfl ?_; conv => whnf) | (refine Exists.intro _ (And.intro (sload_all rfl (by first | rfl | fail)) ?_); conv => whnf) | (refine Exists.intro _ (And.intro (sput_all rfl (by first | rfl | fail)) ?_); conv => whnf) | (refine Exists.intro _ (And.intro rfl ?_); conv => whnf) | (refine And.intro (by first | omega | (simp; done) | fail) ?_; conv => whnf) | (refine And.intro (Nat.le_of_ble_eq_true rfl) ?_; conv => whnf) | (refine And.intro (by kernel_rfl) ?_; conv => whnf) | fail)
        refine ok1_callF [0, 1] [false, false] true (hf84 _ _ _ _) rfl rfl ⟨⟨rfl, by first | rfl | fail⟩, by (repeat' (first | exact trivial | refine And.intro ?_ ?_)) <;> first | exact ren_eq (by first | (simp; done) | fail) (by first | rfl | fail) | exact ren_app2 (by first | (simp; done) | fail) (by first | rfl | fail) (by first | rfl | fail), by first | rfl | fail, by first | rfl | fail, ?_⟩
        conv => whnf
        repeat (fail)
        refine ok1_yield 10 [0, 1, 2, 6, 7] [false, false, false, false, true, true] (syield_of (ps := [49, 50]) (N := Try.f47.ntmps) (R0 := [(2, .p 3 0), (6, .p 4 0), (8, .p 5 0)]) (args0 := [.i 0, .agg ((movC [s0, s1, s2, s3, s4, s5, s6, s7, s8, s9, s10, s11, s12, s13, s14, s15] 0).map .u8)]) (ex := .normal) (H0t := [some (.ro (sbx.map .u8 ++ [.sl 2 0 nW 4 fl])), some (.ro (w.map .u8)), some (.box [.p 1 0]), some (.box (([s0, s1, s2, s3, s4, s5, s6, s7, s8, s9, s10, s11, s12, s13, s14, s15]).map .u8)), some (.box [.i (n : Int)])]) (H1t := [some (.ro (sbx.map .u8 ++ [.sl 2 0 nW 4 fl])), some (.ro (w.map .u8)), some (.box [.p 1 0]), some (.box ((rndC false w n [s0, s1, s2, s3, s4, s5, s6, s7, s8, s9, s10, s11, s12, s13, s14, s15] 0 ++ [s4, s5, s6, s7, s8, s9, s10, s11, s12, s13, s14, s15]).map .u8)), some (.box [.i (n : Int)])]) (.inl rfl) rfl rfl rfl ?_) rfl rfl ⟨⟨rfl, rfl⟩, by (repeat' (first | exact trivial | refine And.intro ?_ ?_)) <;> first | rfl | exact ren_app2 (by first | (simp; done) | fail) rfl rfl | exact ren_eq (by first | (simp; done) | fail) (by first | rfl | fail), rfl, ?_⟩
        · refine sw_ok ttOk mixed (by kernel_rfl) ?_
          conv => whnf
          repeat (first | (refine Exists.intro _ (And.intro (sput_all rfl (by first | rfl | fail)) ?_); conv => whnf) | (refine And.intro (by first | omega | (simp; done) | fail) ?_; conv => whnf) | (refine And.intro ⟨rfl, Nat.le_of_ble_eq_true rfl⟩ ?_; conv => whnf) | (refine And.intro (by kernel_rfl) ?_; conv => whnf) | fail)
          refine sw_ok ttOk mixed (by kernel_rfl) ?_
          conv => whnf
          repeat (first | (refine Exists.intro _ (And.intro rfl ?_); conv => whnf) | fail)
          refine ok1_callF [1, 2] [false, false] false (h48) rfl rfl ⟨⟨rfl, by first | rfl | fail⟩, by (repeat' (first | exact trivial | refine And.intro ?_ ?_)) <;> first | exact ren_eq (by first | (simp; done) | fail) (by first | rfl | fail) | exact ren_app2 (by first | (simp; done) | fail) (by first | rfl | fail) (by first | rfl | fail), by first | rfl | fail, by first | rfl | fail, ?_⟩
          conv => whnf
          repeat (first | (refine Exists.intro _ (And.intro (sload_all rfl (by first | rfl | fail)) ?_); conv => whnf) | (refine gdT hlt ?_; conv => whnf) | (refine And.intro (by kernel_rfl) ?_; conv => whnf) | fail)
          refine ok1_callP [] (f88 _ _ _ _) rfl rfl ⟨⟨rfl, by first | rfl | fail⟩, trivial, by first | rfl | fail, ?_⟩
          conv => whnf
          repeat (first | (refine Exists.intro _ (And.intro (sload_all rfl (by first | rfl | fail)) ?_); conv => whnf) | (refine Exists.intro _ (And.intro (sput_all rfl (by first | rfl | fail)) ?_); conv => whnf) | (refine Exists.intro _ (And.intro (sload_end (by first | rfl | (simp [hl]; done) | fail)) ?_); conv => whnf) | (refine Exists.intro _ (And.intro (idx_i (m := 4 * n + 0) (by first | rfl | omega | fail)) ?_); conv => whnf) | (refine Exists.intro _ (And.intro (sload_col (i := 4 * (4 * n + 0)) (by first | rfl | omega | fail) (by first | omega | fail)) ?_); conv => whnf) | (refine Exists.intro _ (And.intro rfl ?_); conv => whnf) | (refine And.intro (by first | omega | fail) ?_; conv => whnf) | (refine And.intro ⟨rfl, Nat.le_of_ble_eq_true rfl⟩ ?_; conv => whnf) | fail)
          refine ok1_callP [] (f86 _ _ _ _ _ _ _ _) rfl rfl ⟨⟨rfl, by first | rfl | fail⟩, trivial, by first | rfl | fail, ?_⟩
          conv => whnf
          repeat (first | (refine Exists.intro _ (And.intro (idx_i (m := 0) (by first | rfl | fail)) ?_); conv => whnf) | (refine Exists.intro _ (And.intro rfl ?_); conv => whnf) | (refine And.intro (by first | omega | (simp; done) | fail) ?_; conv => whnf) | (refine And.intro (by kernel_rfl) ?_; conv => whnf) | fail)
          exact ⟨[0, 1, 2, 3, 4, 5], rfl, rfl, by (repeat' (first | exact trivial | refine And.intro ?_ ?_)) <;> first | rfl | exact ren_app2 (by first | (simp; done) | fail) rfl rfl | exact ren_eq (by first | (simp; done) | fail) (by first | rfl | fail), rfl⟩
        conv => whnf
        repeat (first | (refine brT rfl ?_; conv => whnf) | (refine brF rfl ?_; conv => whnf) | (refine Exists.intro _ (And.intro (sload_all rfl (by first | rfl | fail)) ?_); conv => whnf) | (refine Exists.intro _ (And.intro (sput_all rfl (by first | rfl | fail)) ?_); conv => whnf) | (refine Exists.intro _ (And.intro rfl ?_); conv => whnf) | (refine And.intro (by first | omega | (simp; done) | fail) ?_; conv => whnf) | (refine And.intro (Nat.le_of_ble_eq_true rfl) ?_; conv => whnf) | (refine And.intro (by kernel_rfl) ?_; conv => whnf) | fail)
        refine ok1_callF [0, 1] [false, false] true (hf84 _ _ _ _) rfl rfl ⟨⟨rfl, by first | rfl | fail⟩, by (repeat' (first | exact trivial | refine And.intro ?_ ?_)) <;> first | exact ren_eq (by first | (simp; done) | fail) (by first | rfl | fail) | exact ren_app2 (by first | (simp; done) | fail) (by first | rfl | fail) (by first | rfl | fail), by first | rfl | fail, by first | rfl | fail, ?_⟩
        conv => whnf
        repeat (fail)
        refine ok1_yield 10 [0, 1, 2, 6, 7] [false, false, false, false, true, true] (syield_of (ps := [49, 50]) (N := Try.f47.ntmps) (R0 := [(2, .p 3 0), (6, .p 4 0), (8, .p 5 0)]) (args0 := [.i 1, .agg ((movC [s0, s1, s2, s3, s4, s5, s6, s7, s8, s9, s10, s11, s12, s13, s14, s15] 1).map .u8)]) (ex := .normal) (H0t := [some (.ro (sbx.map .u8 ++ [.sl 2 0 nW 4 fl])), some (.ro (w.map .u8)), some (.box [.p 1 0]), some (.box ((rndC false w n [s0, s1, s2, s3, s4, s5, s6, s7, s8, s9, s10, s11, s12, s13, s14, s15] 0 ++ [s4, s5, s6, s7, s8, s9, s10, s11, s12, s13, s14, s15]).map .u8)), some (.box [.i (n : Int)])]) (H1t := [some (.ro (sbx.map .u8 ++ [.sl 2 0 nW 4 fl])), some (.ro (w.map .u8)), some (.box [.p 1 0]), some (.box ((rndC false w n [s0, s1, s2, s3, s4, s5, s6, s7, s8, s9, s10, s11, s12, s13, s14, s15] 0 ++ rndC false w n [s0, s1, s2, s3, s4, s5, s6, s7, s8, s9, s10, s11, s12, s13, s14, s15] 1 ++ [s8, s9, s10, s11, s12, s13, s14, s15]).map .u8)), some (.box [.i (n : Int)])]) (.inl rfl) rfl rfl rfl ?_) rfl rfl ⟨⟨rfl, rfl⟩, by (repeat' (first | exact trivial | refine And.intro ?_ ?_)) <;> first | rfl | exact ren_app2 (by first | (simp; done) | fail) rfl rfl | exact ren_eq (by first | (simp; done) | fail) (by first | rfl | fail), rfl, ?_⟩
        · refine sw_ok ttOk mixed (by kernel_rfl) ?_
          conv => whnf
          repeat (first | (refine Exists.intro _ (And.intro (sput_all rfl (by first | rfl | fail)) ?_); conv => whnf) | (refine And.intro (by first | omega | (simp; done) | fail) ?_; conv => whnf) | (refine And.intro ⟨rfl, Nat.le_of_ble_eq_true rfl⟩ ?_; conv => whnf) | (refine And.intro (by kernel_rfl) ?_; conv => whnf) | fail)
          refine sw_ok ttOk mixed (by kernel_rfl) ?_
          conv => whnf
          repeat (first | (refine Exists.intro _ (And.intro rfl ?_); conv => whnf) | fail)
          refine ok1_callF [1, 2] [false, false] false (h48) rfl rfl ⟨⟨rfl, by first | rfl | fail⟩, by (repeat' (first | exact trivial | refine And.intro ?_ ?_)) <;> first | exact ren_eq (by first | (simp; done) | fail) (by first | rfl | fail) | exact ren_app2 (by first | (simp; done) | fail) (by first | rfl | fail) (by first | rfl | fail), by first | rfl | fail, by first | rfl | fail, ?_⟩
          conv => whnf
          repeat (first | (refine Exists.intro _ (And.intro (sload_all rfl (by first | rfl | fail)) ?_); conv => whnf) | (refine gdT hlt ?_; conv => whnf) | (refine And.intro (by kernel_rfl) ?_; conv => whnf) | fail)
          refine ok1_callP [] (f88 _ _ _ _) rfl rfl ⟨⟨rfl, by first | rfl | fail⟩, trivial, by first | rfl | fail, ?_⟩
          conv => whnf
          repeat (first | (refine Exists.intro _ (And.intro (sload_all rfl (by first | rfl | fail)) ?_); conv => whnf) | (refine Exists.intro _ (And.intro (sput_all rfl (by first | rfl | fail)) ?_); conv => whnf) | (refine Exists.intro _ (And.intro (sload_end (by first | rfl | (simp [hl]; done) | fail)) ?_); conv => whnf) | (refine Exists.intro _ (And.intro (idx_i (m := 4 * n + 1) (by first | rfl | omega | fail)) ?_); conv => whnf) | (refine Exists.intro _ (And.intro (sload_col (i := 4 * (4 * n + 1)) (by first | rfl | omega | fail) (by first | omega | fail)) ?_); conv => whnf) | (refine Exists.intro _ (And.intro rfl ?_); conv => whnf) | (refine And.intro (by first | omega | fail) ?_; conv => whnf) | (refine And.intro ⟨rfl, Nat.le_of_ble_eq_true rfl⟩ ?_; conv => whnf) | fail)
          refine ok1_callP [] (f86 _ _ _ _ _ _ _ _) rfl rfl ⟨⟨rfl, by first | rfl | fail⟩, trivial, by first | rfl | fail, ?_⟩
          conv => whnf
          repeat (first | (refine Exists.intro _ (And.intro (idx_i (m := 1) (by first | rfl | fail)) ?_); conv => whnf) | (refine Exists.intro _ (And.intro rfl ?_); conv => whnf) | (refine And.intro (by first | omega | (simp; done) | fail) ?_; conv => whnf) | (refine And.intro (by kernel_rfl) ?_; conv => whnf) | fail)
          exact ⟨[0, 1, 2, 3, 4, 5], rfl, rfl, by (repeat' (first | exact trivial | refine And.intro ?_ ?_)) <;> first | rfl | exact ren_app2 (by first | (simp; done) | fail) rfl rfl | exact ren_eq (by first | (simp; done) | fail) (by first | rfl | fail), rfl⟩
        conv => whnf
        repeat (first | (refine brT rfl ?_; conv => whnf) | (refine brF rfl ?_; conv => whnf) | (refine Exists.intro _ (And.intro (sload_all rfl (by first | rfl | fail)) ?_); conv => whnf) | (refine Exists.intro _ (And.intro (sput_all rfl (by first | rfl | fail)) ?_); conv => whnf) | (refine Exists.intro _ (And.intro rfl ?_); conv => whnf) | (refine And.intro (by first | omega | (simp; done) | fail) ?_; conv => whnf) | (refine And.intro (Nat.le_of_ble_eq_true rfl) ?_; conv => whnf) | (refine And.intro (by kernel_rfl) ?_; conv => whnf) | fail)
        refine ok1_callF [0, 1] [false, false] true (hf84 _ _ _ _) rfl rfl ⟨⟨rfl, by first | rfl | fail⟩, by (repeat' (first | exact trivial | refine And.intro ?_ ?_)) <;> first | exact ren_eq (by first | (simp; done) | fail) (by first | rfl | fail) | exact ren_app2 (by first | (simp; done) | fail) (by first | rfl | fail) (by first | rfl | fail), by first | rfl | fail, by first | rfl | fail, ?_⟩
        conv => whnf
        repeat (fail)
        refine ok1_yield 10 [0, 1, 2, 6, 7] [false, false, false, false, true, true] (syield_of (ps := [49, 50]) (N := Try.f47.ntmps) (R0 := [(2, .p 3 0), (6, .p 4 0), (8, .p 5 0)]) (args0 := [.i 2, .agg ((movC [s0, s1, s2, s3, s4, s5, s6, s7, s8, s9, s10, s11, s12, s13, s14, s15] 2).map .u8)]) (ex := .normal) (H0t := [some (.ro (sbx.map .u8 ++ [.sl 2 0 nW 4 fl])), some (.ro (w.map .u8)), some (.box [.p 1 0]), some (.box ((rndC false w n [s0, s1, s2, s3, s4, s5, s6, s7, s8, s9, s10, s11, s12, s13, s14, s15] 0 ++ rndC false w n [s0, s1, s2, s3, s4, s5, s6, s7, s8, s9, s10, s11, s12, s13, s14, s15] 1 ++ [s8, s9, s10, s11, s12, s13, s14, s15]).map .u8)), some (.box [.i (n : Int)])]) (H1t := [some (.ro (sbx.map .u8 ++ [.sl 2 0 nW 4 fl])), some (.ro (w.map .u8)), some (.box [.p 1 0]), some (.box ((rndC false w n [s0, s1, s2, s3, s4, s5, s6, s7, s8, s9, s10, s11, s12, s13, s14, s15] 0 ++ rndC false w n [s0, s1, s2, s3, s4, s5, s6, s7, s8, s9, s10, s11, s12, s13, s14, s15] 1 ++ rndC false w n [s0, s1, s2, s3, s4, s5, s6, s7, s8, s9, s10, s11, s12, s13, s14, s15] 2 ++ [s12, s13, s14, s15]).map .u8)), some (.box [.i (n : Int)])]) (.inl rfl) rfl rfl rfl ?_) rfl rfl ⟨⟨rfl, rfl⟩, by (repeat' (first | exact trivial | refine And.intro ?_ ?_)) <;> first | rfl | exact ren_app2 (by first | (simp; done) | fail) rfl rfl | exact ren_eq (by first | (simp; done) | fail) (by first | rfl | fail), rfl, ?_⟩
        · refine sw_ok ttOk mixed (by kernel_rfl) ?_
          conv => whnf
          repeat (first | (refine Exists.intro _ (And.intro (sput_all rfl (by first | rfl | fail)) ?_); conv => whnf) | (refine And.intro (by first | omega | (simp; done) | fail) ?_; conv => whnf) | (refine And.intro ⟨rfl, Nat.le_of_ble_eq_true rfl⟩ ?_; conv => whnf) | (refine And.intro (by kernel_rfl) ?_; conv => whnf) | fail)
          refine sw_ok ttOk mixed (by kernel_rfl) ?_
          conv => whnf
          repeat (first | (refine Exists.intro _ (And.intro rfl ?_); conv => whnf) | fail)
          refine ok1_callF [1, 2] [false, false] false (h48) rfl rfl ⟨⟨rfl, by first | rfl | fail⟩, by (repeat' (first | exact trivial | refine And.intro ?_ ?_)) <;> first | exact ren_eq (by first | (simp; done) | fail) (by first | rfl | fail) | exact ren_app2 (by first | (simp; done) | fail) (by first | rfl | fail) (by first | rfl | fail), by first | rfl | fail, by first | rfl | fail, ?_⟩
          conv => whnf
          repeat (first | (refine Exists.intro _ (And.intro (sload_all rfl (by first | rfl | fail)) ?_); conv => whnf) | (refine gdT hlt ?_; conv => whnf) | (refine And.intro (by kernel_rfl) ?_; conv => whnf) | fail)
          refine ok1_callP [] (f88 _ _ _ _) rfl rfl ⟨⟨rfl, by first | rfl | fail⟩, trivial, by first | rfl | fail, ?_⟩
          conv => whnf
          repeat (first | (refine Exists.intro _ (And.intro (sload_all rfl (by first | rfl | fail)) ?_); conv => whnf) | (refine Exists.intro _ (And.intro (sput_all rfl (by first | rfl | fail)) ?_); conv => whnf) | (refine Exists.intro _ (And.intro (sload_end (by first | rfl | (simp [hl]; done) | fail)) ?_); conv => whnf) | (refine Exists.intro _ (And.intro (idx_i (m := 4 * n + 2) (by first | rfl | omega | fail)) ?_); conv => whnf) | (refine Exists.intro _ (And.intro (sload_col (i := 4 * (4 * n + 2)) (by first | rfl | omega | fail) (by first | omega | fail)) ?_); conv => whnf) | (refine Exists.intro _ (And.intro rfl ?_); conv => whnf) | (refine And.intro (by first | omega | fail) ?_; conv => whnf) | (refine And.intro ⟨rfl, Nat.le_of_ble_eq_true rfl⟩ ?_; conv => whnf) | fail)
          refine ok1_callP [] (f86 _ _ _ _ _ _ _ _) rfl rfl ⟨⟨rfl, by first | rfl | fail⟩, trivial, by first | rfl | fail, ?_⟩
          conv => whnf
          repeat (first | (refine Exists.intro _ (And.intro (idx_i (m := 2) (by first | rfl | fail)) ?_); conv => whnf) | (refine Exists.intro _ (And.intro rfl ?_); conv => whnf) | (refine And.intro (by first | omega | (simp; done) | fail) ?_; conv => whnf) | (refine And.intro ⟨rfl, Nat.le_of_ble_eq_true rfl⟩ ?_; conv => whnf) | (refine And.intro (by kernel_rfl) ?_; conv => whnf) | fail)
          exact ⟨[0, 1, 2, 3, 4, 5], rfl, rfl, by (repeat' (first | exact trivial | refine And.intro ?_ ?_)) <;> first | rfl | exact ren_app2 (by first | (simp; done) | fail) rfl rfl | exact ren_eq (by first | (simp; done) | fail) (by first | rfl | fail), rfl⟩
        conv => whnf
        repeat (first | (refine brT rfl ?_; conv => whnf) | (refine brF rfl ?_; conv => whnf) | (refine Exists.intro _ (And.intro (sload_all rfl (by first | rfl | fail)) ?_); conv => whnf) | (refine Exists.intro _ (And.intro (sput_all rfl (by first | rfl | fail)) ?_); conv => whnf) | (refine Exists.intro _ (And.intro rfl ?_); conv => whnf) | (refine And.intro (by first | omega | (simp; done) | fail) ?_; conv => whnf) | (refine And.intro (Nat.le_of_ble_eq_true rfl) ?_; conv => whnf) | (refine And.intro (by kernel_rfl) ?_; conv => whnf) | fail)
        refine ok1_callF [0, 1] [false, false] true (hf84 _ _ _ _) rfl rfl ⟨⟨rfl, by first | rfl | fail⟩, by (repeat' (first | exact trivial | refine And.intro ?_ ?_)) <;> first | exact ren_eq (by first | (simp; done) | fail) (by first | rfl | fail) | exact ren_app2 (by first | (simp; done) | fail) (by first | rfl | fail) (by first | rfl | fail), by first | rfl | fail, by first | rfl | fail, ?_⟩
        conv => whnf
        repeat (fail)
        refine ok1_yield 10 [0, 1, 2, 6, 7] [false, false, false, false, true, true] (syield_of (ps := [49, 50]) (N := Try.f47.ntmps) (R0 := [(2, .p 3 0), (6, .p 4 0), (8, .p 5 0)]) (args0 := [.i 3, .agg ((movC [s0, s1, s2, s3, s4, s5, s6, s7, s8, s9, s10, s11, s12, s13, s14, s15] 3).map .u8)]) (ex := .normal) (H0t := [some (.ro (sbx.map .u8 ++ [.sl 2 0 nW 4 fl])), some (.ro (w.map .u8)), some (.box [.p 1 0]), some (.box ((rndC false w n [s0, s1, s2, s3, s4, s5, s6, s7, s8, s9, s10, s11, s12, s13, s14, s15] 0 ++ rndC false w n [s0, s1, s2, s3, s4, s5, s6, s7, s8, s9, s10, s11, s12, s13, s14, s15] 1 ++ rndC false w n [s0, s1, s2, s3, s4, s5, s6, s7, s8, s9, s10, s11, s12, s13, s14, s15] 2 ++ [s12, s13, s14, s15]).map .u8)), some (.box [.i (n : Int)])]) (H1t := [some (.ro (sbx.map .u8 ++ [.sl 2 0 nW 4 fl])), some (.ro (w.map .u8)), some (.box [.p 1 0]), some (.box ((rndC false w n [s0, s1, s2, s3, s4, s5, s6, s7, s8, s9, s10, s11, s12, s13, s14, s15] 0 ++ rndC false w n [s0, s1, s2, s3, s4, s5, s6, s7, s8, s9, s10, s11, s12, s13, s14, s15] 1 ++ rndC false w n [s0, s1, s2, s3, s4, s5, s6, s7, s8, s9, s10, s11, s12, s13, s14, s15] 2 ++ rndC false w n [s0, s1, s2, s3, s4, s5, s6, s7, s8, s9, s10, s11, s12, s13, s14, s15] 3 ++ []).map .u8)), some (.box [.i (n : Int)])]) (.inl rfl) rfl rfl rfl ?_) rfl rfl ⟨⟨rfl, rfl⟩, by (repeat' (first | exact trivial | refine And.intro ?_ ?_)) <;> first | rfl | exact ren_app2 (by first | (simp; done) | fail) rfl rfl | exact ren_eq (by first | (simp; done) | fail) (by first | rfl | fail), rfl, ?_⟩
        · refine sw_ok ttOk mixed (by kernel_rfl) ?_
          conv => whnf
          repeat (first | (refine Exists.intro _ (And.intro (sput_all rfl (by first | rfl | fail)) ?_); conv => whnf) | (refine And.intro (by first | omega | (simp; done) | fail) ?_; conv => whnf) | (refine And.intro ⟨rfl, Nat.le_of_ble_eq_true rfl⟩ ?_; conv => whnf) | (refine And.intro (by kernel_rfl) ?_; conv => whnf) | fail)
          refine sw_ok ttOk mixed (by kernel_rfl) ?_
          conv => whnf
          repeat (first | (refine Exists.intro _ (And.intro rfl ?_); conv => whnf) | fail)
          refine ok1_callF [1, 2] [false, false] false (h48) rfl rfl ⟨⟨rfl, by first | rfl | fail⟩, by (repeat' (first | exact trivial | refine And.intro ?_ ?_)) <;> first | exact ren_eq (by first | (simp; done) | fail) (by first | rfl | fail) | exact ren_app2 (by first | (simp; done) | fail) (by first | rfl | fail) (by first | rfl | fail), by first | rfl | fail, by first | rfl | fail, ?_⟩
          conv => whnf
          repeat (first | (refine Exists.intro _ (And.intro (sload_all rfl (by first | rfl | fail)) ?_); conv => whnf) | (refine gdT hlt ?_; conv => whnf) | (refine And.intro (by kernel_rfl) ?_; conv => whnf) | fail)
          refine ok1_callP [] (f88 _ _ _ _) rfl rfl ⟨⟨rfl, by first | rfl | fail⟩, trivial, by first | rfl | fail, ?_⟩
          conv => whnf
          repeat (first | (refine Exists.intro _ (And.intro (sload_all rfl (by first | rfl | fail)) ?_); conv => whnf) | (refine Exists.intro _ (And.intro (sput_all rfl (by first | rfl | fail)) ?_); conv => whnf) | (refine Exists.intro _ (And.intro (sload_end (by first | rfl | (simp [hl]; done) | fail)) ?_); conv => whnf) | (refine Exists.intro _ (And.intro (idx_i (m := 4 * n + 3) (by first | rfl | omega | fail)) ?_); conv => whnf) | (refine Exists.intro _ (And.intro (sload_col (i := 4 * (4 * n + 3)) (by first | rfl | omega | fail) (by first | omega | fail)) ?_); conv => whnf) | (refine Exists.intro _ (And.intro rfl ?_); conv => whnf) | (refine And.intro (by first | omega | fail) ?_; conv => whnf) | (refine And.intro ⟨rfl, Nat.le_of_ble_eq_true rfl⟩ ?_; conv => whnf) | fail)
          refine ok1_callP [] (f86 _ _ _ _ _ _ _ _) rfl rfl ⟨⟨rfl, by first | rfl | fail⟩, trivial, by first | rfl | fail, ?_⟩
          conv => whnf
          repeat (first | (refine Exists.intro _ (And.intro (idx_i (m := 3) (by first | rfl | fail)) ?_); conv => whnf) | (refine Exists.intro _ (And.intro rfl ?_); conv => whnf) | (refine And.intro (by first | omega | (simp; done) | fail) ?_; conv => whnf) | (refine And.intro ⟨rfl, Nat.le_of_ble_eq_true rfl⟩ ?_; conv => whnf) | (refine And.intro (by kernel_rfl) ?_; conv => whnf) | fail)
          exact ⟨[0, 1, 2, 3, 4, 5], rfl, rfl, by (repeat' (first | exact trivial | refine And.intro ?_ ?_)) <;> first | rfl | exact ren_app2 (by first | (simp; done) | fail) rfl rfl | exact ren_eq (by first | (simp; done) | fail) (by first | rfl | fail), rfl⟩
        conv => whnf
        repeat (first | (refine brF rfl ?_; conv => whnf) | (refine Exists.intro _ (And.intro rfl ?_); conv => whnf) | (refine And.intro (by first | omega | (simp; done) | fail) ?_; conv => whnf) | fail)
        have hnext : (sealSt w R [b0, b1, b2, b3, b4, b5, b6, b7, b8, b9, b10, b11, b12, b13, b14, b15] (n + 1 - 1)).map SV.u8 = (rndC false w n [s0, s1, s2, s3, s4, s5, s6, s7, s8, s9, s10, s11, s12, s13, s14, s15] 0 ++ rndC false w n [s0, s1, s2, s3, s4, s5, s6, s7, s8, s9, s10, s11, s12, s13, s14, s15] 1 ++ rndC false w n [s0, s1, s2, s3, s4, s5, s6, s7, s8, s9, s10, s11, s12, s13, s14, s15] 2 ++ rndC false w n [s0, s1, s2, s3, s4, s5, s6, s7, s8, s9, s10, s11, s12, s13, s14, s15] 3 ++ []).map SV.u8 := by
          obtain ⟨m, rfl⟩ : ∃ m, n = m + 1 := ⟨n - 1, by omega⟩
          show (rnd (decide (m + 1 = R)) w (m + 1) (sealSt w R [b0, b1, b2, b3, b4, b5, b6, b7, b8, b9, b10, b11, b12, b13, b14, b15] m)).map SV.u8 = _
          have e : sealSt w R [b0, b1, b2, b3, b4, b5, b6, b7, b8, b9, b10, b11, b12, b13, b14, b15] m = [s0, s1, s2, s3, s4, s5, s6, s7, s8, s9, s10, s11, s12, s13, s14, s15] := hst.symm
          rw [e, show decide (m + 1 = R) = false from by simp; omega]
          simp [rnd]
        have hnw := w64_s n (by omega)
        refine ⟨⟨n + 1, by omega⟩, by simp only; omega, ?_⟩
        refine Weak.sel [0, 1, 2, 3, 4, 5, 6, 15] rfl rfl ?_ ?_ rfl rfl
        · (repeat' (first | exact trivial | refine And.intro ?_ ?_ | fail)) <;> first | rfl | fail
        · (repeat' (first | exact trivial | refine And.intro ?_ ?_ | (refine wk_cons ?_ ?_))) <;> first | rfl | exact wk_i (by first | rfl | exact hnw.symm | fail) | exact ren_eq (by first | (simp; done) | fail) (by first | rfl | exact hnext | fail) | exact ren_app2 (by first | (simp; done) | fail) (by first | rfl | fail) rfl | fail
      · have hlt : decide ((n : Int) < (R : Int)) = false := by simp; omega
        refine loop_rounds ttOk mixed (by kernel_rfl) 5 ?_
        conv => whnf
        repeat (first | (refine brT rfl ?_; conv => whnf) | (refine Exists.intro _ (And.intro (sload_all rfl (by first | rfl | fail)) ?_); conv => whnf) | (refine Exists.intro _ (And.intro (sput_all rfl (by first | rfl | fail)) ?_); conv => whnf) | (refine Exists.intro _ (And.intro rfl ?_); conv => whnf) | (refine And.intro (by first | omega | (simp; done) | fail) ?_; conv => whnf) | (refine And.intro (Nat.le_of_ble_eq_true rfl) ?_; conv => whnf) | (refine And.intro (by kernel_rfl) ?_; conv => whnf) | fail)
        refine ok1_callF [0, 1] [false, false] true (hf84 _ _ _ _) rfl rfl ⟨⟨rfl, by first | rfl | fail⟩, by (repeat' (first | exact trivial | refine And.intro ?_ ?_)) <;> first | exact ren_eq (by first | (simp; done) | fail) (by first | rfl | fail) | exact ren_app2 (by first | (simp; done) | fail) (by first | rfl | fail) (by first | rfl | fail), by first | rfl | fail, by first | rfl | fail, ?_⟩
        conv => whnf
        repeat (fail)
        refine ok1_yield 10 [0, 1, 2, 6, 7] [false, false, false, false, true, true] (syield_of (ps := [49, 50]) (N := Try.f47.ntmps) (R0 := [(2, .p 3 0), (6, .p 4 0), (8, .p 5 0)]) (args0 := [.i 0, .agg ((movC [s0, s1, s2, s3, s4, s5, s6, s7, s8, s9, s10, s11, s12, s13, s14, s15] 0).map .u8)]) (ex := .normal) (H0t := [some (.ro (sbx.map .u8 ++ [.sl 2 0 nW 4 fl])), some (.ro (w.map .u8)), some (.box [.p 1 0]), some (.box (([s0, s1, s2, s3, s4, s5, s6, s7, s8, s9, s10, s11, s12, s13, s14, s15]).map .u8)), some (.box [.i (n : Int)])]) (H1t := [some (.ro (sbx.map .u8 ++ [.sl 2 0 nW 4 fl])), some (.ro (w.map .u8)), some (.box [.p 1 0]), some (.box ((rndC true w n [s0, s1, s2, s3, s4, s5, s6, s7, s8, s9, s10, s11, s12, s13, s14, s15] 0 ++ [s4, s5, s6, s7, s8, s9, s10, s11, s12, s13, s14, s15]).map .u8)), some (.box [.i (n : Int)])]) (.inl rfl) rfl rfl rfl ?_) rfl rfl ⟨⟨rfl, rfl⟩, by (repeat' (first | exact trivial | refine And.intro ?_ ?_)) <;> first | rfl | exact ren_app2 (by first | (simp; done) | fail) rfl rfl | exact ren_eq (by first | (simp; done) | fail) (by first | rfl | fail), rfl, ?_⟩
        · refine sw_ok ttOk mixed (by kernel_rfl) ?_
          conv => whnf
          repeat (first | (refine Exists.intro _ (And.intro (sput_all rfl (by first | rfl | fail)) ?_); conv => whnf) | (refine And.intro (by first | omega | (simp; done) | fail) ?_; conv => whnf) | (refine And.intro ⟨rfl, Nat.le_of_ble_eq_true rfl⟩ ?_; conv => whnf) | (refine And.intro (by kernel_rfl) ?_; conv => whnf) | fail)
          refine sw_ok ttOk mixed (by kernel_rfl) ?_
          conv => whnf
          repeat (first | (refine Exists.intro _ (And.intro rfl ?_); conv => whnf) | fail)
          refine ok1_callF [1, 2] [false, false] false (h48) rfl rfl ⟨⟨rfl, by first | rfl | fail⟩, by (repeat' (first | exact trivial | refine And.intro ?_ ?_)) <;> first | exact ren_eq (by first | (simp; done) | fail) (by first | rfl | fail) | exact ren_app2 (by first | (simp; done) | fail) (by first | rfl | fail) (by first | rfl | fail), by first | rfl | fail, by first | rfl | fail, ?_⟩
          conv => whnf
          repeat (first | (refine Exists.intro _ (And.intro (sload_all rfl (by first | rfl | fail)) ?_); conv => whnf) | (refine Exists.intro _ (And.intro (sload_end (by first | rfl | (simp [hl]; done) | fail)) ?_); conv => whnf) | (refine gdF hlt ?_; conv => whnf) | (refine Exists.intro _ (And.intro (idx_i (m := 4 * n + 0) (by first | rfl | omega | fail)) ?_); conv => whnf) | (refine Exists.intro _ (And.intro (sload_col (i := 4 * (4 * n + 0)) (by first | rfl | omega | fail) (by first | omega | fail)) ?_); conv => whnf) | (refine Exists.intro _ (And.intro rfl ?_); conv => whnf) | (refine And.intro (by first | omega | fail) ?_; conv => whnf) | (refine And.intro (by kernel_rfl) ?_; conv => whnf) | fail)
          refine ok1_callP [] (f86 _ _ _ _ _ _ _ _) rfl rfl ⟨⟨rfl, by first | rfl | fail⟩, trivial, by first | rfl | fail, ?_⟩
          conv => whnf
          repeat (first | (refine Exists.intro _ (And.intro (idx_i (m := 0) (by first | rfl | fail)) ?_); conv => whnf) | (refine Exists.intro _ (And.intro rfl ?_); conv => whnf) | (refine And.intro (by first | omega | (simp; done) | fail) ?_; conv => whnf) | (refine And.intro (by kernel_rfl) ?_; conv => whnf) | fail)
          exact ⟨[0, 1, 2, 3, 4, 5], rfl, rfl, by (repeat' (first | exact trivial | refine And.intro ?_ ?_)) <;> first | rfl | exact ren_app2 (by first | (simp; done) | fail) rfl rfl | exact ren_eq (by first | (simp; done) | fail) (by first | rfl | fail), rfl⟩
        conv => whnf
        repeat (first | (refine brT rfl ?_; conv => whnf) | (refine brF rfl ?_; conv => whnf) | (refine Exists.intro _ (And.intro (sload_all rfl (by first | rfl | fail)) ?_); conv => whnf) | (refine Exists.intro _ (And.intro (sput_all rfl (by first | rfl | fail)) ?_); conv => whnf) | (refine Exists.intro _ (And.intro rfl ?_); conv => whnf) | (refine And.intro (by first | omega | (simp; done) | fail) ?_; conv => whnf) | (refine And.intro (Nat.le_of_ble_eq_true rfl) ?_; conv => whnf) | (refine And.intro (by kernel_rfl) ?_; conv => whnf) | fail)
        refine ok1_callF [0, 1] [false, false] true (hf84 _ _ _ _) rfl rfl ⟨⟨rfl, by first | rfl | fail⟩, by (repeat' (first | exact trivial | refine And.intro ?_ ?_)) <;> first | exact ren_eq (by first | (simp; done) | fail) (by first | rfl | fail) | exact ren_app2 (by first | (simp; done) | fail) (by first | rfl | fail) (by first | rfl | fail), by first | rfl | fail, by first | rfl | fail, ?_⟩
        conv => whnf
        repeat (fail)
        refine ok1_yield 10 [0, 1, 2, 6, 7] [false, false, false, false, true, true] (syield_of (ps := [49, 50]) (N := Try.f47.ntmps) (R0 := [(2, .p 3 0), (6, .p 4 0), (8, .p 5 0)]) (args0 := [.i 1, .agg ((movC [s0, s1, s2, s3, s4, s5, s6, s7, s8, s9, s10, s11, s12, s13, s14, s15] 1).map .u8)]) (ex := .normal) (H0t := [some (.ro (sbx.map .u8 ++ [.sl 2 0 nW 4 fl])), some (.ro (w.map .u8)), some (.box [.p 1 0]), some (.box ((rndC true w n [s0, s1, s2, s3, s4, s5, s6, s7, s8, s9, s10, s11, s12, s13, s14, s15] 0 ++ [s4, s5, s6, s7, s8, s9, s10, s11, s12, s13, s14, s15]).map .u8)), some (.box [.i (n : Int)])]) (H1t := [some (.ro (sbx.map .u8 ++ [.sl 2 0 nW 4 fl])), some (.ro (w.map .u8)), some (.box [.p 1 0]), some (.box ((rndC true w n [s0, s1, s2, s3, s4, s5, s6, s7, s8, s9, s10, s11, s12, s13, s14, s15] 0 ++ rndC true w n [s0, s1, s2, s3, s4, s5, s6, s7, s8, s9, s10, s11, s12, s13, s14, s15] 1 ++ [s8, s9, s10, s11, s12, s13, s14, s15]).map .u8)), some (.box [.i (n : Int)])]) (.inl rfl) rfl rfl rfl ?_) rfl rfl ⟨⟨rfl, rfl⟩, by (repeat' (first | exact trivial | refine And.intro ?_ ?_)) <;> first | rfl | exact ren_app2 (by first | (simp; done) | fail) rfl rfl | exact ren_eq (by first | (simp; done) | fail) (by first | rfl | fail), rfl, ?_⟩
        · refine sw_ok ttOk mixed (by kernel_rfl) ?_
          conv => whnf
          repeat (first | (refine Exists.intro _ (And.intro (sput_all rfl (by first | rfl | fail)) ?_); conv => whnf) | (refine And.intro (by first | omega | (simp; done) | fail) ?_; conv => whnf) | (refine And.intro ⟨rfl, Nat.le_of_ble_eq_true rfl⟩ ?_; conv => whnf) | (refine And.intro (by kernel_rfl) ?_; conv => whnf) | fail)
          refine sw_ok ttOk mixed (by kernel_rfl) ?_
          conv => whnf
          repeat (first | (refine Exists.intro _ (And.intro rfl ?_); conv => whnf) | fail)
          refine ok1_callF [1, 2] [false, false] false (h48) rfl rfl ⟨⟨rfl, by first | rfl | fail⟩, by (repeat' (first | exact trivial | refine And.intro ?_ ?_)) <;> first | exact ren_eq (by first | (simp; done) | fail) (by first | rfl | fail) | exact ren_app2 (by first | (simp; done) | fail) (by first | rfl | fail) (by first | rfl | fail), by first | rfl | fail, by first | rfl | fail, ?_⟩
          conv => whnf
          repeat (first | (refine Exists.intro _ (And.intro (sload_all rfl (by first | rfl | fail)) ?_); conv => whnf) | (refine Exists.intro _ (And.intro (sload_end (by first | rfl | (simp [hl]; done) | fail)) ?_); conv => whnf) | (refine gdF hlt ?_; conv => whnf) | (refine Exists.intro _ (And.intro (idx_i (m := 4 * n + 1) (by first | rfl | omega | fail)) ?_); conv => whnf) | (refine Exists.intro _ (And.intro (sload_col (i := 4 * (4 * n + 1)) (by first | rfl | omega | fail) (by first | omega | fail)) ?_); conv => whnf) | (refine Exists.intro _ (And.intro rfl ?_); conv => whnf) | (refine And.intro (by first | omega | fail) ?_; conv => whnf) | (refine And.intro (by kernel_rfl) ?_; conv => whnf) | fail)
          refine ok1_callP [] (f86 _ _ _ _ _ _ _ _) rfl rfl ⟨⟨rfl, by first | rfl | fail⟩, trivial, by first | rfl | fail, ?_⟩
          conv => whnf
          repeat (first | (refine Exists.intro _ (And.intro (idx_i (m := 1) (by first | rfl | fail)) ?_); conv => whnf) | (refine Exists.intro _ (And.intro rfl ?_); conv => whnf) | (refine And.intro (by first | omega | (simp; done) | fail) ?_; conv => whnf) | (refine And.intro (by kernel_rfl) ?_; conv => whnf) | fail)
          exact ⟨[0, 1, 2, 3, 4, 5], rfl, rfl, by (repeat' (first | exact trivial | refine And.intro ?_ ?_)) <;> first | rfl | exact ren_app2 (by first | (simp; done) | fail) rfl rfl | exact ren_eq (by first | (simp; done) | fail) (by first | rfl | fail), rfl⟩
        conv => whnf
        repeat (first | (refine brT rfl ?_; conv => whnf) | (refine brF rfl ?_; conv => whnf) | (refine Exists.intro _ (And.intro (sload_all rfl (by first | rfl | fail)) ?_); conv => whnf) | (refine Exists.intro _ (And.intro (sput_all rfl (by first | rfl | fail)) ?_); conv => whnf) | (refine Exists.intro _ (And.intro rfl ?_); conv => whnf) | (refine And.intro (by first | omega | (simp; done) | fail) ?_; conv => whnf) | (refine And.intro (Nat.le_of_ble_eq_true rfl) ?_; conv => whnf) | (refine And.intro (by kernel_rfl) ?_; conv => whnf) | fail)
        refine ok1_callF [0, 1] [false, false] true (hf84 _ _ _ _) rfl rfl ⟨⟨rfl, by first | rfl | fail⟩, by (repeat' (first | exact trivial | refine And.intro ?_ ?_)) <;> first | exact ren_eq (by first | (simp; done) | fail) (by first | rfl | fail) | exact ren_app2 (by first | (simp; done) | fail) (by first | rfl | fail) (by first | rfl | fail), by first | rfl | fail, by first | rfl | fail, ?_⟩
        conv => whnf
        repeat (fail)
        refine ok1_yield 10 [0, 1, 2, 6, 7] [false, false, false, false, true, true] (syield_of (ps := [49, 50]) (N := Try.f47.ntmps) (R0 := [(2, .p 3 0), (6, .p 4 0), (8, .p 5 0)]) (args0 := [.i 2, .agg ((movC [s0, s1, s2, s3, s4, s5, s6, s7, s8, s9, s10, s11, s12, s13, s14, s15] 2).map .u8)]) (ex := .normal) (H0t := [some (.ro (sbx.map .u8 ++ [.sl 2 0 nW 4 fl])), some (.ro (w.map .u8)), some (.box [.p 1 0]), some (.box ((rndC true w n [s0, s1, s2, s3, s4, s5, s6, s7, s8, s9, s10, s11, s12, s13, s14, s15] 0 ++ rndC true w n [s0, s1, s2, s3, s4, s5, s6, s7, s8, s9, s10, s11, s12, s13, s14, s15] 1 ++ [s8, s9, s10, s11, s12, s13, s14, s15]).map .u8)), some (.box [.i (n : Int)])]) (H1t := [some (.ro (sbx.map .u8 ++ [.sl 2 0 nW 4 fl])), some (.ro (w.map .u8)), some (.box [.p 1 0]), some (.box ((rndC true w n [s0, s1, s2, s3, s4, s5, s6, s7, s8, s9, s10, s11, s12, s13, s14, s15] 0 ++ rndC true w n [s0, s1, s2, s3, s4, s5, s6, s7, s8, s9, s10, s11, s12, s13, s14, s15] 1 ++ rndC true w n [s0, s1, s2, s3, s4, s5, s6, s7, s8, s9, s10, s11, s12, s13, s14, s15] 2 ++ [s12, s13, s14, s15]).map .u8)), some (.box [.i (n : Int)])]) (.inl rfl) rfl rfl rfl ?_) rfl rfl ⟨⟨rfl, rfl⟩, by (repeat' (first | exact trivial | refine And.intro ?_ ?_)) <;> first | rfl | exact ren_app2 (by first | (simp; done) | fail) rfl rfl | exact ren_eq (by first | (simp; done) | fail) (by first | rfl | fail), rfl, ?_⟩
        · refine sw_ok ttOk mixed (by kernel_rfl) ?_
          conv => whnf
          repeat (first | (refine Exists.intro _ (And.intro (sput_all rfl (by first | rfl | fail)) ?_); conv => whnf) | (refine And.intro (by first | omega | (simp; done) | fail) ?_; conv => whnf) | (refine And.intro ⟨rfl, Nat.le_of_ble_eq_true rfl⟩ ?_; conv => whnf) | (refine And.intro (by kernel_rfl) ?_; conv => whnf) | fail)
          refine sw_ok ttOk mixed (by kernel_rfl) ?_
          conv => whnf
          repeat (first | (refine Exists.intro _ (And.intro rfl ?_); conv => whnf) | fail)
          refine ok1_callF [1, 2] [false, false] false (h48) rfl rfl ⟨⟨rfl, by first | rfl | fail⟩, by (repeat' (first | exact trivial | refine And.intro ?_ ?_)) <;> first | exact ren_eq (by first | (simp; done) | fail) (by first | rfl | fail) | exact ren_app2 (by first | (simp; done) | fail) (by first | rfl | fail) (by first | rfl | fail), by first | rfl | fail, by first | rfl | fail, ?_⟩
          conv => whnf
          repeat (first | (refine Exists.intro _ (And.intro (sload_all rfl (by first | rfl | fail)) ?_); conv => whnf) | (refine Exists.intro _ (And.intro (sload_end (by first | rfl | (simp [hl]; done) | fail)) ?_); conv => whnf) | (refine gdF hlt ?_; conv => whnf) | (refine Exists.intro _ (And.intro (idx_i (m := 4 * n + 2) (by first | rfl | omega | fail)) ?_); conv => whnf) | (refine Exists.intro _ (And.intro (sload_col (i := 4 * (4 * n + 2)) (by first | rfl | omega | fail) (by first | omega | fail)) ?_); conv => whnf) | (refine Exists.intro _ (And.intro rfl ?_); conv => whnf) | (refine And.intro (by first | omega | fail) ?_; conv => whnf) | (refine And.intro (by kernel_rfl) ?_; conv => whnf) | fail)
          refine ok1_callP [] (f86 _ _ _ _ _ _ _ _) rfl rfl ⟨⟨rfl, by first | rfl | fail⟩, trivial, by first | rfl | fail, ?_⟩
          conv => whnf
          repeat (first | (refine Exists.intro _ (And.intro (idx_i (m := 2) (by first | rfl | fail)) ?_); conv => whnf) | (refine Exists.intro _ (And.intro rfl ?_); conv => whnf) | (refine And.intro (by first | omega | (simp; done) | fail) ?_; conv => whnf) | (refine And.intro ⟨rfl, Nat.le_of_ble_eq_true rfl⟩ ?_; conv => whnf) | (refine And.intro (by kernel_rfl) ?_; conv => whnf) | fail)
          exact ⟨[0, 1, 2, 3, 4, 5], rfl, rfl, by (repeat' (first | exact trivial | refine And.intro ?_ ?_)) <;> first | rfl | exact ren_app2 (by first | (simp; done) | fail) rfl rfl | exact ren_eq (by first | (simp; done) | fail) (by first | rfl | fail), rfl⟩
        conv => whnf
        repeat (first | (refine brT rfl ?_; conv => whnf) | (refine brF rfl ?_; conv => whnf) | (refine Exists.intro _ (And.intro (sload_all rfl (by first | rfl | fail)) ?_); conv => whnf) | (refine Exists.intro _ (And.intro (sput_all rfl (by first | rfl | fail)) ?_); conv => whnf) | (refine Exists.intro _ (And.intro rfl ?_); conv => whnf) | (refine And.intro (by first | omega | (simp; done) | fail) ?_; conv => whnf) | (refine And.intro (Nat.le_of_ble_eq_true rfl) ?_; conv => whnf) | (refine And.intro (by kernel_rfl) ?_; conv => whnf) | fail)
        refine ok1_callF [0, 1] [false, false] true (hf84 _ _ _ _) rfl rfl ⟨⟨rfl, by first | rfl | fail⟩, by (repeat' (first | exact trivial | refine And.intro ?_ ?_)) <;> first | exact ren_eq (by first | (simp; done) | fail) (by first | rfl | fail) | exact ren_app2 (by first | (simp; done) | fail) (by first | rfl | fail) (by first | rfl | fail), by first | rfl | fail, by first | rfl | fail, ?_⟩
        conv => whnf
        repeat (fail)
        refine ok1_yield 10 [0, 1, 2, 6, 7] [false, false, false, false, true, true] (syield_of (ps := [49, 50]) (N := Try.f47.ntmps) (R0 := [(2, .p 3 0), (6, .p 4 0), (8, .p 5 0)]) (args0 := [.i 3, .agg ((movC [s0, s1, s2, s3, s4, s5, s6, s7, s8, s9, s10, s11, s12, s13, s14, s15] 3).map .u8)]) (ex := .normal) (H0t := [some (.ro (sbx.map .u8 ++ [.sl 2 0 nW 4 fl])), some (.ro (w.map .u8)), some (.box [.p 1 0]), some (.box ((rndC true w n [s0, s1, s2, s3, s4, s5, s6, s7, s8, s9, s10, s11, s12, s13, s14, s15] 0 ++ rndC true w n [s0, s1, s2, s3, s4, s5, s6, s7, s8, s9, s10, s11, s12, s13, s14, s15] 1 ++ rndC true w n [s0, s1, s2, s3, s4, s5, s6, s7, s8, s9, s10, s11, s12, s13, s14, s15] 2 ++ [s12, s13, s14, s15]).map .u8)), some (.box [.i (n : Int)])]) (H1t := [some (.ro (sbx.map .u8 ++ [.sl 2 0 nW 4 fl])), some (.ro (w.map .u8)), some (.box [.p 1 0]), some (.box ((rndC true w n [s0, s1, s2, s3, s4, s5, s6, s7, s8, s9, s10, s11, s12, s13, s14, s15] 0 ++ rndC true w n [s0, s1, s2, s3, s4, s5, s6, s7, s8, s9, s10, s11, s12, s13, s14, s15] 1 ++ rndC true w n [s0, s1, s2, s3, s4, s5, s6, s7, s8, s9, s10, s11, s12, s13, s14, s15] 2 ++ rndC true w n [s0, s1, s2, s3, s4, s5, s6, s7, s8, s9, s10, s11, s12, s13, s14, s15] 3 ++ []).map .u8)), some (.box [.i (n : Int)])]) (.inl rfl) rfl rfl rfl ?_) rfl rfl ⟨⟨rfl, rfl⟩, by (repeat' (first | exact trivial | refine And.intro ?_ ?_)) <;> first | rfl | exact ren_app2 (by first | (simp; done) | fail) rfl rfl | exact ren_eq (by first | (simp; done) | fail) (by first | rfl | fail), rfl, ?_⟩
        · refine sw_ok ttOk mixed (by kernel_rfl) ?_
          conv => whnf
          repeat (first | (refine Exists.intro _ (And.intro (sput_all rfl (by first | rfl | fail)) ?_); conv => whnf) | (refine And.intro (by first | omega | (simp; done) | fail) ?_; conv => whnf) | (refine And.intro ⟨rfl, Nat.le_of_ble_eq_true rfl⟩ ?_; conv => whnf) | (refine And.intro (by kernel_rfl) ?_; conv => whnf) | fail)
          refine sw_ok ttOk mixed (by kernel_rfl) ?_
          conv => whnf
          repeat (first | (refine Exists.intro _ (And.intro rfl ?_); conv => whnf) | fail)
          refine ok1_callF [1, 2] [false, false] false (h48) rfl rfl ⟨⟨rfl, by first | rfl | fail⟩, by (repeat' (first | exact trivial | refine And.intro ?_ ?_)) <;> first | exact ren_eq (by first | (simp; done) | fail) (by first | rfl | fail) | exact ren_app2 (by first | (simp; done) | fail) (by first | rfl | fail) (by first | rfl | fail), by first | rfl | fail, by first | rfl | fail, ?_⟩
          conv => whnf
          repeat (first | (refine Exists.intro _ (And.intro (sload_all rfl (by first | rfl | fail)) ?_); conv => whnf) | (refine Exists.intro _ (And.intro (sload_end (by first | rfl | (simp [hl]; done) | fail)) ?_); conv => whnf) | (refine gdF hlt ?_; conv => whnf) | (refine Exists.intro _ (And.intro (idx_i (m := 4 * n + 3) (by first | rfl | omega | fail)) ?_); conv => whnf) | (refine Exists.intro _ (And.intro (sload_col (i := 4 * (4 * n + 3)) (by first | rfl | omega | fail) (by first | omega | fail)) ?_); conv => whnf) | (refine Exists.intro _ (And.intro rfl ?_); conv => whnf) | (refine And.intro (by first | omega | fail) ?_; conv => whnf) | (refine And.intro (by kernel_rfl) ?_; conv => whnf) | fail)
          refine ok1_callP [] (f86 _ _ _ _ _ _ _ _) rfl rfl ⟨⟨rfl, by first | rfl | fail⟩, trivial, by first | rfl | fail, ?_⟩
          conv => whnf
          repeat (first | (refine Exists.intro _ (And.intro (idx_i (m := 3) (by first | rfl | fail)) ?_); conv => whnf) | (refine Exists.intro _ (And.intro rfl ?_); conv => whnf) | (refine And.intro (by first | omega | (simp; done) | fail) ?_; conv => whnf) | (refine And.intro ⟨rfl, Nat.le_of_ble_eq_true rfl⟩ ?_; conv => whnf) | (refine And.intro (by kernel_rfl) ?_; conv => whnf) | fail)
          exact ⟨[0, 1, 2, 3, 4, 5], rfl, rfl, by (repeat' (first | exact trivial | refine And.intro ?_ ?_)) <;> first | rfl | exact ren_app2 (by first | (simp; done) | fail) rfl rfl | exact ren_eq (by first | (simp; done) | fail) (by first | rfl | fail), rfl⟩
        conv => whnf
        repeat (first | (refine brF rfl ?_; conv => whnf) | (refine Exists.intro _ (And.intro rfl ?_); conv => whnf) | (refine And.intro (by first | omega | (simp; done) | fail) ?_; conv => whnf) | fail)
        have hnext : (sealSt w R [b0, b1, b2, b3, b4, b5, b6, b7, b8, b9, b10, b11, b12, b13, b14, b15] (n + 1 - 1)).map SV.u8 = (rndC true w n [s0, s1, s2, s3, s4, s5, s6, s7, s8, s9, s10, s11, s12, s13, s14, s15] 0 ++ rndC true w n [s0, s1, s2, s3, s4, s5, s6, s7, s8, s9, s10, s11, s12, s13, s14, s15] 1 ++ rndC true w n [s0, s1, s2, s3, s4, s5, s6, s7, s8, s9, s10, s11, s12, s13, s14, s15] 2 ++ rndC true w n [s0, s1, s2, s3, s4, s5, s6, s7, s8, s9, s10, s11, s12, s13, s14, s15] 3 ++ []).map SV.u8 := by
          obtain ⟨m, rfl⟩ : ∃ m, n = m + 1 := ⟨n - 1, by omega⟩
          show (rnd (decide (m + 1 = R)) w (m + 1) (sealSt w R [b0, b1, b2, b3, b4, b5, b6, b7, b8, b9, b10, b11, b12, b13, b14, b15] m)).map SV.u8 = _
          have e : sealSt w R [b0, b1, b2, b3, b4, b5, b6, b7, b8, b9, b10, b11, b12, b13, b14, b15] m = [s0, s1, s2, s3, s4, s5, s6, s7, s8, s9, s10, s11, s12, s13, s14, s15] := hst.symm
          rw [e, show decide (m + 1 = R) = true from by simp; omega]
          simp [rnd]
        have hnw := w64_s n (by omega)
        refine ⟨⟨n + 1, by omega⟩, by simp only; omega, ?_⟩
        refine Weak.sel [0, 1, 2, 3, 4, 5, 6, 15] rfl rfl ?_ ?_ rfl rfl
        · (repeat' (first | exact trivial | refine And.intro ?_ ?_ | fail)) <;> first | rfl | fail
        · (repeat' (first | exact trivial | refine And.intro ?_ ?_ | (refine wk_cons ?_ ?_))) <;> first | rfl | exact wk_i (by first | rfl | exact hnw.symm | fail) | exact ren_eq (by first | (simp; done) | fail) (by first | rfl | exact hnext | fail) | exact ren_app2 (by first | (simp; done) | fail) (by first | rfl | fail) rfl | fail
    · have hc' : n = R + 1 := by
        have h2 : decide ((n : Int) ≤ ((nW / 4 : Nat) : Int) - 1) = false := hc
        rw [hq] at h2; simp at h2; omega
      subst hc'
      conv => whnf
      repeat (first | (refine Exists.intro _ (And.intro (sload_all rfl (by first | rfl | fail)) ?_); conv => whnf) | fail)
      have hres : sealSt w R [b0, b1, b2, b3, b4, b5, b6, b7, b8, b9, b10, b11, b12, b13, b14, b15] R = [s0, s1, s2, s3, s4, s5, s6, s7, s8, s9, s10, s11, s12, s13, s14, s15] := hst.symm
      rw [hres]
      refine loop_rounds ttOk mixed (by kernel_rfl) 5 ?_
      conv => whnf
      repeat (first | (refine brT rfl ?_; conv => whnf) | (refine brF rfl ?_; conv => whnf) | (refine Exists.intro _ (And.intro (sload_all rfl (by first | rfl | fail)) ?_); conv => whnf) | (refine Exists.intro _ (And.intro (sput_all rfl (by first | rfl | fail)) ?_); conv => whnf) | (refine Exists.intro _ (And.intro (idx_i (m := 0) (by first | rfl | fail)) ?_); conv => whnf) | (refine Exists.intro _ (And.intro (evb_i (m := 0) rfl (by first | rfl | fail)) ?_); conv => whnf) | (refine Exists.intro _ (And.intro (idx_i (m := 1) (by first | rfl | fail)) ?_); conv => whnf) | (refine Exists.intro _ (And.intro (idx_i (m := 2) (by first | rfl | fail)) ?_); conv => whnf) | (refine Exists.intro _ (And.intro (idx_i (m := 3) (by first | rfl | fail)) ?_); conv => whnf) | (refine Exists.intro _ (And.intro (evb_i (m := 4) rfl (by first | rfl | fail)) ?_); conv => whnf) | (refine Exists.intro _ (And.intro (evb_i (m := 8) rfl (by first | rfl | fail)) ?_); conv => whnf) | (refine Exists.intro _ (And.intro (evb_i (m := 12) rfl (by first | rfl | fail)) ?_); conv => whnf) | (refine Exists.intro _ (And.intro rfl ?_); conv => whnf) | (refine And.intro (by first | omega | (simp; done) | fail) ?_; conv => whnf) | (refine And.intro ⟨rfl, Nat.le_of_ble_eq_true rfl⟩ ?_; conv => whnf) | (refine And.intro ⟨Nat.le_of_ble_eq_true rfl, Nat.le_of_ble_eq_true rfl, Nat.le_of_ble_eq_true rfl⟩ ?_; conv => whnf) | (refine And.intro ⟨Nat.le_of_ble_eq_true rfl, Nat.le_of_ble_eq_true rfl, Nat.le_of_ble_eq_true rfl, Nat.le_of_ble_eq_true rfl⟩ ?_; conv => whnf) | (refine And.intro (by kernel_rfl) ?_; conv => whnf) | fail)
      refine ⟨[0, 1], ?_, rfl, rfl, ?_, rfl⟩
      · (repeat' (first | (refine wk_agg ?_) | (refine wk_cons ?_ ?_))) <;> first | rfl | fail
      · (repeat' (first | exact trivial | refine And.intro ?_ ?_ | fail)) <;> first | exact ren_eq (by first | (simp; done) | fail) (by first | rfl | fail) | exact ren_app2 (by first | (simp; done) | fail) (by first | rfl | fail) rfl | fail
end Go.Sh
