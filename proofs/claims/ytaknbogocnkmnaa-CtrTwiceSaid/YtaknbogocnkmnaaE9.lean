/- aes's reference: Seal (f49). -/
import Derived.Test.YtaknbogocnkmnaaE9a
namespace Go.Sh
open Go.Proofs
set_option maxHeartbeats 8000000
set_option linter.unusedSimpArgs false

theorem f49 (fb fw fk : Bool) (w block : List UInt8) (R : Nat) (hw : w.length = 16 * (R + 1)) (hR1 : 1 ≤ R) (hR2 : R ≤ 20) (hb : block.length = 16) :
    SCall Try.prog 49 [.sl 0 0 256 1 fb, .sl 1 0 (16 * (R + 1)) 1 fw, .sl 2 0 16 1 fk] [some (.ro (sbx.map .u8)), some (.ro (w.map .u8)), some (.ro (block.map .u8))]
      (.sl 3 0 16 1 true) [some (.ro (sbx.map .u8)), some (.ro (w.map .u8)), some (.ro (block.map .u8)), some (.row 5 ((sealSt w R block R).map .u8))] := by
  have hl := sbx_len
  obtain ⟨nw, hnw⟩ : ∃ nw, nw = 16 * (R + 1) := ⟨_, rfl⟩
  have hd := w9_div R (by omega)
  have hsb := w9_sub R (by omega)
  rw [← hnw] at hd hw
  rw [← hnw]
  have hnR : w64 (w64 ((nw : Int).tdiv 16) - 1) = (R : Int) := by rw [hd]; exact hsb
  refine scall_of ttOk (by kernel_rfl : Try.prog.funcs[49]? = some Try.f49) rfl rfl rfl ?_
  refine sw_ok ttOk mixed (by kernel_rfl) ?_
  conv => whnf
  repeat (first | (refine Exists.intro _ (And.intro rfl ?_); conv => whnf) | (refine And.intro ⟨by first | omega | fail, by first | decide | fail⟩ ?_; conv => whnf) | fail)
  refine loop_rule ttOk mixed (by kernel_rfl) (ι := { i : Nat // i ≤ 16 }) (fun i => [(0, .sl 0 0 256 1 fb), (1, .sl 1 0 nw 1 fw), (2, .sl 2 0 16 1 fk), (7, .i (R : Int)), (8, .sl 3 0 16 1 true), (9, .i (i.1 : Int))]) (fun i => [some (.ro (sbx.map .u8)), some (.ro (w.map .u8)), some (.ro (block.map .u8)), some (.row 5 ((fil 16 i.1 (fun j => block.getD j 0 ^^^ w.getD j 0) (fun _ => 0)).map .u8))]) (fun _ => 4) (fun i => 16 - i.1) ⟨0, by omega⟩ ?_ ?_
  · have hz : fil 16 0 (fun j => block.getD j 0 ^^^ w.getD j 0) (fun _ => (0 : UInt8)) = List.replicate 16 0 := fil_zero ..
    refine Weak.sel [0, 1, 2, 3] rfl rfl ?_ ?_ rfl rfl
    · (repeat' (first | exact trivial | refine And.intro ?_ ?_ | fail)) <;> first | rfl | exact wk_i (by first | exact hnR.symm | fail) | fail
    · (repeat' (first | exact trivial | refine And.intro ?_ ?_ | (refine wk_cons ?_ ?_))) <;> first | rfl | exact ren_eq (by first | (simp; done) | fail) (by first | rfl | fail) | fail
  · rintro ⟨i, hi⟩
    have hf := fil_len 16 i (fun j => block.getD j 0 ^^^ w.getD j 0) (fun _ => (0 : UInt8))
    dsimp only
    by_cases hi2 : i < 16
    · have hlt : decide ((i : Int) < 16) = true := by simp; omega
      have hp1 := w6_p1 i (by omega)
      have hs := fil_set (f := fun j => block.getD j 0 ^^^ w.getD j 0) (g := fun _ => (0 : UInt8)) hi2
      conv => whnf
      first | refine brT (by exact hlt) ?_ | fail
      conv => whnf
      repeat (first | (refine Exists.intro _ (And.intro (sput_m8 (i := i) (by first | rfl | omega | fail)) ?_); conv => whnf) | (refine Exists.intro _ (And.intro (sload_u8 (i := i) (by first | rfl | omega | fail) (by first | omega | fail)) ?_); conv => whnf) | (refine Exists.intro _ (And.intro (idx_i (m := i) (by first | rfl | fail)) ?_); conv => whnf) | (refine And.intro (by first | omega | fail) ?_; conv => whnf) | (refine And.intro (by kernel_rfl) ?_; conv => whnf) | (refine And.intro ⟨by first | exact @rfl Nat _ | fail, by first | (simp only [hf, ti5, List.length_map]; omega) | fail⟩ ?_; conv => whnf) | fail)
      refine ⟨⟨i + 1, by omega⟩, by simp only; omega, ?_⟩
      refine Weak.sel [0, 1, 2, 3] rfl rfl ?_ ?_ rfl rfl
      · (repeat' (first | exact trivial | refine And.intro ?_ ?_ | fail)) <;> first | rfl | exact wk_i (by first | exact hp1.symm | fail) | fail
      · (repeat' (first | exact trivial | refine And.intro ?_ ?_ | fail)) <;> first | exact ren_m8 (by first | exact hs | exact hs.symm | fail) | rfl | exact ren_eq (by first | (simp; done) | fail) (by first | rfl | fail) | fail
    · obtain rfl : i = 16 := by omega
      conv => whnf
      first | refine brF (by rfl) ?_ | fail
      conv => whnf
      repeat (fail)
      refine loop_rule ttOk mixed (by kernel_rfl) (ι := { n : Nat // 1 ≤ n ∧ n ≤ R + 1 }) (fun n => [(0, .sl 0 0 256 1 fb), (1, .sl 1 0 nw 1 fw), (7, .i (R : Int)), (8, .sl 3 0 16 1 true), (10, .i (n.1 : Int))]) (fun n => [some (.ro (sbx.map .u8)), some (.ro (w.map .u8)), some (.ro (block.map .u8)), some (.row 5 ((sealSt w R block (n.1 - 1)).map .u8))]) (fun _ => 4) (fun n => R + 1 - n.1) ⟨1, by omega⟩ ?_ ?_
      · have h0 : fil 16 16 (fun j => block.getD j 0 ^^^ w.getD j 0) (fun _ => (0 : UInt8)) = sealSt w R block (1 - 1) := by rw [fil_full]; exact sealSt_0 w R block hb
        refine Weak.sel [0, 1, 2, 3] rfl rfl ?_ ?_ rfl rfl
        · (repeat' (first | exact trivial | refine And.intro ?_ ?_ | fail)) <;> first | rfl | fail
        · (repeat' (first | exact trivial | refine And.intro ?_ ?_ | fail)) <;> first | exact ren_m8 (by first | exact h0 | exact h0.symm | fail) | rfl | exact ren_eq (by first | (simp; done) | fail) (by first | rfl | fail) | fail
      · rintro ⟨n, hn1, hn2⟩
        have hsl := sealSt_len w R block hb (n - 1)
        have hnx : n ≤ R → rnd (decide (n = R)) w n (sealSt w R block (n - 1)) = sealSt w R block (n + 1 - 1) := fun h => by
          obtain ⟨m, rfl⟩ : ∃ m, n = m + 1 := ⟨n - 1, by omega⟩
          rfl
        obtain ⟨s, hs⟩ : ∃ s, s = sealSt w R block (n - 1) := ⟨_, rfl⟩
        dsimp only
        rw [← hs] at hsl hnx ⊢
        by_cases hn : n ≤ R
        · have hle : decide ((n : Int) ≤ (R : Int)) = true := by simp; omega
          conv => whnf
          first | refine brT (by exact hle) ?_ | fail
          conv => whnf
          repeat (first | (refine And.intro ⟨by first | omega | fail, by first | decide | fail⟩ ?_; conv => whnf) | fail)
          refine loop_rule ttOk mixed (by kernel_rfl) (ι := { i : Nat // i ≤ 16 }) (fun i => [(0, .sl 0 0 256 1 fb), (1, .sl 1 0 nw 1 fw), (7, .i (R : Int)), (8, .sl 3 0 16 1 true), (10, .i (n : Int)), (11, .sl 4 0 16 1 true), (12, .i (i.1 : Int))]) (fun i => [some (.ro (sbx.map .u8)), some (.ro (w.map .u8)), some (.ro (block.map .u8)), some (.row 5 (s.map .u8)), some (.row 5 ((fil 16 i.1 (tB s) (fun _ => 0)).map .u8))]) (fun _ => 5) (fun i => 16 - i.1) ⟨0, by omega⟩ ?_ ?_
          · have hz : fil 16 0 (tB s) (fun _ => (0 : UInt8)) = List.replicate 16 0 := fil_zero ..
            refine Weak.sel [0, 1, 2, 3, 4] rfl rfl ?_ ?_ rfl rfl
            · (repeat' (first | exact trivial | refine And.intro ?_ ?_ | fail)) <;> first | rfl | fail
            · (repeat' (first | exact trivial | refine And.intro ?_ ?_ | (refine wk_cons ?_ ?_))) <;> first | rfl | exact ren_eq (by first | (simp; done) | fail) (by first | rfl | fail) | fail
          · rintro ⟨i, hi⟩
            have hf := fil_len 16 i (tB s) (fun _ => (0 : UInt8))
            dsimp only
            by_cases hi2 : i < 16
            · have hlt : decide ((i : Int) < 16) = true := by simp; omega
              have hp1 := w6_p1 i (by omega)
              have hsh := w9_sh i hi2
              have hst := fil_set (f := tB s) (g := fun _ => (0 : UInt8)) hi2
              have hx : (s.getD ((i + 4 * (i % 4)) % 16) 0).toNat < 256 := UInt8.toNat_lt _
              conv => whnf
              first | refine brT (by exact hlt) ?_ | fail
              conv => whnf
              repeat (first | (refine Exists.intro _ (And.intro (sload_u8 (i := (i + 4 * (i % 4)) % 16) (by first | rfl | omega | fail) (by first | omega | fail)) ?_); conv => whnf) | (refine Exists.intro _ (And.intro (idx_i (m := (i + 4 * (i % 4)) % 16) (by first | rfl | omega | fail)) ?_); conv => whnf) | (refine Exists.intro _ (And.intro (sload_u8 (i := (s.getD ((i + 4 * (i % 4)) % 16) 0).toNat) (by first | rfl | omega | fail) (by first | omega | fail)) ?_); conv => whnf) | (refine Exists.intro _ (And.intro (sput_m8 (i := i) (by first | rfl | omega | fail)) ?_); conv => whnf) | (refine Exists.intro _ (And.intro (idx_i (m := i) (by first | rfl | fail)) ?_); conv => whnf) | (refine Exists.intro _ (And.intro rfl ?_); conv => whnf) | (refine And.intro (by first | omega | (simp; omega) | fail) ?_; conv => whnf) | fail)
              refine ⟨⟨i + 1, by omega⟩, by simp only; omega, ?_⟩
              refine Weak.sel [0, 1, 2, 3, 4] rfl rfl ?_ ?_ rfl rfl
              · (repeat' (first | exact trivial | refine And.intro ?_ ?_ | fail)) <;> first | rfl | exact wk_i (by first | exact hp1.symm | fail) | fail
              · (repeat' (first | exact trivial | refine And.intro ?_ ?_ | fail)) <;> first | exact ren_m8 (by first | exact hst | exact hst.symm | fail) | rfl | exact ren_eq (by first | (simp; done) | fail) (by first | rfl | fail) | fail
            · obtain rfl : i = 16 := by omega
              conv => whnf
              first | refine brF (by rfl) ?_ | fail
              conv => whnf
              repeat (fail)
              have ht : fil 16 16 (tB s) (fun _ => (0 : UInt8)) = (List.range 16).map (tB s) := fil_full ..
              obtain ⟨t, htt⟩ : ∃ t, t = fil 16 16 (tB s) (fun _ => (0 : UInt8)) := ⟨_, rfl⟩
              have htl : t.length = 16 := by rw [htt]; exact fil_len ..
              have htg : ∀ j, j < 16 → t.getD j 0 = tB s j := fun j hj => by rw [htt, ht]; exact rng_getD hj
              rw [← htt]
              have hR : decide (n = R) = !decide (n < R) := by by_cases h : n < R <;> simp [h] <;> omega
              refine loop_rule ttOk mixed (by kernel_rfl) (ι := { i : Nat // i ≤ 16 }) (fun i => [(0, .sl 0 0 256 1 fb), (1, .sl 1 0 nw 1 fw), (7, .i (R : Int)), (8, .sl 3 0 16 1 true), (10, .i (n : Int)), (11, .sl 4 0 16 1 true), (13, .i (i.1 : Int))]) (fun i => [some (.ro (sbx.map .u8)), some (.ro (w.map .u8)), some (.ro (block.map .u8)), some (.row 5 ((fil 16 i.1 (rB (decide (n = R)) w n s) (fun j => s.getD j 0)).map .u8)), some (.row 5 (t.map .u8))]) (fun _ => 5) (fun i => 16 - i.1) ⟨0, by omega⟩ ?_ ?_
              · have hz : fil 16 0 (rB (decide (n = R)) w n s) (fun j => s.getD j 0) = s := fil_of_list hsl
                refine Weak.sel [0, 1, 2, 3, 4] rfl rfl ?_ ?_ rfl rfl
                · (repeat' (first | exact trivial | refine And.intro ?_ ?_ | fail)) <;> first | rfl | fail
                · (repeat' (first | exact trivial | refine And.intro ?_ ?_ | fail)) <;> first | exact ren_m8 (by first | exact hz | fail) | rfl | exact ren_eq (by first | (simp; done) | fail) (by first | rfl | fail) | fail
              · rintro ⟨i, hi⟩
                have hf := fil_len 16 i (rB (decide (n = R)) w n s) (fun j => s.getD j 0)
                dsimp only
                by_cases hi2 : i < 16
                · have hlt : decide ((i : Int) < 16) = true := by simp; omega
                  have hp1 := w6_p1 i (by omega)
                  have ha1 := w9_at i hi2 1 (by omega)
                  have ha2 := w9_at i hi2 2 (by omega)
                  have ha3 := w9_at i hi2 3 (by omega)
                  have h16 := w9_16 n i (by omega) (by omega)
                  by_cases hlast : n < R
                  · have hlr : decide ((n : Int) < (R : Int)) = true := by simp; omega
                    have hrb : (tmSt 8 0 (t.getD i 0) 2 ^^^ tmSt 8 0 (t.getD (i / 4 * 4 + (i + 1) % 4) 0) 3 ^^^ t.getD (i / 4 * 4 + (i + 2) % 4) 0 ^^^ t.getD (i / 4 * 4 + (i + 3) % 4) 0) ^^^ w.getD (16 * n + i) 0 = rB (decide (n = R)) w n s i := by
                      unfold rB
                      rw [hR, show decide (n < R) = true by simp; omega]
                      simp only [Bool.not_true, Bool.not_false, Bool.false_eq_true, if_false, if_true]
                      first | rw [htg i hi2, htg _ (by omega), htg _ (by omega), htg _ (by omega)] | fail
                    have hst := fil_setx (f := rB (decide (n = R)) w n s) (g := fun j => s.getD j 0) hi2 hrb
                    conv => whnf
                    first | refine brT (by exact hlt) ?_ | fail
                    conv => whnf
                    repeat (first | (refine Exists.intro _ (And.intro (sload_u8 (i := i) (by first | rfl | omega | fail) (by first | omega | fail)) ?_); conv => whnf) | (refine Exists.intro _ (And.intro (idx_i (m := i) (by first | rfl | fail)) ?_); conv => whnf) | (refine Exists.intro _ (And.intro (sload_u8 (i := i / 4 * 4 + (i + 1) % 4) (by first | rfl | omega | fail) (by first | omega | fail)) ?_); conv => whnf) | (refine Exists.intro _ (And.intro (idx_i (m := i / 4 * 4 + (i + 1) % 4) (by first | rfl | omega | fail)) ?_); conv => whnf) | (refine Exists.intro _ (And.intro (sload_u8 (i := i / 4 * 4 + (i + 2) % 4) (by first | rfl | omega | fail) (by first | omega | fail)) ?_); conv => whnf) | (refine Exists.intro _ (And.intro (idx_i (m := i / 4 * 4 + (i + 2) % 4) (by first | rfl | omega | fail)) ?_); conv => whnf) | (refine Exists.intro _ (And.intro (sload_u8 (i := i / 4 * 4 + (i + 3) % 4) (by first | rfl | omega | fail) (by first | omega | fail)) ?_); conv => whnf) | (refine Exists.intro _ (And.intro (idx_i (m := i / 4 * 4 + (i + 3) % 4) (by first | rfl | omega | fail)) ?_); conv => whnf) | (refine Exists.intro _ (And.intro rfl ?_); conv => whnf) | (refine And.intro (by first | omega | fail) ?_; conv => whnf) | (refine And.intro (by kernel_rfl) ?_; conv => whnf) | fail)
                    first | refine brT (by exact hlr) ?_ | fail
                    conv => whnf
                    refine ok1_callP [] (f81 (t.getD i 0) 2) rfl rfl ⟨⟨rfl, by first | rfl | fail⟩, trivial, by first | rfl | fail, ?_⟩
                    conv => whnf
                    repeat (fail)
                    refine ok1_callP [] (f81 (t.getD (i / 4 * 4 + (i + 1) % 4) 0) 3) rfl rfl ⟨⟨rfl, by first | rfl | fail⟩, trivial, by first | rfl | fail, ?_⟩
                    conv => whnf
                    repeat (first | (refine Exists.intro _ (And.intro (sput_m8 (i := i) (by first | rfl | omega | fail)) ?_); conv => whnf) | (refine Exists.intro _ (And.intro (idx_i (m := i) (by first | rfl | fail)) ?_); conv => whnf) | (refine Exists.intro _ (And.intro (sload_u8 (i := 16 * n + i) (by first | rfl | omega | fail) (by first | omega | fail)) ?_); conv => whnf) | (refine Exists.intro _ (And.intro (idx_i (m := 16 * n + i) (by first | rfl | omega | fail)) ?_); conv => whnf) | (refine And.intro (by first | omega | fail) ?_; conv => whnf) | (refine And.intro ⟨by first | exact @rfl Nat _ | fail, by first | (simp only [hf, hw, ti5, List.length_map]; omega) | fail⟩ ?_; conv => whnf) | fail)
                    refine ⟨⟨i + 1, by omega⟩, by simp only; omega, ?_⟩
                    refine Weak.sel [0, 1, 2, 3, 4] rfl rfl ?_ ?_ rfl rfl
                    · (repeat' (first | exact trivial | refine And.intro ?_ ?_ | fail)) <;> first | rfl | exact wk_i (by first | exact hp1.symm | fail) | fail
                    · (repeat' (first | exact trivial | refine And.intro ?_ ?_ | fail)) <;> first | exact ren_m8 (by first | exact hst | exact hst.symm | fail) | rfl | exact ren_eq (by first | (simp; done) | fail) (by first | rfl | fail) | fail
                  · have hlr : decide ((n : Int) < (R : Int)) = false := by simp; omega
                    have hrb : (t.getD i 0) ^^^ w.getD (16 * n + i) 0 = rB (decide (n = R)) w n s i := by
                      unfold rB
                      rw [hR, show decide (n < R) = false by simp; omega]
                      simp only [Bool.not_true, Bool.not_false, Bool.false_eq_true, if_false, if_true]
                      first | rw [htg i hi2]
                    have hst := fil_setx (f := rB (decide (n = R)) w n s) (g := fun j => s.getD j 0) hi2 hrb
                    conv => whnf
                    first | refine brT (by exact hlt) ?_ | fail
                    conv => whnf
                    repeat (first | (refine Exists.intro _ (And.intro (sload_u8 (i := i) (by first | rfl | omega | fail) (by first | omega | fail)) ?_); conv => whnf) | (refine Exists.intro _ (And.intro (idx_i (m := i) (by first | rfl | fail)) ?_); conv => whnf) | (refine Exists.intro _ (And.intro (sload_u8 (i := i / 4 * 4 + (i + 1) % 4) (by first | rfl | omega | fail) (by first | omega | fail)) ?_); conv => whnf) | (refine Exists.intro _ (And.intro (idx_i (m := i / 4 * 4 + (i + 1) % 4) (by first | rfl | omega | fail)) ?_); conv => whnf) | (refine Exists.intro _ (And.intro (sload_u8 (i := i / 4 * 4 + (i + 2) % 4) (by first | rfl | omega | fail) (by first | omega | fail)) ?_); conv => whnf) | (refine Exists.intro _ (And.intro (idx_i (m := i / 4 * 4 + (i + 2) % 4) (by first | rfl | omega | fail)) ?_); conv => whnf) | (refine Exists.intro _ (And.intro (sload_u8 (i := i / 4 * 4 + (i + 3) % 4) (by first | rfl | omega | fail) (by first | omega | fail)) ?_); conv => whnf) | (refine Exists.intro _ (And.intro (idx_i (m := i / 4 * 4 + (i + 3) % 4) (by first | rfl | omega | fail)) ?_); conv => whnf) | (refine Exists.intro _ (And.intro rfl ?_); conv => whnf) | (refine And.intro (by first | omega | (simp; omega) | fail) ?_; conv => whnf) | (refine And.intro (by kernel_rfl) ?_; conv => whnf) | fail)
                    first | intro _
                    conv => whnf
                    repeat (first | (refine Exists.intro _ (And.intro (sput_m8 (i := i) (by first | rfl | omega | fail)) ?_); conv => whnf) | (refine Exists.intro _ (And.intro (idx_i (m := i) (by first | rfl | fail)) ?_); conv => whnf) | (refine Exists.intro _ (And.intro (sload_u8 (i := 16 * n + i) (by first | rfl | omega | fail) (by first | omega | fail)) ?_); conv => whnf) | (refine Exists.intro _ (And.intro (idx_i (m := 16 * n + i) (by first | rfl | omega | fail)) ?_); conv => whnf) | (refine And.intro (by first | omega | fail) ?_; conv => whnf) | (refine And.intro ⟨by first | exact @rfl Nat _ | fail, by first | (simp only [hf, hw, ti5, List.length_map]; omega) | fail⟩ ?_; conv => whnf) | fail)
                    refine ⟨⟨i + 1, by omega⟩, by simp only; omega, ?_⟩
                    refine Weak.sel [0, 1, 2, 3, 4] rfl rfl ?_ ?_ rfl rfl
                    · (repeat' (first | exact trivial | refine And.intro ?_ ?_ | fail)) <;> first | rfl | exact wk_i (by first | exact hp1.symm | fail) | fail
                    · (repeat' (first | exact trivial | refine And.intro ?_ ?_ | fail)) <;> first | exact ren_m8 (by first | exact hst | exact hst.symm | fail) | rfl | exact ren_eq (by first | (simp; done) | fail) (by first | rfl | fail) | fail
                · obtain rfl : i = 16 := by omega
                  have hfin : fil 16 16 (rB (decide (n = R)) w n s) (fun j => s.getD j 0) = sealSt w R block (n + 1 - 1) := by rw [fil_full, rB_rnd _ _ _ _ hsl]; exact hnx hn
                  have hp1 := w6_p1 n (by omega)
                  conv => whnf
                  first | refine brF (by rfl) ?_ | fail
                  conv => whnf
                  repeat (fail)
                  refine ⟨⟨n + 1, by omega, by omega⟩, by simp only; omega, ?_⟩
                  refine Weak.sel [0, 1, 2, 3] rfl rfl ?_ ?_ rfl rfl
                  · (repeat' (first | exact trivial | refine And.intro ?_ ?_ | fail)) <;> first | rfl | exact wk_i (by first | exact hp1.symm | fail) | fail
                  · (repeat' (first | exact trivial | refine And.intro ?_ ?_ | fail)) <;> first | exact ren_m8 (by first | exact hfin | exact hfin.symm | fail) | rfl | exact ren_eq (by first | (simp; done) | fail) (by first | rfl | fail) | fail
        · obtain rfl : n = R + 1 := by omega
          have hle : decide (((R + 1 : Nat) : Int) ≤ (R : Int)) = false := by simp; omega
          have hs2 : s = sealSt w R block R := hs
          conv => whnf
          first | refine brF (by exact hle) ?_ | fail
          conv => whnf
          repeat (fail)
          refine ⟨[0, 1, 2, 3], ?_, rfl, rfl, ?_, rfl⟩
          · (repeat' (fail)) <;> first | rfl | fail
          · (repeat' (first | exact trivial | refine And.intro ?_ ?_ | fail)) <;> first | exact ren_m8 (by first | exact hs2 | exact hs2.symm | fail) | rfl | exact ren_eq (by first | (simp; done) | fail) (by first | rfl | fail) | fail
end Go.Sh
