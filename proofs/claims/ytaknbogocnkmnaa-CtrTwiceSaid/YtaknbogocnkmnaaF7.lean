/- ctr's law CtrTwice (f12), walked. -/
import Derived.Test.YtaknbogocnkmnaaF5
import Derived.Test.YtaknbogocnkmnaaF6
namespace Go.Sh
open Go.Proofs
set_option maxHeartbeats 8000000
set_option linter.unusedSimpArgs false

theorem f12k (key c b : List UInt8) (cut : Int) (h1 : key.length ≠ 16) (h2 : key.length ≠ 32) :
    SCall Try.prog 12 [.sl 0 0 key.length 1 false, .agg (c.map .u8), .sl 1 0 b.length 1 false, .i cut] [some (.ro (key.map .u8)), some (.ro (b.map .u8))] (.b true) [some (.ro (key.map .u8)), some (.ro (b.map .u8))] := by
  have g1 : ((key.length : Int) != 16) = true := by simp; omega
  have g2 : ((key.length : Int) != 32) = true := by simp; omega
  refine scall_of ttOk (by kernel_rfl : Try.prog.funcs[12]? = some Try.f12) rfl rfl rfl ?_
  refine sw_ok ttOk mixed (by kernel_rfl) ?_
  conv => whnf
  repeat (fail)
  refine ok1_callP [] (f51) rfl rfl ⟨⟨rfl, by first | rfl | fail⟩, trivial, by first | rfl | fail, ?_⟩
  conv => whnf
  repeat (first | (refine brT rfl ?_; conv => whnf) | (refine brF rfl ?_; conv => whnf) | (refine gdF rfl ?_; conv => whnf) | (refine gdT g1 ?_; conv => whnf) | (refine pkT g1 ?_; conv => whnf) | (refine gdF g2 ?_; conv => whnf) | (refine pkT g2 ?_; conv => whnf) | (refine Exists.intro _ (And.intro rfl ?_); conv => whnf) | fail)
  refine ⟨[0, 1], ?_, rfl, rfl, ?_, rfl⟩
  · (repeat' (fail)) <;> first | rfl | fail
  · (repeat' (first | exact trivial | refine And.intro ?_ ?_ | fail)) <;> first | exact ren_eq (by first | (simp; done) | fail) (by first | rfl | fail) | fail

theorem f12x_4 (key c b : List UInt8) (cut : Int) (hx : b.length > 2000 ∨ cut < 0 ∨ cut > (b.length : Int)) :
    SCall Try.prog 12 [.sl 0 0 16 1 false, .agg (c.map .u8), .sl 1 0 b.length 1 false, .i cut] [some (.ro (key.map .u8)), some (.ro (b.map .u8))] (.b true) [some (.ro (key.map .u8)), some (.ro (b.map .u8))] := by
  refine scall_of ttOk (by kernel_rfl : Try.prog.funcs[12]? = some Try.f12) rfl rfl rfl ?_
  refine sw_ok ttOk mixed (by kernel_rfl) ?_
  conv => whnf
  repeat (fail)
  refine ok1_callP [] (f51) rfl rfl ⟨⟨rfl, by first | rfl | fail⟩, trivial, by first | rfl | fail, ?_⟩
  conv => whnf
  by_cases hb : b.length > 2000
  · have g1 : decide ((b.length : Int) > 2000) = true := by simp; omega
    repeat (first | (refine brT rfl ?_; conv => whnf) | (refine brF rfl ?_; conv => whnf) | (refine gdT rfl ?_; conv => whnf) | (refine gdF rfl ?_; conv => whnf) | (refine gdF g1 ?_; conv => whnf) | (refine pkT g1 ?_; conv => whnf) | (refine Exists.intro _ (And.intro rfl ?_); conv => whnf) | fail)
    refine ⟨[0, 1], ?_, rfl, rfl, ?_, rfl⟩
    · (repeat' (fail)) <;> first | rfl | fail
    · (repeat' (first | exact trivial | refine And.intro ?_ ?_ | fail)) <;> first | exact ren_eq (by first | (simp; done) | fail) (by first | rfl | fail) | fail
  · have g1 : decide ((b.length : Int) > 2000) = false := by simp; omega
    by_cases hc0 : cut < 0
    · have g2 : decide (cut < 0) = true := by simp [hc0]
      repeat (first | (refine brT rfl ?_; conv => whnf) | (refine brF rfl ?_; conv => whnf) | (refine gdT rfl ?_; conv => whnf) | (refine gdT g1 ?_; conv => whnf) | (refine pkF g1 ?_; conv => whnf) | (refine gdF g2 ?_; conv => whnf) | (refine pkT g2 ?_; conv => whnf) | (refine Exists.intro _ (And.intro rfl ?_); conv => whnf) | fail)
      refine ⟨[0, 1], ?_, rfl, rfl, ?_, rfl⟩
      · (repeat' (fail)) <;> first | rfl | fail
      · (repeat' (first | exact trivial | refine And.intro ?_ ?_ | fail)) <;> first | exact ren_eq (by first | (simp; done) | fail) (by first | rfl | fail) | fail
    · have g2 : decide (cut < 0) = false := by simp only [decide_eq_false_iff_not]; exact hc0
      have g3 : decide (cut > (b.length : Int)) = true := by simp; omega
      repeat (first | (refine brF rfl ?_; conv => whnf) | (refine gdT rfl ?_; conv => whnf) | (refine gdT g1 ?_; conv => whnf) | (refine pkF g1 ?_; conv => whnf) | (refine gdT g2 ?_; conv => whnf) | (refine pkF g2 ?_; conv => whnf) | (refine gdT g3 ?_; conv => whnf) | (refine Exists.intro _ (And.intro rfl ?_); conv => whnf) | fail)
      refine ⟨[0, 1], ?_, rfl, rfl, ?_, rfl⟩
      · (repeat' (fail)) <;> first | rfl | fail
      · (repeat' (first | exact trivial | refine And.intro ?_ ?_ | fail)) <;> first | exact ren_eq (by first | (simp; done) | fail) (by first | rfl | fail) | fail

theorem f12m_4 (key c b : List UInt8) (q : Nat) (hk : key.length = 16) (hc : c.length = 16) (hb : b.length ≤ 2000) (hq : q ≤ b.length) :
    SCall Try.prog 12 [.sl 0 0 16 1 false, .agg (c.map .u8), .sl 1 0 b.length 1 false, .i (q : Int)] [some (.ro (key.map .u8)), some (.ro (b.map .u8))] (.b true) [some (.ro (key.map .u8)), some (.ro (b.map .u8))] := by
  have g1 : decide ((b.length : Int) > 2000) = false := by simp; omega
  have g2 : decide ((q : Int) < 0) = false := by simp
  have g3 : decide ((q : Int) > (b.length : Int)) = false := by simp; omega
  have hwl := wSt_4 key
  obtain ⟨w, hwe⟩ : ∃ w, w = wSt key 4 44 := ⟨_, rfl⟩
  have hn := f45s_4 false key key 0 hk (by rw [← hk]; simp)
  rw [← hwe] at hn hwl
  have hx1 := f53_1 44 false w 10 rfl hwl (by omega) (by omega) c b b 0 (by simp) (by omega) hc (by omega) true false
  obtain ⟨X, hX⟩ : ∃ X, X = turnL w 10 c b := ⟨_, rfl⟩
  have hXl : X.length = b.length := by rw [hX]; exact turnL_len ..
  have hXX : turnL w 10 c X = b := by rw [hX]; exact turnL_twice ..
  have hx2 := f53_1 44 false w 10 rfl hwl (by omega) (by omega) c X X 0 (by simp) (by omega) hc (by omega) true false
  have hx3 := f53_3 44 false w 10 rfl hwl (by omega) (by omega) c b q (b.length - q) (by omega) hc (by omega) true false false
  have hx4 := fun cc (hcc : List.length cc = 16) => f53_1 44 false w 10 rfl hwl (by omega) (by omega) cc b (b.drop (16 * (q / 16))) (16 * (q / 16)) (by rw [List.length_drop, List.take_of_length_le (by simp)]) (by rw [List.length_drop]; omega) hcc (by rw [List.length_drop]; omega) true false
  have hdr : turnL w 10 (ctrN c (q / 16)) (b.drop (16 * (q / 16))) = X.drop (16 * (q / 16)) := by rw [hX]; exact turnL_drop ..
  rw [← hX] at hx1 hx3
  rw [hXX, hXl] at hx2
  refine scall_of ttOk (by kernel_rfl : Try.prog.funcs[12]? = some Try.f12) rfl rfl rfl ?_
  refine sw_ok ttOk mixed (by kernel_rfl) ?_
  conv => whnf
  repeat (fail)
  refine ok1_callP [] (f51) rfl rfl ⟨⟨rfl, by first | rfl | fail⟩, trivial, by first | rfl | fail, ?_⟩
  conv => whnf
  repeat (first | (refine brF rfl ?_; conv => whnf) | (refine gdT rfl ?_; conv => whnf) | (refine gdT g1 ?_; conv => whnf) | (refine pkF g1 ?_; conv => whnf) | (refine pkF g2 ?_; conv => whnf) | (refine gdF g3 ?_; conv => whnf) | fail)
  refine ok1_callE [0] [some (.ro (key.map .u8)), some (.box (sbx.map .u8 ++ [.sl 4 0 44 4 false])), some (.row 137 (w.map .u8))] (.tup [.p 3 0, .i 0]) (hn) rfl rfl ⟨⟨rfl, by first | rfl | fail⟩, by (repeat' (first | exact trivial | refine And.intro ?_ ?_)) <;> first | exact ren_m8 rfl | fail, by (repeat' (first | exact trivial | refine And.intro ?_ ?_)) <;> first | exact renB_plain _ (by first | (simp; done) | fail) | exact rb_boxa (by first | (simp; done) | fail) rfl | rfl, by first | rfl, ?_⟩
  conv => whnf
  repeat (first | (refine Exists.intro _ (And.intro bytesOf_all ?_); conv => whnf) | (refine brF rfl ?_; conv => whnf) | (refine Exists.intro _ (And.intro (sload_all rfl (by first | rfl | (simp; omega))) ?_); conv => whnf) | (refine Exists.intro _ (And.intro rfl ?_); conv => whnf) | (refine And.intro (by first | omega | (simp; done) | fail) ?_; conv => whnf) | fail)
  refine ok1_callF [3, 4, 5, 1] [false, false, false, false, true] false (hx1) rfl rfl ⟨⟨rfl, by first | ((repeat' (first | exact ren_m8 rfl | exact rfl | (refine wk_agg ?_) | (refine wk_cons ?_ ?_))); done) | fail⟩, by (repeat' (first | exact trivial | refine And.intro ?_ ?_)) <;> first | rfl | exact ren_eq (by first | (simp; done) | fail) (by first | rfl | fail) | exact ren_app2 (by first | (simp; done) | fail) (by first | rfl | fail) (by first | rfl | fail) | fail, by first | simp [plainHf, plainB], by first | rfl | fail, ?_⟩
  conv => whnf
  repeat (first | (refine Exists.intro _ (And.intro (sload_all rfl (by first | rfl | (simp; omega))) ?_); conv => whnf) | (refine Exists.intro _ (And.intro rfl ?_); conv => whnf) | fail)
  refine ok1_callF [3, 4, 7, 6] [false, false, false, false, true] false (hx2) rfl rfl ⟨⟨rfl, by first | ((repeat' (first | exact ren_m8 rfl | exact rfl | (refine wk_agg ?_) | (refine wk_cons ?_ ?_))); done) | fail⟩, by (repeat' (first | exact trivial | refine And.intro ?_ ?_)) <;> first | rfl | exact ren_eq (by first | (simp; done) | fail) (by first | rfl | fail) | exact ren_app2 (by first | (simp; done) | fail) (by first | rfl | fail) (by first | rfl | fail) | fail, by first | simp [plainHf, plainB], by first | rfl | fail, ?_⟩
  conv => whnf
  repeat (first | (refine Exists.intro _ (And.intro (sload_all rfl (by first | rfl | (simp; omega))) ?_); conv => whnf) | (refine Exists.intro _ (And.intro (evb_i (m := q) rfl (by first | rfl | fail)) ?_); conv => whnf) | (refine Exists.intro _ (And.intro rfl ?_); conv => whnf) | (refine And.intro (by first | omega | fail) ?_; conv => whnf) | fail)
  refine ok1_callF [3, 4, 9, 1] [false, false, false, false, true] false (hx3) rfl rfl ⟨⟨rfl, by first | ((repeat' (first | exact ren_m8 rfl | exact rfl | (refine wk_agg ?_) | (refine wk_cons ?_ ?_))); done) | fail⟩, by (repeat' (first | exact trivial | refine And.intro ?_ ?_)) <;> first | exact ren_eq (by first | (simp; done) | fail) (by first | rfl | fail) | exact ren_app2 (by first | (simp; done) | fail) (by first | rfl | fail) (by first | rfl | fail) | ((repeat' (first | exact wk_nil | (refine wk_cons ?_ ?_))) <;> first | rfl | exact wk_sl rfl (by first | omega) (by first | rfl | fail)), by first | simp [plainHf, plainB], by first | rfl | fail, ?_⟩
  conv => whnf
  repeat (first | (refine Exists.intro _ (And.intro bytesOf_all ?_); conv => whnf) | (refine Exists.intro _ (And.intro (bytesOf_cut rfl) ?_); conv => whnf) | (refine gdT rfl ?_; conv => whnf) | (refine Exists.intro _ (And.intro (sload_all rfl (by first | rfl | (simp [hXl]; omega))) ?_); conv => whnf) | (refine Exists.intro _ (And.intro (sput_all rfl (by first | rfl | (simp [hXl]; omega))) ?_); conv => whnf) | (refine Exists.intro _ (And.intro rfl ?_); conv => whnf) | (refine gdT (by first | (simp; done) | fail) ?_; conv => whnf) | (refine gdF (by first | (simp; done) | fail) ?_; conv => whnf) | (refine pkF (by first | (simp; done) | fail) ?_; conv => whnf) | (refine And.intro (by first | omega | (simp; done) | (simp; omega) | fail) ?_; conv => whnf) | (refine And.intro (by kernel_rfl) ?_; conv => whnf) | fail)
  have hat : w64 ((q : Int).tdiv 16) = ((q / 16 : Nat) : Int) := by rw [Int.tdiv_eq_ediv_of_nonneg (by omega)]; simp only [w64_eq]; omega
  have h16 : w64 (16 * ((q / 16 : Nat) : Int)) = ((16 * (q / 16) : Nat) : Int) := by simp only [w64_eq]; omega
  refine loop_rule ttOk mixed (by kernel_rfl) (ι := { k : Nat // k ≤ q / 16 }) (fun k => [(116, .i (k.1 : Int)), (115, .i ((q / 16 : Nat) : Int)), (18, .p 11 0), (17, .i ((q / 16 : Nat) : Int)), (9, .p 3 0), (2, .sl 1 0 b.length 1 false), (12, .sl 6 0 b.length 1 false)]) (fun k => [some (.ro (key.map .u8)), some (.ro (b.map .u8)), none, some (.ro (sbx.map .u8 ++ [.sl 4 0 44 4 false])), some (.ro (w.map .u8)), none, some (.ro (X.map .u8)), none, none, none, none, some (.box ((ctrN c k.1).map .u8))]) (fun _ => 12) (fun k => q / 16 - k.1) ⟨0, by omega⟩ ?_ ?_
  · refine Weak.sel [0, 1, 2, 3, 4, 5, 6, 7, 8, 9, 10, 11] rfl rfl ?_ ?_ rfl rfl
    · (repeat' (first | exact trivial | refine And.intro ?_ ?_ | fail)) <;> first | rfl | exact wk_i (by first | exact hat.symm | fail) | fail
    · (repeat' (first | exact trivial | refine And.intro ?_ ?_ | fail)) <;> first | exact ren_eq (by first | (simp; done) | fail) (by first | rfl | fail) | exact ren_app2 (by first | (simp; done) | fail) (by first | rfl | fail) rfl | fail
  · rintro ⟨k, hk2⟩
    have hcl := ctrN_len hc k
    have h54 := f54L (ctrN c k) hcl
    have hnl := nextC_len hcl
    dsimp only
    by_cases hk3 : k < q / 16
    · have hlt : decide ((k : Int) < ((q / 16 : Nat) : Int)) = true := by simp; omega
      have hp1 := wp1 k (by omega)
      conv => whnf
      first | refine brT (by exact hlt) ?_ | fail
      conv => whnf
      repeat (first | (refine Exists.intro _ (And.intro (sload_all rfl (by first | rfl | (simp; omega))) ?_); conv => whnf) | fail)
      refine ok1_callF [] [] true (h54) rfl rfl ⟨⟨rfl, by first | ((repeat' (first | exact wk_nil | exact ren_m8 rfl | (refine wk_agg ?_) | (refine wk_cons ?_ ?_))); done) | fail⟩, trivial, by first | rfl | fail, by first | simp [plainRf, plainR, plainT, plainW], ?_⟩
      conv => whnf
      repeat (first | (refine Exists.intro _ (And.intro (sput_all rfl (by first | rfl | (simp [hcl, hnl]; done) | fail)) ?_); conv => whnf) | (refine And.intro (by first | omega | (simp; omega) | fail) ?_; conv => whnf) | fail)
      refine ⟨⟨k + 1, by omega⟩, by simp only; omega, ?_⟩
      refine Weak.sel [0, 1, 2, 3, 4, 5, 6, 7, 8, 9, 10, 11] rfl rfl ?_ ?_ rfl rfl
      · (repeat' (first | exact trivial | refine And.intro ?_ ?_ | fail)) <;> first | rfl | exact wk_i (by first | exact hp1.symm | fail) | fail
      · (repeat' (first | exact trivial | refine And.intro ?_ ?_ | fail)) <;> first | exact ren_eq (by first | (simp; done) | fail) (by first | rfl | fail) | exact ren_app2 (by first | (simp; done) | fail) (by first | rfl | fail) rfl | fail
    · obtain rfl : k = q / 16 := by omega
      have hlt : decide (((q / 16 : Nat) : Int) < ((q / 16 : Nat) : Int)) = false := by simp
      have hx5 := hx4 (ctrN c (q / 16)) hcl
      rw [hdr] at hx5
      simp only [List.length_drop] at hx5
      obtain ⟨Y, hY⟩ : ∃ Y, Y = X.drop (16 * (q / 16)) := ⟨_, rfl⟩
      rw [← hY] at hx5
      have hcmp : (List.take (b.length - 16 * (q / 16)) (List.drop 0 Y) == List.take (b.length - 16 * (q / 16)) (List.drop (0 + 16 * (q / 16) * 1) X)) = true := by rw [hY]; simp
      conv => whnf
      first | refine brF (by exact hlt) ?_ | fail
      conv => whnf
      repeat (first | (refine Exists.intro _ (And.intro (sload_all rfl (by first | rfl | (simp; omega))) ?_); conv => whnf) | (refine Exists.intro _ (And.intro (idx_i (m := 16 * (q / 16)) (by first | rfl | omega | fail)) ?_); conv => whnf) | (refine Exists.intro _ (And.intro rfl ?_); conv => whnf) | (refine And.intro (by first | omega | fail) ?_; conv => whnf) | fail)
      refine ok1_callF [3, 4, 12, 1] [false, false, false, false, true] false (hx5) rfl rfl ⟨⟨rfl, by first | ((repeat' (first | exact ren_m8 rfl | exact rfl | (refine wk_agg ?_) | (refine wk_cons ?_ ?_))); done) | fail⟩, by (repeat' (first | exact trivial | refine And.intro ?_ ?_)) <;> first | exact ren_eq (by first | (simp; done) | fail) (by first | rfl | fail) | exact ren_app2 (by first | (simp; done) | fail) (by first | rfl | fail) (by first | rfl | fail) | ((repeat' (first | exact wk_nil | (refine wk_cons ?_ ?_))) <;> first | exact wk_sl rfl (by first | omega) (by first | rfl | fail)), by first | simp [plainHf, plainB], by first | rfl | fail, ?_⟩
      conv => whnf
      have hYl : Y.length = b.length - 16 * (q / 16) := by rw [hY, List.length_drop, hXl]
      repeat (first | (refine Exists.intro _ (And.intro (bytesOf_cut rfl) ?_); conv => whnf) | (refine brT rfl ?_; conv => whnf) | (refine Exists.intro _ (And.intro (idx_i (m := 16 * (q / 16)) (by first | rfl | omega | fail)) ?_); conv => whnf) | (refine Exists.intro _ (And.intro rfl ?_); conv => whnf) | (refine And.intro (by first | omega | (simp; omega) | fail) ?_; conv => whnf) | (refine And.intro (by kernel_rfl) ?_; conv => whnf) | fail)
      refine ⟨[0, 1], ?_, rfl, rfl, ?_, rfl⟩
      · (repeat' (fail)) <;> first | exact wk_b (by first | exact hcmp.symm | fail) | fail
      · (repeat' (first | exact trivial | refine And.intro ?_ ?_ | fail)) <;> first | exact ren_eq (by first | (simp; done) | fail) (by first | rfl | fail) | fail
theorem f12x_8 (key c b : List UInt8) (cut : Int) (hx : b.length > 2000 ∨ cut < 0 ∨ cut > (b.length : Int)) :
    SCall Try.prog 12 [.sl 0 0 32 1 false, .agg (c.map .u8), .sl 1 0 b.length 1 false, .i cut] [some (.ro (key.map .u8)), some (.ro (b.map .u8))] (.b true) [some (.ro (key.map .u8)), some (.ro (b.map .u8))] := by
  refine scall_of ttOk (by kernel_rfl : Try.prog.funcs[12]? = some Try.f12) rfl rfl rfl ?_
  refine sw_ok ttOk mixed (by kernel_rfl) ?_
  conv => whnf
  repeat (fail)
  refine ok1_callP [] (f51) rfl rfl ⟨⟨rfl, by first | rfl | fail⟩, trivial, by first | rfl | fail, ?_⟩
  conv => whnf
  by_cases hb : b.length > 2000
  · have g1 : decide ((b.length : Int) > 2000) = true := by simp; omega
    repeat (first | (refine brT rfl ?_; conv => whnf) | (refine brF rfl ?_; conv => whnf) | (refine gdT rfl ?_; conv => whnf) | (refine gdF rfl ?_; conv => whnf) | (refine gdF g1 ?_; conv => whnf) | (refine pkT g1 ?_; conv => whnf) | (refine Exists.intro _ (And.intro rfl ?_); conv => whnf) | fail)
    refine ⟨[0, 1], ?_, rfl, rfl, ?_, rfl⟩
    · (repeat' (fail)) <;> first | rfl | fail
    · (repeat' (first | exact trivial | refine And.intro ?_ ?_ | fail)) <;> first | exact ren_eq (by first | (simp; done) | fail) (by first | rfl | fail) | fail
  · have g1 : decide ((b.length : Int) > 2000) = false := by simp; omega
    by_cases hc0 : cut < 0
    · have g2 : decide (cut < 0) = true := by simp [hc0]
      repeat (first | (refine brT rfl ?_; conv => whnf) | (refine brF rfl ?_; conv => whnf) | (refine gdT rfl ?_; conv => whnf) | (refine gdT g1 ?_; conv => whnf) | (refine pkF g1 ?_; conv => whnf) | (refine gdF g2 ?_; conv => whnf) | (refine pkT g2 ?_; conv => whnf) | (refine Exists.intro _ (And.intro rfl ?_); conv => whnf) | fail)
      refine ⟨[0, 1], ?_, rfl, rfl, ?_, rfl⟩
      · (repeat' (fail)) <;> first | rfl | fail
      · (repeat' (first | exact trivial | refine And.intro ?_ ?_ | fail)) <;> first | exact ren_eq (by first | (simp; done) | fail) (by first | rfl | fail) | fail
    · have g2 : decide (cut < 0) = false := by simp only [decide_eq_false_iff_not]; exact hc0
      have g3 : decide (cut > (b.length : Int)) = true := by simp; omega
      repeat (first | (refine brT rfl ?_; conv => whnf) | (refine brF rfl ?_; conv => whnf) | (refine gdT rfl ?_; conv => whnf) | (refine gdT g1 ?_; conv => whnf) | (refine pkF g1 ?_; conv => whnf) | (refine gdT g2 ?_; conv => whnf) | (refine pkF g2 ?_; conv => whnf) | (refine gdT g3 ?_; conv => whnf) | (refine Exists.intro _ (And.intro rfl ?_); conv => whnf) | fail)
      refine ⟨[0, 1], ?_, rfl, rfl, ?_, rfl⟩
      · (repeat' (fail)) <;> first | rfl | fail
      · (repeat' (first | exact trivial | refine And.intro ?_ ?_ | fail)) <;> first | exact ren_eq (by first | (simp; done) | fail) (by first | rfl | fail) | fail

theorem f12m_8 (key c b : List UInt8) (q : Nat) (hk : key.length = 32) (hc : c.length = 16) (hb : b.length ≤ 2000) (hq : q ≤ b.length) :
    SCall Try.prog 12 [.sl 0 0 32 1 false, .agg (c.map .u8), .sl 1 0 b.length 1 false, .i (q : Int)] [some (.ro (key.map .u8)), some (.ro (b.map .u8))] (.b true) [some (.ro (key.map .u8)), some (.ro (b.map .u8))] := by
  have g1 : decide ((b.length : Int) > 2000) = false := by simp; omega
  have g2 : decide ((q : Int) < 0) = false := by simp
  have g3 : decide ((q : Int) > (b.length : Int)) = false := by simp; omega
  have hwl := wSt_8 key
  obtain ⟨w, hwe⟩ : ∃ w, w = wSt key 8 60 := ⟨_, rfl⟩
  have hn := f45s_8 false key key 0 hk (by rw [← hk]; simp)
  rw [← hwe] at hn hwl
  have hx1 := f53_1 60 false w 14 rfl hwl (by omega) (by omega) c b b 0 (by simp) (by omega) hc (by omega) true false
  obtain ⟨X, hX⟩ : ∃ X, X = turnL w 14 c b := ⟨_, rfl⟩
  have hXl : X.length = b.length := by rw [hX]; exact turnL_len ..
  have hXX : turnL w 14 c X = b := by rw [hX]; exact turnL_twice ..
  have hx2 := f53_1 60 false w 14 rfl hwl (by omega) (by omega) c X X 0 (by simp) (by omega) hc (by omega) true false
  have hx3 := f53_3 60 false w 14 rfl hwl (by omega) (by omega) c b q (b.length - q) (by omega) hc (by omega) true false false
  have hx4 := fun cc (hcc : List.length cc = 16) => f53_1 60 false w 14 rfl hwl (by omega) (by omega) cc b (b.drop (16 * (q / 16))) (16 * (q / 16)) (by rw [List.length_drop, List.take_of_length_le (by simp)]) (by rw [List.length_drop]; omega) hcc (by rw [List.length_drop]; omega) true false
  have hdr : turnL w 14 (ctrN c (q / 16)) (b.drop (16 * (q / 16))) = X.drop (16 * (q / 16)) := by rw [hX]; exact turnL_drop ..
  rw [← hX] at hx1 hx3
  rw [hXX, hXl] at hx2
  refine scall_of ttOk (by kernel_rfl : Try.prog.funcs[12]? = some Try.f12) rfl rfl rfl ?_
  refine sw_ok ttOk mixed (by kernel_rfl) ?_
  conv => whnf
  repeat (fail)
  refine ok1_callP [] (f51) rfl rfl ⟨⟨rfl, by first | rfl | fail⟩, trivial, by first | rfl | fail, ?_⟩
  conv => whnf
  repeat (first | (refine brT rfl ?_; conv => whnf) | (refine brF rfl ?_; conv => whnf) | (refine gdT rfl ?_; conv => whnf) | (refine gdT g1 ?_; conv => whnf) | (refine pkF g1 ?_; conv => whnf) | (refine pkF g2 ?_; conv => whnf) | (refine gdF g3 ?_; conv => whnf) | (refine Exists.intro _ (And.intro rfl ?_); conv => whnf) | fail)
  refine ok1_callE [0] [some (.ro (key.map .u8)), some (.box (sbx.map .u8 ++ [.sl 4 0 60 4 false])), some (.row 137 (w.map .u8))] (.tup [.p 3 0, .i 0]) (hn) rfl rfl ⟨⟨rfl, by first | rfl | fail⟩, by (repeat' (first | exact trivial | refine And.intro ?_ ?_)) <;> first | exact ren_m8 rfl | fail, by (repeat' (first | exact trivial | refine And.intro ?_ ?_)) <;> first | exact renB_plain _ (by first | (simp; done) | fail) | exact rb_boxa (by first | (simp; done) | fail) rfl | rfl, by first | rfl, ?_⟩
  conv => whnf
  repeat (first | (refine Exists.intro _ (And.intro bytesOf_all ?_); conv => whnf) | (refine brF rfl ?_; conv => whnf) | (refine Exists.intro _ (And.intro (sload_all rfl (by first | rfl | (simp; omega))) ?_); conv => whnf) | (refine Exists.intro _ (And.intro rfl ?_); conv => whnf) | (refine And.intro (by first | omega | (simp; done) | fail) ?_; conv => whnf) | fail)
  refine ok1_callF [3, 4, 5, 1] [false, false, false, false, true] false (hx1) rfl rfl ⟨⟨rfl, by first | ((repeat' (first | exact ren_m8 rfl | exact rfl | (refine wk_agg ?_) | (refine wk_cons ?_ ?_))); done) | fail⟩, by (repeat' (first | exact trivial | refine And.intro ?_ ?_)) <;> first | rfl | exact ren_eq (by first | (simp; done) | fail) (by first | rfl | fail) | exact ren_app2 (by first | (simp; done) | fail) (by first | rfl | fail) (by first | rfl | fail) | fail, by first | simp [plainHf, plainB], by first | rfl | fail, ?_⟩
  conv => whnf
  repeat (first | (refine Exists.intro _ (And.intro (sload_all rfl (by first | rfl | (simp; omega))) ?_); conv => whnf) | (refine Exists.intro _ (And.intro rfl ?_); conv => whnf) | fail)
  refine ok1_callF [3, 4, 7, 6] [false, false, false, false, true] false (hx2) rfl rfl ⟨⟨rfl, by first | ((repeat' (first | exact ren_m8 rfl | exact rfl | (refine wk_agg ?_) | (refine wk_cons ?_ ?_))); done) | fail⟩, by (repeat' (first | exact trivial | refine And.intro ?_ ?_)) <;> first | rfl | exact ren_eq (by first | (simp; done) | fail) (by first | rfl | fail) | exact ren_app2 (by first | (simp; done) | fail) (by first | rfl | fail) (by first | rfl | fail) | fail, by first | simp [plainHf, plainB], by first | rfl | fail, ?_⟩
  conv => whnf
  repeat (first | (refine Exists.intro _ (And.intro (sload_all rfl (by first | rfl | (simp; omega))) ?_); conv => whnf) | (refine Exists.intro _ (And.intro (evb_i (m := q) rfl (by first | rfl | fail)) ?_); conv => whnf) | (refine Exists.intro _ (And.intro rfl ?_); conv => whnf) | (refine And.intro (by first | omega | fail) ?_; conv => whnf) | fail)
  refine ok1_callF [3, 4, 9, 1] [false, false, false, false, true] false (hx3) rfl rfl ⟨⟨rfl, by first | ((repeat' (first | exact ren_m8 rfl | exact rfl | (refine wk_agg ?_) | (refine wk_cons ?_ ?_))); done) | fail⟩, by (repeat' (first | exact trivial | refine And.intro ?_ ?_)) <;> first | exact ren_eq (by first | (simp; done) | fail) (by first | rfl | fail) | exact ren_app2 (by first | (simp; done) | fail) (by first | rfl | fail) (by first | rfl | fail) | ((repeat' (first | exact wk_nil | (refine wk_cons ?_ ?_))) <;> first | rfl | exact wk_sl rfl (by first | omega) (by first | rfl | fail)), by first | simp [plainHf, plainB], by first | rfl | fail, ?_⟩
  conv => whnf
  repeat (first | (refine Exists.intro _ (And.intro bytesOf_all ?_); conv => whnf) | (refine Exists.intro _ (And.intro (bytesOf_cut rfl) ?_); conv => whnf) | (refine gdT rfl ?_; conv => whnf) | (refine Exists.intro _ (And.intro (sload_all rfl (by first | rfl | (simp [hXl]; omega))) ?_); conv => whnf) | (refine Exists.intro _ (And.intro (sput_all rfl (by first | rfl | (simp [hXl]; omega))) ?_); conv => whnf) | (refine Exists.intro _ (And.intro rfl ?_); conv => whnf) | (refine gdT (by first | (simp; done) | fail) ?_; conv => whnf) | (refine gdF (by first | (simp; done) | fail) ?_; conv => whnf) | (refine pkF (by first | (simp; done) | fail) ?_; conv => whnf) | (refine And.intro (by first | omega | (simp; done) | (simp; omega) | fail) ?_; conv => whnf) | (refine And.intro (by kernel_rfl) ?_; conv => whnf) | fail)
  have hat : w64 ((q : Int).tdiv 16) = ((q / 16 : Nat) : Int) := by rw [Int.tdiv_eq_ediv_of_nonneg (by omega)]; simp only [w64_eq]; omega
  have h16 : w64 (16 * ((q / 16 : Nat) : Int)) = ((16 * (q / 16) : Nat) : Int) := by simp only [w64_eq]; omega
  refine loop_rule ttOk mixed (by kernel_rfl) (ι := { k : Nat // k ≤ q / 16 }) (fun k => [(116, .i (k.1 : Int)), (115, .i ((q / 16 : Nat) : Int)), (18, .p 11 0), (17, .i ((q / 16 : Nat) : Int)), (9, .p 3 0), (2, .sl 1 0 b.length 1 false), (12, .sl 6 0 b.length 1 false)]) (fun k => [some (.ro (key.map .u8)), some (.ro (b.map .u8)), none, some (.ro (sbx.map .u8 ++ [.sl 4 0 60 4 false])), some (.ro (w.map .u8)), none, some (.ro (X.map .u8)), none, none, none, none, some (.box ((ctrN c k.1).map .u8))]) (fun _ => 12) (fun k => q / 16 - k.1) ⟨0, by omega⟩ ?_ ?_
  · refine Weak.sel [0, 1, 2, 3, 4, 5, 6, 7, 8, 9, 10, 11] rfl rfl ?_ ?_ rfl rfl
    · (repeat' (first | exact trivial | refine And.intro ?_ ?_ | fail)) <;> first | rfl | exact wk_i (by first | exact hat.symm | fail) | fail
    · (repeat' (first | exact trivial | refine And.intro ?_ ?_ | fail)) <;> first | exact ren_eq (by first | (simp; done) | fail) (by first | rfl | fail) | exact ren_app2 (by first | (simp; done) | fail) (by first | rfl | fail) rfl | fail
  · rintro ⟨k, hk2⟩
    have hcl := ctrN_len hc k
    have h54 := f54L (ctrN c k) hcl
    have hnl := nextC_len hcl
    dsimp only
    by_cases hk3 : k < q / 16
    · have hlt : decide ((k : Int) < ((q / 16 : Nat) : Int)) = true := by simp; omega
      have hp1 := wp1 k (by omega)
      conv => whnf
      first | refine brT (by exact hlt) ?_ | fail
      conv => whnf
      repeat (first | (refine Exists.intro _ (And.intro (sload_all rfl (by first | rfl | (simp; omega))) ?_); conv => whnf) | fail)
      refine ok1_callF [] [] true (h54) rfl rfl ⟨⟨rfl, by first | ((repeat' (first | exact wk_nil | exact ren_m8 rfl | (refine wk_agg ?_) | (refine wk_cons ?_ ?_))); done) | fail⟩, trivial, by first | rfl | fail, by first | simp [plainRf, plainR, plainT, plainW], ?_⟩
      conv => whnf
      repeat (first | (refine Exists.intro _ (And.intro (sput_all rfl (by first | rfl | (simp [hcl, hnl]; done) | fail)) ?_); conv => whnf) | (refine And.intro (by first | omega | (simp; omega) | fail) ?_; conv => whnf) | fail)
      refine ⟨⟨k + 1, by omega⟩, by simp only; omega, ?_⟩
      refine Weak.sel [0, 1, 2, 3, 4, 5, 6, 7, 8, 9, 10, 11] rfl rfl ?_ ?_ rfl rfl
      · (repeat' (first | exact trivial | refine And.intro ?_ ?_ | fail)) <;> first | rfl | exact wk_i (by first | exact hp1.symm | fail) | fail
      · (repeat' (first | exact trivial | refine And.intro ?_ ?_ | fail)) <;> first | exact ren_eq (by first | (simp; done) | fail) (by first | rfl | fail) | exact ren_app2 (by first | (simp; done) | fail) (by first | rfl | fail) rfl | fail
    · obtain rfl : k = q / 16 := by omega
      have hlt : decide (((q / 16 : Nat) : Int) < ((q / 16 : Nat) : Int)) = false := by simp
      have hx5 := hx4 (ctrN c (q / 16)) hcl
      rw [hdr] at hx5
      simp only [List.length_drop] at hx5
      obtain ⟨Y, hY⟩ : ∃ Y, Y = X.drop (16 * (q / 16)) := ⟨_, rfl⟩
      rw [← hY] at hx5
      have hcmp : (List.take (b.length - 16 * (q / 16)) (List.drop 0 Y) == List.take (b.length - 16 * (q / 16)) (List.drop (0 + 16 * (q / 16) * 1) X)) = true := by rw [hY]; simp
      conv => whnf
      first | refine brF (by exact hlt) ?_ | fail
      conv => whnf
      repeat (first | (refine Exists.intro _ (And.intro (sload_all rfl (by first | rfl | (simp; omega))) ?_); conv => whnf) | (refine Exists.intro _ (And.intro (idx_i (m := 16 * (q / 16)) (by first | rfl | omega | fail)) ?_); conv => whnf) | (refine Exists.intro _ (And.intro rfl ?_); conv => whnf) | (refine And.intro (by first | omega | fail) ?_; conv => whnf) | fail)
      refine ok1_callF [3, 4, 12, 1] [false, false, false, false, true] false (hx5) rfl rfl ⟨⟨rfl, by first | ((repeat' (first | exact ren_m8 rfl | exact rfl | (refine wk_agg ?_) | (refine wk_cons ?_ ?_))); done) | fail⟩, by (repeat' (first | exact trivial | refine And.intro ?_ ?_)) <;> first | exact ren_eq (by first | (simp; done) | fail) (by first | rfl | fail) | exact ren_app2 (by first | (simp; done) | fail) (by first | rfl | fail) (by first | rfl | fail) | ((repeat' (first | exact wk_nil | (refine wk_cons ?_ ?_))) <;> first | exact wk_sl rfl (by first | omega) (by first | rfl | fail)), by first | simp [plainHf, plainB], by first | rfl | fail, ?_⟩
      conv => whnf
      have hYl : Y.length = b.length - 16 * (q / 16) := by rw [hY, List.length_drop, hXl]
      repeat (first | (refine Exists.intro _ (And.intro (bytesOf_cut rfl) ?_); conv => whnf) | (refine brT rfl ?_; conv => whnf) | (refine Exists.intro _ (And.intro (idx_i (m := 16 * (q / 16)) (by first | rfl | omega | fail)) ?_); conv => whnf) | (refine Exists.intro _ (And.intro rfl ?_); conv => whnf) | (refine And.intro (by first | omega | (simp; omega) | fail) ?_; conv => whnf) | (refine And.intro (by kernel_rfl) ?_; conv => whnf) | fail)
      refine ⟨[0, 1], ?_, rfl, rfl, ?_, rfl⟩
      · (repeat' (fail)) <;> first | exact wk_b (by first | exact hcmp.symm | fail) | fail
      · (repeat' (first | exact trivial | refine And.intro ?_ ?_ | fail)) <;> first | exact ren_eq (by first | (simp; done) | fail) (by first | rfl | fail) | fail
theorem f12 (key c b : List UInt8) (cut : Int) (hc : c.length = 16) :
    SCall Try.prog 12 [.sl 0 0 key.length 1 false, .agg (c.map .u8), .sl 1 0 b.length 1 false, .i cut] [some (.ro (key.map .u8)), some (.ro (b.map .u8))] (.b true) [some (.ro (key.map .u8)), some (.ro (b.map .u8))] := by
  by_cases h1 : key.length = 16 ∨ key.length = 32
  · by_cases hx : b.length > 2000 ∨ cut < 0 ∨ cut > (b.length : Int)
    · rcases h1 with h1 | h1
      · have := f12x_4 key c b cut hx; rw [← h1] at this; exact this
      · have := f12x_8 key c b cut hx; rw [← h1] at this; exact this
    · obtain ⟨q, rfl⟩ := Int.eq_ofNat_of_zero_le (show 0 ≤ cut by omega)
      rcases h1 with h1 | h1
      · have := f12m_4 key c b q h1 hc (by omega) (by omega); rw [← h1] at this; exact this
      · have := f12m_8 key c b q h1 hc (by omega) (by omega); rw [← h1] at this; exact this
  · exact f12k key c b cut (by omega) (by omega)
end Go.Sh
