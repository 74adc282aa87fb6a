/- Merged for a claim: M17, M18, Sh18, Sh20. -/
import Derived.Test.YtannakicfkjhbaaRows
import Derived.ProofKit
import Derived.OpenShut
import Derived.JoinedCond
import Derived.Carry
import Derived.Test.YtannakicfkjhbaaMf5
/- mac's laws: MacFirst (f11), its case, walked. -/
namespace Go.Sh
open Go.Proofs
set_option maxHeartbeats 4000000
set_option linter.unusedSimpArgs false
set_option linter.unusedVariables false

theorem mcut {D b : List UInt8} {o n : Nat} (h : (D.drop o).take n = b) : ((D.map SV.u8).drop o).take n = b.map SV.u8 := by rw [← h, List.map_take, List.map_drop]
attribute [local irreducible] mac_n mac_w exO_n exO_w exp_n exp_w sum_n sum_w
theorem f11_n (s i k : List UInt8) (n m : Nat) (h1 : s.length ≤ 400) (h2 : i.length ≤ 400) (h3 : k.length ≤ 400) (h4 : 1 ≤ n) (h5 : n ≤ m) (h6 : m ≤ 300) : SCall Try.prog 11 [.b false, .sl 0 0 s.length 1 false, .sl 1 0 i.length 1 false, .sl 2 0 k.length 1 false, .i (n : Int), .i (m : Int)] [some (.ro (s.map .u8)), some (.ro (i.map .u8)), some (.ro (k.map .u8))] (.b true) [some (.ro (s.map .u8)), some (.ro (i.map .u8)), some (.ro (k.map .u8))] := by
  have e1 : decide ((s.length : Int) > 400) = false := by simp; omega
  have e2 : decide ((i.length : Int) > 400) = false := by simp; omega
  have e3 : decide ((k.length : Int) > 400) = false := by simp; omega
  have e4 : decide ((n : Int) < 1) = false := by simp; omega
  have e5 : decide ((m : Int) < (n : Int)) = false := by simp; omega
  have e6 : decide ((m : Int) > 300) = false := by simp; omega
  have q1 := f51_n s i (by omega) (by omega) n h4 (by omega) false false
  have q2 := f51_n s i (by omega) (by omega) m (by omega) (by omega) false false
  have p0 : (exp_n s i n).length = n := exp_len_n s i n
  have hA : ((exO_n s i ((n + (32 - 1)) / 32)).drop 0).take n = exp_n s i n := by unfold exp_n; rfl
  have hB : ((exO_n s i ((m + (32 - 1)) / 32)).drop 0).take n = exp_n s i n := by
    rw [← exp_pre_n s i h5]; unfold exp_n
    rw [List.take_take, Nat.min_eq_left h5]; rfl
  have q3 := fun (f g : Bool) => ((f53 (exp_n s i n) (exp_n s i n) (by omega) (by omega) f g).sub 0 0 ((exO_n s i ((n + (32 - 1)) / 32)).map .u8) ((exp_n s i n).map .u8) 3 rfl rfl (by rw [List.length_map]; exact mcut (by rw [p0]; exact hA)) (plainL_u8 _) (plainL_u8 _) (by decide) ⟨.inl rfl, .inr ⟨rfl, rfl⟩, trivial⟩ rfl ⟨.inl rfl, .inr (.inl (by simp [plainB])), trivial⟩ ⟨.inl rfl, .inr (.inl (by simp [plainB])), trivial⟩).sub 1 0 ((exO_n s i ((m + (32 - 1)) / 32)).map .u8) ((exp_n s i n).map .u8) 3 rfl rfl (by rw [List.length_map]; exact mcut (by rw [p0]; exact hB)) (plainL_u8 _) (plainL_u8 _) (by decide) ⟨.inr ⟨rfl, rfl⟩, .inl rfl, trivial⟩ rfl ⟨.inr (.inl (by simp [plainB])), .inl rfl, trivial⟩ ⟨.inr (.inl (by simp [plainB])), .inl rfl, trivial⟩
  rw [p0, show decide (exp_n s i n = exp_n s i n) = true from by simp] at q3
  obtain ⟨XA, hXA⟩ : ∃ X, X = exO_n s i ((n + (32 - 1)) / 32) := ⟨_, rfl⟩
  obtain ⟨XB, hXB⟩ : ∃ X, X = exO_n s i ((m + (32 - 1)) / 32) := ⟨_, rfl⟩
  have lA : XA.length = 32 * ((n + (32 - 1)) / 32) := by rw [hXA]; exact exO_len_n s i _
  have lB : XB.length = 32 * ((m + (32 - 1)) / 32) := by rw [hXB]; exact exO_len_n s i _
  have lB2 : n ≤ XB.length := by omega
  rw [← hXA] at q1 q3
  rw [← hXB] at q2 q3
  clear hXA hXB hA hB p0
  have t1 : ((n : Int) != (n : Int)) = false := by simp
  have t2 : ((m : Int) != (m : Int)) = false := by simp
  refine scall_of ttOk (by kernel_rfl : Try.prog.funcs[11]? = some Try.f11) rfl rfl rfl ?_
  try simp only [List.length_cons, List.length_nil, Nat.zero_add, Nat.reduceAdd]
  refine sw_ok ttOk mixed (by kernel_rfl) ?_
  conv => whnf
  repeat (fail)
  refine ok1_callF [] [] true (f45) rfl rfl ⟨⟨rfl, by first | rfl | fail⟩, trivial, by first | rfl | fail, by first | rfl | fail, ?_⟩
  conv => whnf
  repeat (first | (refine brF rfl ?_; conv => whnf) | (refine gdT e1 ?_; conv => whnf) | (refine pkF e1 ?_; conv => whnf) | (refine gdT e2 ?_; conv => whnf) | (refine pkF e2 ?_; conv => whnf) | (refine gdT e3 ?_; conv => whnf) | (refine pkF e3 ?_; conv => whnf) | (refine gdT e4 ?_; conv => whnf) | (refine pkF e4 ?_; conv => whnf) | (refine gdT e5 ?_; conv => whnf) | (refine pkF e5 ?_; conv => whnf) | (refine gdF e6 ?_; conv => whnf) | fail)
  refine ok1_callF [0, 1] [false, false, true] false (q1) rfl rfl ⟨⟨rfl, by first | rfl | fail⟩, by (repeat' (first | exact trivial | refine And.intro ?_ ?_)) <;> first | exact ren_eq (by first | (simp; done) | fail) (by first | rfl | fail) | fail, by first | simp [plainHf, plainB], by first | rfl | fail, ?_⟩
  conv => whnf
  repeat (fail)
  refine ok1_callF [0, 1] [false, false, true] false (q2) rfl rfl ⟨⟨rfl, by first | rfl | fail⟩, by (repeat' (first | exact trivial | refine And.intro ?_ ?_)) <;> first | exact ren_eq (by first | (simp; done) | fail) (by first | rfl | fail) | fail, by first | simp [plainHf, plainB], by first | rfl | fail, ?_⟩
  conv => whnf
  repeat (first | (refine gdT rfl ?_; conv => whnf) | (refine gdT t1 ?_; conv => whnf) | (refine pkF t1 ?_; conv => whnf) | (refine gdT t2 ?_; conv => whnf) | (refine Exists.intro _ (And.intro rfl ?_); conv => whnf) | (refine And.intro (by first | omega | fail) ?_; conv => whnf) | fail)
  refine ok1_callF [3, 4] [false, false] true (q3 _ _) rfl rfl ⟨⟨rfl, by first | rfl | fail⟩, by (repeat' (first | exact trivial | refine And.intro ?_ ?_)) <;> first | exact ren_eq (by first | (simp; done) | fail) (by first | rfl | fail) | fail, by first | rfl | fail, by first | rfl | fail, ?_⟩
  conv => whnf
  repeat (first | (refine brF rfl ?_; conv => whnf) | (refine gdT (by first | (simp; done) | fail) ?_; conv => whnf) | (refine pkF (by first | (simp; done) | fail) ?_; conv => whnf) | fail)
  by_cases c1 : 64 < k.length
  · have g1 : decide ((k.length : Int) > 64) = true := by simp; omega
    have l1 := sum_len_n k
    have l2 := sum_len_w k
    have r1 := f54_b k (by omega) false true
    have r2 := f55_b k (by omega) false true
    have r3 := f49_n_b k (by omega) i (by omega) false false true
    have r4 := f49_n_b (sum_n k) (by rw [sum_len_n]; decide) i (by omega) true false true
    rw [sum_len_n, mac_long_n c1] at r4
    have l3 := mac_len_n k i
    have r5 := f53 (mac_n k i) (mac_n k i) (by omega) (by omega) true true
    rw [l3, show decide (mac_n k i = mac_n k i) = true from by simp] at r5
    obtain ⟨X1, hX1⟩ : ∃ X, X = sum_n k := ⟨_, rfl⟩
    obtain ⟨X2, hX2⟩ : ∃ X, X = sum_w k := ⟨_, rfl⟩
    obtain ⟨X3, hX3⟩ : ∃ X, X = mac_n k i := ⟨_, rfl⟩
    rw [← hX1] at r1 l1
    rw [← hX2] at r2 l2
    rw [← hX3] at r3 r4 r5 l3
    try rw [← hX1] at r4
    try rw [← hX2] at r4
    clear hX1 hX2 hX3
    first | refine brT (by exact g1) ?_ | fail
    conv => whnf
    repeat (first | (refine Exists.intro _ (And.intro rfl ?_); conv => whnf) | fail)
    refine ok1_callF [5, 2] [false, false] true (r1) rfl rfl ⟨⟨rfl, by first | rfl | fail⟩, by (repeat' (first | exact trivial | refine And.intro ?_ ?_)) <;> first | rfl | exact ren_eq (by first | (simp; done) | fail) (by first | rfl | fail) | fail, by first | rfl | fail, by first | simp [plainRf, plainR, plainT, plainW], ?_⟩
    conv => whnf
    repeat (first | (refine Exists.intro _ (And.intro rfl ?_); conv => whnf) | fail)
    refine ok1_callF [6, 2] [false, false] true (r2) rfl rfl ⟨⟨rfl, by first | rfl | fail⟩, by (repeat' (first | exact trivial | refine And.intro ?_ ?_)) <;> first | rfl | exact ren_eq (by first | (simp; done) | fail) (by first | rfl | fail) | fail, by first | rfl | fail, by first | simp [plainRf, plainR, plainT, plainW], ?_⟩
    conv => whnf
    repeat (first | (refine brF rfl ?_; conv => whnf) | (refine Exists.intro _ (And.intro (sput_all rfl (by first | rfl | (simp [l1, l2]; done) | fail)) ?_); conv => whnf) | (refine Exists.intro _ (And.intro rfl ?_); conv => whnf) | (refine And.intro (by first | omega | (simp; omega) | fail) ?_; conv => whnf) | fail)
    refine ok1_callF [2, 9, 1] [false, false, false, true] false (r3) rfl rfl ⟨⟨rfl, by first | rfl | fail⟩, by (repeat' (first | exact trivial | refine And.intro ?_ ?_)) <;> first | rfl | exact ren_eq (by first | (simp; done) | fail) (by first | rfl | fail) | fail, by first | simp [plainHf, plainB], by first | rfl | fail, ?_⟩
    conv => whnf
    repeat (first | (refine Exists.intro _ (And.intro rfl ?_); conv => whnf) | fail)
    refine ok1_callF [7, 11, 1] [false, false, false, true] false (r4) rfl rfl ⟨⟨rfl, by first | rfl | fail⟩, by (repeat' (first | exact trivial | refine And.intro ?_ ?_)) <;> first | rfl | exact ren_eq (by first | (simp; done) | fail) (by first | rfl | fail) | fail, by first | simp [plainHf, plainB], by first | rfl | fail, ?_⟩
    conv => whnf
    repeat (fail)
    refine ok1_callF [10, 12] [false, false] true (r5) rfl rfl ⟨⟨rfl, by first | rfl | fail⟩, by (repeat' (first | exact trivial | refine And.intro ?_ ?_)) <;> first | exact ren_eq (by first | (simp; done) | fail) (by first | rfl | fail) | fail, by first | rfl | fail, by first | rfl | fail, ?_⟩
    conv => whnf
    repeat (fail)
    refine ⟨[0, 1, 2], ?_, rfl, rfl, ?_, rfl⟩
    · (repeat' (fail)) <;> first | rfl | fail
    · (repeat' (first | exact trivial | refine And.intro ?_ ?_ | fail)) <;> first | exact ren_eq (by first | (simp; done) | fail) (by first | rfl | fail) | fail
  · have g1 : decide ((k.length : Int) > 64) = false := by simp; omega
    by_cases c2 : k.length = 64
    · have g2 : ((k.length : Int) == 64) = true := by rw [c2]; rfl
      first | refine brF (by exact g1) ?_ | fail
      conv => whnf
      repeat (fail)
      first | refine brT (by exact g2) ?_ | fail
      conv => whnf
      repeat (fail)
      refine ⟨[0, 1, 2], ?_, rfl, rfl, ?_, rfl⟩
      · (repeat' (fail)) <;> first | rfl | fail
      · (repeat' (first | exact trivial | refine And.intro ?_ ?_ | fail)) <;> first | exact ren_eq (by first | (simp; done) | fail) (by first | rfl | fail) | fail
    · have g2 : ((k.length : Int) == 64) = false := by simp; omega
      have hks : (k ++ [0]).length = k.length + 1 := by simp
      have hz0 : 0 + k.length = k.length := Nat.zero_add _
      have hbk : List.take ((0 + k.length) * ti5.sz) (List.drop 0 (List.take (0 * ti5.sz) (List.drop 0 (reps 0 (SV.u8 0).cells)) ++ List.take (k.length * ti5.sz) (List.drop 0 (SB.ro (List.map SV.u8 k)).cells))) ++ List.take (1 * ti5.sz) (List.drop 0 (SB.row 5 (sput (reps 1 (SV.u8 0).cells) (0 * ti5.sz) (SV.u8 (UInt8.ofNat (Int.toNat 0))))).cells) = (k ++ [0]).map SV.u8 := by
        show List.take ((0 + k.length) * 1) (([] : List SV) ++ List.take (k.length * 1) (k.map SV.u8)) ++ [SV.u8 0] = _
        simp
      have r3 := f49_n_b k (by omega) i (by omega) false false true
      have r4 := f49_n_b (k ++ [0]) (by omega) i (by omega) false false true
      rw [hks, mac_short_n (by omega)] at r4
      have l3 := mac_len_n k i
      have r5 := f53 (mac_n k i) (mac_n k i) (by omega) (by omega) true true
      rw [l3, show decide (mac_n k i = mac_n k i) = true from by simp] at r5
      obtain ⟨X3, hX3⟩ : ∃ X, X = mac_n k i := ⟨_, rfl⟩
      rw [← hX3] at r3 r4 r5 l3
      clear hX3
      first | refine brF (by exact g1) ?_ | fail
      conv => whnf
      repeat (first | (refine And.intro (by first | omega | (simp; omega) | fail) ?_; conv => whnf) | fail)
      first | intro _
      conv => whnf
      repeat (first | (refine Exists.intro _ (And.intro rfl ?_); conv => whnf) | fail)
      refine ok1_callF [2, 5, 1] [false, false, false, true] false (r3) rfl rfl ⟨⟨rfl, by first | rfl | fail⟩, by (repeat' (first | exact trivial | refine And.intro ?_ ?_)) <;> first | rfl | exact ren_eq (by first | (simp; done) | fail) (by first | rfl | fail) | fail, by first | simp [plainHf, plainB], by first | rfl | fail, ?_⟩
      conv => whnf
      repeat (first | (refine Exists.intro _ (And.intro rfl ?_); conv => whnf) | (refine And.intro (by first | omega | (simp [ti5]; omega)) ?_; conv => whnf) | fail)
      rw [hbk, hz0]
      refine ok1_callF [10, 11, 1] [false, false, false, true] false (r4) rfl rfl ⟨⟨rfl, by first | rfl | fail⟩, by (repeat' (first | exact trivial | refine And.intro ?_ ?_)) <;> first | rfl | exact ren_eq (by first | (simp; done) | fail) (by first | rfl | fail) | fail, by first | simp [plainHf, plainB], by first | rfl | fail, ?_⟩
      conv => whnf
      repeat (fail)
      refine ok1_callF [6, 12] [false, false] true (r5) rfl rfl ⟨⟨rfl, by first | rfl | fail⟩, by (repeat' (first | exact trivial | refine And.intro ?_ ?_)) <;> first | exact ren_eq (by first | (simp; done) | fail) (by first | rfl | fail) | fail, by first | rfl | fail, by first | rfl | fail, ?_⟩
      conv => whnf
      repeat (fail)
      refine ⟨[0, 1, 2], ?_, rfl, rfl, ?_, rfl⟩
      · (repeat' (fail)) <;> first | rfl | fail
      · (repeat' (first | exact trivial | refine And.intro ?_ ?_ | fail)) <;> first | exact ren_eq (by first | (simp; done) | fail) (by first | rfl | fail) | fail
theorem f11_w (s i k : List UInt8) (n m : Nat) (h1 : s.length ≤ 400) (h2 : i.length ≤ 400) (h3 : k.length ≤ 400) (h4 : 1 ≤ n) (h5 : n ≤ m) (h6 : m ≤ 300) : SCall Try.prog 11 [.b true, .sl 0 0 s.length 1 false, .sl 1 0 i.length 1 false, .sl 2 0 k.length 1 false, .i (n : Int), .i (m : Int)] [some (.ro (s.map .u8)), some (.ro (i.map .u8)), some (.ro (k.map .u8))] (.b true) [some (.ro (s.map .u8)), some (.ro (i.map .u8)), some (.ro (k.map .u8))] := by
  have e1 : decide ((s.length : Int) > 400) = false := by simp; omega
  have e2 : decide ((i.length : Int) > 400) = false := by simp; omega
  have e3 : decide ((k.length : Int) > 400) = false := by simp; omega
  have e4 : decide ((n : Int) < 1) = false := by simp; omega
  have e5 : decide ((m : Int) < (n : Int)) = false := by simp; omega
  have e6 : decide ((m : Int) > 300) = false := by simp; omega
  have q1 := f51_w s i (by omega) (by omega) n h4 (by omega) false false
  have q2 := f51_w s i (by omega) (by omega) m (by omega) (by omega) false false
  have p0 : (exp_w s i n).length = n := exp_len_w s i n
  have hA : ((exO_w s i ((n + (64 - 1)) / 64)).drop 0).take n = exp_w s i n := by unfold exp_w; rfl
  have hB : ((exO_w s i ((m + (64 - 1)) / 64)).drop 0).take n = exp_w s i n := by
    rw [← exp_pre_w s i h5]; unfold exp_w
    rw [List.take_take, Nat.min_eq_left h5]; rfl
  have q3 := fun (f g : Bool) => ((f53 (exp_w s i n) (exp_w s i n) (by omega) (by omega) f g).sub 0 0 ((exO_w s i ((n + (64 - 1)) / 64)).map .u8) ((exp_w s i n).map .u8) 3 rfl rfl (by rw [List.length_map]; exact mcut (by rw [p0]; exact hA)) (plainL_u8 _) (plainL_u8 _) (by decide) ⟨.inl rfl, .inr ⟨rfl, rfl⟩, trivial⟩ rfl ⟨.inl rfl, .inr (.inl (by simp [plainB])), trivial⟩ ⟨.inl rfl, .inr (.inl (by simp [plainB])), trivial⟩).sub 1 0 ((exO_w s i ((m + (64 - 1)) / 64)).map .u8) ((exp_w s i n).map .u8) 3 rfl rfl (by rw [List.length_map]; exact mcut (by rw [p0]; exact hB)) (plainL_u8 _) (plainL_u8 _) (by decide) ⟨.inr ⟨rfl, rfl⟩, .inl rfl, trivial⟩ rfl ⟨.inr (.inl (by simp [plainB])), .inl rfl, trivial⟩ ⟨.inr (.inl (by simp [plainB])), .inl rfl, trivial⟩
  rw [p0, show decide (exp_w s i n = exp_w s i n) = true from by simp] at q3
  obtain ⟨XA, hXA⟩ : ∃ X, X = exO_w s i ((n + (64 - 1)) / 64) := ⟨_, rfl⟩
  obtain ⟨XB, hXB⟩ : ∃ X, X = exO_w s i ((m + (64 - 1)) / 64) := ⟨_, rfl⟩
  have lA : XA.length = 64 * ((n + (64 - 1)) / 64) := by rw [hXA]; exact exO_len_w s i _
  have lB : XB.length = 64 * ((m + (64 - 1)) / 64) := by rw [hXB]; exact exO_len_w s i _
  have lB2 : n ≤ XB.length := by omega
  rw [← hXA] at q1 q3
  rw [← hXB] at q2 q3
  clear hXA hXB hA hB p0
  have t1 : ((n : Int) != (n : Int)) = false := by simp
  have t2 : ((m : Int) != (m : Int)) = false := by simp
  refine scall_of ttOk (by kernel_rfl : Try.prog.funcs[11]? = some Try.f11) rfl rfl rfl ?_
  try simp only [List.length_cons, List.length_nil, Nat.zero_add, Nat.reduceAdd]
  refine sw_ok ttOk mixed (by kernel_rfl) ?_
  conv => whnf
  repeat (fail)
  refine ok1_callF [] [] true (f45) rfl rfl ⟨⟨rfl, by first | rfl | fail⟩, trivial, by first | rfl | fail, by first | rfl | fail, ?_⟩
  conv => whnf
  repeat (first | (refine brT rfl ?_; conv => whnf) | (refine brF rfl ?_; conv => whnf) | (refine gdT e1 ?_; conv => whnf) | (refine pkF e1 ?_; conv => whnf) | (refine gdT e2 ?_; conv => whnf) | (refine pkF e2 ?_; conv => whnf) | (refine gdT e3 ?_; conv => whnf) | (refine pkF e3 ?_; conv => whnf) | (refine gdT e4 ?_; conv => whnf) | (refine pkF e4 ?_; conv => whnf) | (refine gdT e5 ?_; conv => whnf) | (refine pkF e5 ?_; conv => whnf) | (refine gdF e6 ?_; conv => whnf) | fail)
  refine ok1_callF [0, 1] [false, false, true] false (q1) rfl rfl ⟨⟨rfl, by first | rfl | fail⟩, by (repeat' (first | exact trivial | refine And.intro ?_ ?_)) <;> first | exact ren_eq (by first | (simp; done) | fail) (by first | rfl | fail) | fail, by first | simp [plainHf, plainB], by first | rfl | fail, ?_⟩
  conv => whnf
  repeat (fail)
  refine ok1_callF [0, 1] [false, false, true] false (q2) rfl rfl ⟨⟨rfl, by first | rfl | fail⟩, by (repeat' (first | exact trivial | refine And.intro ?_ ?_)) <;> first | exact ren_eq (by first | (simp; done) | fail) (by first | rfl | fail) | fail, by first | simp [plainHf, plainB], by first | rfl | fail, ?_⟩
  conv => whnf
  repeat (first | (refine gdT rfl ?_; conv => whnf) | (refine gdT t1 ?_; conv => whnf) | (refine pkF t1 ?_; conv => whnf) | (refine gdT t2 ?_; conv => whnf) | (refine Exists.intro _ (And.intro rfl ?_); conv => whnf) | (refine And.intro (by first | omega | fail) ?_; conv => whnf) | fail)
  refine ok1_callF [3, 4] [false, false] true (q3 _ _) rfl rfl ⟨⟨rfl, by first | rfl | fail⟩, by (repeat' (first | exact trivial | refine And.intro ?_ ?_)) <;> first | exact ren_eq (by first | (simp; done) | fail) (by first | rfl | fail) | fail, by first | rfl | fail, by first | rfl | fail, ?_⟩
  conv => whnf
  repeat (first | (refine brF rfl ?_; conv => whnf) | (refine gdT (by first | (simp; done) | fail) ?_; conv => whnf) | (refine pkF (by first | (simp; done) | fail) ?_; conv => whnf) | fail)
  by_cases c1 : 128 < k.length
  · have g1 : decide ((k.length : Int) > 128) = true := by simp; omega
    have l1 := sum_len_n k
    have l2 := sum_len_w k
    have r1 := f54_b k (by omega) false true
    have r2 := f55_b k (by omega) false true
    have r3 := f49_w_b k (by omega) i (by omega) false false true
    have r4 := f49_w_b (sum_w k) (by rw [sum_len_w]; decide) i (by omega) true false true
    rw [sum_len_w, mac_long_w c1] at r4
    have l3 := mac_len_w k i
    have r5 := f53 (mac_w k i) (mac_w k i) (by omega) (by omega) true true
    rw [l3, show decide (mac_w k i = mac_w k i) = true from by simp] at r5
    obtain ⟨X1, hX1⟩ : ∃ X, X = sum_n k := ⟨_, rfl⟩
    obtain ⟨X2, hX2⟩ : ∃ X, X = sum_w k := ⟨_, rfl⟩
    obtain ⟨X3, hX3⟩ : ∃ X, X = mac_w k i := ⟨_, rfl⟩
    rw [← hX1] at r1 l1
    rw [← hX2] at r2 l2
    rw [← hX3] at r3 r4 r5 l3
    try rw [← hX1] at r4
    try rw [← hX2] at r4
    clear hX1 hX2 hX3
    first | refine brT (by exact g1) ?_ | fail
    conv => whnf
    repeat (first | (refine Exists.intro _ (And.intro rfl ?_); conv => whnf) | fail)
    refine ok1_callF [5, 2] [false, false] true (r1) rfl rfl ⟨⟨rfl, by first | rfl | fail⟩, by (repeat' (first | exact trivial | refine And.intro ?_ ?_)) <;> first | rfl | exact ren_eq (by first | (simp; done) | fail) (by first | rfl | fail) | fail, by first | rfl | fail, by first | simp [plainRf, plainR, plainT, plainW], ?_⟩
    conv => whnf
    repeat (first | (refine Exists.intro _ (And.intro rfl ?_); conv => whnf) | fail)
    refine ok1_callF [6, 2] [false, false] true (r2) rfl rfl ⟨⟨rfl, by first | rfl | fail⟩, by (repeat' (first | exact trivial | refine And.intro ?_ ?_)) <;> first | rfl | exact ren_eq (by first | (simp; done) | fail) (by first | rfl | fail) | fail, by first | rfl | fail, by first | simp [plainRf, plainR, plainT, plainW], ?_⟩
    conv => whnf
    repeat (first | (refine brT rfl ?_; conv => whnf) | (refine Exists.intro _ (And.intro (sput_all rfl (by first | rfl | (simp [l1, l2]; done) | fail)) ?_); conv => whnf) | (refine Exists.intro _ (And.intro rfl ?_); conv => whnf) | (refine And.intro (by first | omega | (simp; omega) | fail) ?_; conv => whnf) | fail)
    refine ok1_callF [2, 9, 1] [false, false, false, true] false (r3) rfl rfl ⟨⟨rfl, by first | rfl | fail⟩, by (repeat' (first | exact trivial | refine And.intro ?_ ?_)) <;> first | rfl | exact ren_eq (by first | (simp; done) | fail) (by first | rfl | fail) | fail, by first | simp [plainHf, plainB], by first | rfl | fail, ?_⟩
    conv => whnf
    repeat (first | (refine Exists.intro _ (And.intro rfl ?_); conv => whnf) | fail)
    refine ok1_callF [8, 11, 1] [false, false, false, true] false (r4) rfl rfl ⟨⟨rfl, by first | rfl | fail⟩, by (repeat' (first | exact trivial | refine And.intro ?_ ?_)) <;> first | rfl | exact ren_eq (by first | (simp; done) | fail) (by first | rfl | fail) | fail, by first | simp [plainHf, plainB], by first | rfl | fail, ?_⟩
    conv => whnf
    repeat (fail)
    refine ok1_callF [10, 12] [false, false] true (r5) rfl rfl ⟨⟨rfl, by first | rfl | fail⟩, by (repeat' (first | exact trivial | refine And.intro ?_ ?_)) <;> first | exact ren_eq (by first | (simp; done) | fail) (by first | rfl | fail) | fail, by first | rfl | fail, by first | rfl | fail, ?_⟩
    conv => whnf
    repeat (fail)
    refine ⟨[0, 1, 2], ?_, rfl, rfl, ?_, rfl⟩
    · (repeat' (fail)) <;> first | rfl | fail
    · (repeat' (first | exact trivial | refine And.intro ?_ ?_ | fail)) <;> first | exact ren_eq (by first | (simp; done) | fail) (by first | rfl | fail) | fail
  · have g1 : decide ((k.length : Int) > 128) = false := by simp; omega
    by_cases c2 : k.length = 128
    · have g2 : ((k.length : Int) == 128) = true := by rw [c2]; rfl
      first | refine brF (by exact g1) ?_ | fail
      conv => whnf
      repeat (fail)
      first | refine brT (by exact g2) ?_ | fail
      conv => whnf
      repeat (fail)
      refine ⟨[0, 1, 2], ?_, rfl, rfl, ?_, rfl⟩
      · (repeat' (fail)) <;> first | rfl | fail
      · (repeat' (first | exact trivial | refine And.intro ?_ ?_ | fail)) <;> first | exact ren_eq (by first | (simp; done) | fail) (by first | rfl | fail) | fail
    · have g2 : ((k.length : Int) == 128) = false := by simp; omega
      have hks : (k ++ [0]).length = k.length + 1 := by simp
      have hz0 : 0 + k.length = k.length := Nat.zero_add _
      have hbk : List.take ((0 + k.length) * ti5.sz) (List.drop 0 (List.take (0 * ti5.sz) (List.drop 0 (reps 0 (SV.u8 0).cells)) ++ List.take (k.length * ti5.sz) (List.drop 0 (SB.ro (List.map SV.u8 k)).cells))) ++ List.take (1 * ti5.sz) (List.drop 0 (SB.row 5 (sput (reps 1 (SV.u8 0).cells) (0 * ti5.sz) (SV.u8 (UInt8.ofNat (Int.toNat 0))))).cells) = (k ++ [0]).map SV.u8 := by
        show List.take ((0 + k.length) * 1) (([] : List SV) ++ List.take (k.length * 1) (k.map SV.u8)) ++ [SV.u8 0] = _
        simp
      have r3 := f49_w_b k (by omega) i (by omega) false false true
      have r4 := f49_w_b (k ++ [0]) (by omega) i (by omega) false false true
      rw [hks, mac_short_w (by omega)] at r4
      have l3 := mac_len_w k i
      have r5 := f53 (mac_w k i) (mac_w k i) (by omega) (by omega) true true
      rw [l3, show decide (mac_w k i = mac_w k i) = true from by simp] at r5
      obtain ⟨X3, hX3⟩ : ∃ X, X = mac_w k i := ⟨_, rfl⟩
      rw [← hX3] at r3 r4 r5 l3
      clear hX3
      first | refine brF (by exact g1) ?_ | fail
      conv => whnf
      repeat (first | (refine And.intro (by first | omega | (simp; omega) | fail) ?_; conv => whnf) | fail)
      first | intro _
      conv => whnf
      repeat (first | (refine Exists.intro _ (And.intro rfl ?_); conv => whnf) | fail)
      refine ok1_callF [2, 5, 1] [false, false, false, true] false (r3) rfl rfl ⟨⟨rfl, by first | rfl | fail⟩, by (repeat' (first | exact trivial | refine And.intro ?_ ?_)) <;> first | rfl | exact ren_eq (by first | (simp; done) | fail) (by first | rfl | fail) | fail, by first | simp [plainHf, plainB], by first | rfl | fail, ?_⟩
      conv => whnf
      repeat (first | (refine Exists.intro _ (And.intro rfl ?_); conv => whnf) | (refine And.intro (by first | omega | (simp [ti5]; omega)) ?_; conv => whnf) | fail)
      rw [hbk, hz0]
      refine ok1_callF [10, 11, 1] [false, false, false, true] false (r4) rfl rfl ⟨⟨rfl, by first | rfl | fail⟩, by (repeat' (first | exact trivial | refine And.intro ?_ ?_)) <;> first | rfl | exact ren_eq (by first | (simp; done) | fail) (by first | rfl | fail) | fail, by first | simp [plainHf, plainB], by first | rfl | fail, ?_⟩
      conv => whnf
      repeat (fail)
      refine ok1_callF [6, 12] [false, false] true (r5) rfl rfl ⟨⟨rfl, by first | rfl | fail⟩, by (repeat' (first | exact trivial | refine And.intro ?_ ?_)) <;> first | exact ren_eq (by first | (simp; done) | fail) (by first | rfl | fail) | fail, by first | rfl | fail, by first | rfl | fail, ?_⟩
      conv => whnf
      repeat (fail)
      refine ⟨[0, 1, 2], ?_, rfl, rfl, ?_, rfl⟩
      · (repeat' (fail)) <;> first | rfl | fail
      · (repeat' (first | exact trivial | refine And.intro ?_ ?_ | fail)) <;> first | exact ren_eq (by first | (simp; done) | fail) (by first | rfl | fail) | fail
end Go.Sh
/- mac's laws: MacFirst (f11), in all cases. -/
namespace Go.Sh
open Go.Proofs
theorem f11 (wide : Bool) (s i k : List UInt8) (n m : Int) : SCall Try.prog 11 [.b wide, .sl 0 0 s.length 1 false, .sl 1 0 i.length 1 false, .sl 2 0 k.length 1 false, .i n, .i m] [some (.ro (s.map .u8)), some (.ro (i.map .u8)), some (.ro (k.map .u8))] (.b true) [some (.ro (s.map .u8)), some (.ro (i.map .u8)), some (.ro (k.map .u8))] := by
  by_cases hx : 400 < s.length ∨ 400 < i.length ∨ 400 < k.length ∨ n < 1 ∨ m < n ∨ 300 < m
  · exact f11x wide s i k n m hx
  · obtain ⟨a, rfl⟩ := Int.eq_ofNat_of_zero_le (show 0 ≤ n by omega)
    obtain ⟨b, rfl⟩ := Int.eq_ofNat_of_zero_le (show 0 ≤ m by omega)
    cases wide
    · exact f11_n s i k a b (by omega) (by omega) (by omega) (by omega) (by omega) (by omega)
    · exact f11_w s i k a b (by omega) (by omega) (by omega) (by omega) (by omega) (by omega)
end Go.Sh
/- From a function's promise to a law's statement: 'it returns true; what it was handed reads as it did'. -/
namespace Go.Sh
open Go.ChangeShapes Go.WideShapes Go.ChangeAt Go.RowKit
set_option linter.unusedSimpArgs false

theorem Rels.of_get {ρ : Ren} : ∀ {xs : List SV} {vs : List Value}, xs.length = vs.length → (∀ (i : Nat) x, xs[i]? = some x → ∃ v, vs[i]? = some v ∧ Rel ρ x v) → Rels ρ xs vs
  | [], vs, hl, _ => by
    have : vs = [] := List.eq_nil_of_length_eq_zero (by simpa using hl.symm)
    subst this; exact Rels.nil_iff.2 rfl
  | x :: xs, [], hl, _ => by simp at hl
  | x :: xs, v :: vs, hl, h => by
    obtain ⟨u, hu, hr⟩ := h 0 x rfl
    simp at hu; subst hu
    exact Rels.cons hr (Rels.of_get (by simpa using hl) (fun i y hy => by simpa using h (i + 1) y (by simpa using hy)))

theorem calls_of_scall {P : Program} {f : Nat} {args : List SV} {H0 H1 : HL} (hc : SCall P f args H0 (.b true) H1) (hro : ∀ (id : Nat) b, hg H0 id = some b → b.own = false) {vs : List Value} {W : World} {ρ : Ren}
    (hvs : Rels ρ args vs) (hh : HRel ρ (hg H0) W) (hfr : ∀ id, H0.length ≤ id → ρ id = none) : Calls P f ⟨vs⟩ W fun e w' => e = .returned (.bool true) ∧ RowKit.Below W.heap.size W w' := by
  have h := hc.call 0 ρ W vs hvs hh (fun i j bi bj ri rj _ hi _ _ _ hown => by rw [hro i bi hi] at hown; cases hown) hfr
  refine (callsIn_wide.1 h).mono ?_
  intro e w' hr
  cases e with
  | returned v =>
    obtain ⟨ρ', h1, _, _, _, h5⟩ := hr
    simp only [Rel] at h1
    refine ⟨by rw [h1], h5.fr.below (fun x o _ hown => ?_)⟩
    obtain ⟨id, b, rb, g1, _, g3, _⟩ := hown
    rw [hro id b g1] at g3; cases g3
  | _ => exact hr.elim

theorem trodAll_stays {H : Type} {enc : TypeId × Value → H} {P : Program} (hl : laidOutB P = true) {W W' : World} (hb : RowKit.Below W.heap.size W W') : ∀ {ts : List TypeId} {vs : List Value} {ds : List (DataW H)} {ps : List MemPlace},
    (∀ t ∈ ts, P.readableRec t = true ∧ t < P.types.size) → DataW.TrodAll enc P W 0 (fun _ => true) true ts vs ds ps → (∀ x ∈ ps, x.block < W.heap.size) → ∀ sp : Nat → Bool, (∀ x ∈ ps, sp x.block = true) →
    DataW.TrodAll enc P W' 0 sp true ts vs ds ps
  | [], vs, ds, ps, _, h, _, sp, _ => by
    obtain ⟨rfl, rfl, rfl⟩ := trodAll_nil h
    exact trodAll_mk0
  | t :: ts, vs, ds, ps, ht, h, hlt, sp, hsp => by
    obtain ⟨v, vs', d, ds', p, q, rfl, rfl, rfl, h1, h2⟩ := trodAll_cons h
    obtain ⟨r1, r2⟩ := ht t (List.mem_cons_self ..)
    exact trodAll_cons_mk (WideElems.Trod_stays hl r1 r2 h1 (fun x hx => hb.same (hlt x (List.mem_append_left _ hx))) (fun x hx => hsp x (List.mem_append_left _ hx)))
      (trodAll_stays hl hb (fun u hu => ht u (List.mem_cons_of_mem _ hu)) h2 (fun x hx => hlt x (List.mem_append_right _ hx)) sp (fun x hx => hsp x (List.mem_append_right _ hx)))

/-- 'True, and what came in reads as it did.' -/
theorem same_post {H : Type} {enc : TypeId × Value → H} {P : Program} {fn : Func} {s : ChangeSpec} {W W' : World} {args : Array Value} {ds gs : List (DataW H)} {before : List MemPlace} {bt : TypeId} {apart fresh handsOn again : Bool}
    (hl : laidOutB P = true) (hparams : ∀ t ∈ fn.params.toList, P.readableRec t = true ∧ t < P.types.size) (hbt : P.underlying bt = some .bool) (hrt : fn.resultTypes = #[bt]) (hvars : s.vars = [])
    (hW : DataW.Whole enc P fn.params.toList s.vars apart W args.toList ds gs before) (hspec : s.fn H ds = { results := [.lit (.bool true)], args := ds }) (hb : RowKit.Below W.heap.size W W') :
    s.post enc P fn apart fresh handsOn again W args (.bool true) W' := by
  have hlt := hW.lt
  have hW' := hW
  obtain ⟨p, q, hA, hV, rfl, hfz, hnd⟩ := hW
  rw [hvars] at hV
  obtain ⟨rfl, rfl⟩ := trodVars_none hV
  have hargs : ∀ sp : Nat → Bool, (∀ x ∈ p, sp x.block = true) → DataW.TrodAll enc P W' 0 sp true fn.params.toList args.toList ds p := fun sp hsp =>
    trodAll_stays hl hb hparams hA (fun x hx => hlt x (by simpa using hx)) sp hsp
  have hres : ∀ (b : Nat) (sp : Nat → Bool) (hd : Bool), DataW.TrodAll enc P W' b sp hd fn.resultTypes.toList ((Value.bool true).resultList fn.resultTypes.size) [.lit (.bool true)] [] := fun b sp hd => by
    rw [hrt]
    exact trodAll_cons_mk (shut_bool hbt _) trodAll_mk0
  refine ⟨ds, [], p ++ [], [], p, [], hW', ?_, ?_, ?_, World.keptBut_mono (fun x hx => ⟨hx, ?_⟩) (hb.frame (fun x => x ∈ p ++ [])), fun _ => ?_⟩
  · rw [List.append_nil, hspec]; exact hres _ _ _
  · rw [List.append_nil, hspec]
    exact hargs _ (fun x hx => by simpa using hlt x (by simpa using hx))
  · rw [List.append_nil, hspec, hvars]
    rfl
  · exact .inr (.inl (by simpa using hx))
  · refine ⟨ok_one hrt rfl (okWide_bool_mk hbt _), _, [], ([] ++ p) ++ [], ⟨[] ++ p, [], trodAll_append (hargs _ (fun _ _ => rfl)) (hres _ _ _), by rw [hvars]; rfl, rfl, ?_, ?_⟩, ?_⟩
    · intro b off hp
      have hpl := hlt (.cell b off) (by simpa using hp)
      rw [hb.frozen (p := ⟨b, off, none⟩) hpl]
      exact hfz b off (by simpa using hp)
    · intro ha
      simpa using hnd ha
    · intro x hx _
      simpa using hx

/-! ### What comes in, opened -/

/-- A number of 64 bits. -/
theorem open_u64 {H : Type} {enc : TypeId × Value → H} {P : Program} {w : World} {base : Nat} {spare : Nat → Bool} {held : Bool} {r : Reach} {b0 : Nat} {t : TypeId} {v : Value} {d : DataW H} {ps : List MemPlace}
    (ht : P.underlying t = some (.int .u64)) (hval : Value.okWide P w r b0 t v) (hd : DataW.Trod enc P w base spare held t v d ps) : ∃ x : UInt64, ∀ ρ, Rel ρ (.u64 x) v := by
  obtain ⟨n, rfl, _, _, hw⟩ := open_int ht hval hd
  have hx : 0 ≤ n ∧ n < 18446744073709551616 := by
    simp only [Lit.wf, Bool.and_eq_true, decide_eq_true_eq, IntKind.min, IntKind.max, IntKind.signed, IntKind.bits] at hw
    have h2 := hw.2
    simp at h2 hw
    omega
  refine ⟨UInt64.ofNat n.toNat, fun ρ => ?_⟩
  simp only [Rel]
  congr 1
  simp only [UInt64.toNat_ofNat']
  omega

theorem atoms_u8 (l : List UInt8) : atoms (l.map .u8) = true := by induction l <;> simp_all [atoms, SV.atom]

theorem lits_length {H : Type} (k : IntKind) (zs : List Int) : (lits (H := H) k zs).length = zs.length := by simp [lits]

/-- A row of bytes. -/
theorem open_bytes {H : Type} {enc : TypeId × Value → H} {P : Program} {w : World} {base : Nat} {r : Reach} {b0 : Nat} {t e : TypeId} {v : Value} {d : DataW H} {ps : List MemPlace}
    (ht : P.underlying t = some (.slice e)) (he : P.underlying e = some (.int .u8)) (hc : P.cellsOf e = 1) (hval : Value.okWide P w r b0 t v) (hd : DataW.Trod enc P w base (fun _ => true) true t v d ps) :
    ∃ (bs : List UInt8) (rb : RB), (∀ ρ id, ρ id = some rb → Rel ρ (.sl id 0 bs.length 1 false) v) ∧ (∀ ρ, BRel ρ w rb (.ro (bs.map .u8))) ∧
      (bs = [] ∨ ∃ zs rest : List Int, d = .slice (lits .u8 zs) (lits .u8 rest) ∧ zs.length = bs.length) := by
  obtain ⟨a, len, cap, rfl⟩ := okWide_slice ht hval
  obtain ⟨fuel, hf⟩ := hd
  have hcs : (Value.slice a len cap).cells.toList = [.slice a len cap] := rfl
  rw [hcs] at hf
  rcases open_ints ht he hc hf with ⟨h1, h2⟩ | ⟨a', len', cap', zs, h1, _, hlc, _, hzl, h2, hcell, hwf⟩
  · cases h1
    refine ⟨[], ⟨0, 0, 0, true⟩, fun ρ id hr => ?_, fun ρ => .inl rfl, .inl rfl⟩
    simp only [Rel]
    exact ⟨_, none, 0, hr, rfl, Nat.le_refl _, fun h => (by cases h), .inl rfl⟩
  · cases h1
    simp only [if_true] at hzl
    have hb : ∀ z ∈ zs, 0 ≤ z ∧ z < 256 := by
      intro z hz
      have hw := hwf z hz
      simp only [Lit.wf, Bool.and_eq_true, decide_eq_true_eq, IntKind.min, IntKind.max, IntKind.signed, IntKind.bits] at hw
      have h2 := hw.2
      simp at h2 hw
      omega
    have hbl : ((zs.take len).map fun z => UInt8.ofNat z.toNat).length = len := by simp; omega
    refine ⟨(zs.take len).map fun z => UInt8.ofNat z.toNat, ⟨a'.block, a'.off, cap, false⟩, fun ρ id hr => ?_, fun ρ => ?_, .inr ⟨zs.take len, zs.drop len, ?_, by simp⟩⟩
    · rw [hbl]
      simp only [Rel]
      refine ⟨_, some a', cap, hr, rfl, hlc, fun h => (by cases h), ?_⟩
      by_cases h0 : cap = 0
      · exact .inl h0
      · right
        have := hcell 0 (by omega)
        have hsp : a'.spot = none := by
          unfold World.cell? at this
          split at this
          · split at this
            · cases this
            · rename_i hs
              have : (a'.add 0).spot = a'.spot := by unfold Addr.add; split <;> simp_all
              rw [this] at hs
              simpa using hs
          · cases this
        refine ⟨rfl, ?_, by simp⟩
        cases a'; simp at hsp; simp [hsp]
    · by_cases h0 : len = 0
      · left
        subst h0
        simp
      · right
        have key : ∀ i, i < zs.length → ∃ c t fz, w.heap[a'.block]? = some (.cells c t fz) ∧ c[a'.off + i]? = some (.int .u8 (zs.getD i 0)) := by
          intro i hi
          have h := hcell i hi
          unfold World.cell? at h
          have e1 : (a'.add i).block = a'.block := by unfold Addr.add; split <;> rfl
          rw [e1] at h
          split at h
          · rename_i c t fz hh
            split at h
            · cases h
            · rename_i hs
              have e2 : (a'.add i).off = a'.off + i := by
                unfold Addr.add at hs ⊢
                split
                · simp_all
                · rfl
              rw [e2] at h
              exact ⟨c, t, fz, hh, h⟩
          · cases h
        obtain ⟨c, t2, fz, hh, _⟩ := key 0 (by omega)
        have key2 : ∀ i, i < zs.length → c[a'.off + i]? = some (.int .u8 (zs.getD i 0)) := by
          intro i hi
          obtain ⟨c', t', fz', hh', hv⟩ := key i hi
          rw [hh] at hh'; cases hh'
          exact hv
        have hsz : a'.off + len ≤ c.size := by
          have := key2 (len - 1) (by omega)
          have := (Array.getElem?_eq_some_iff.1 this).1
          omega
        refine ⟨⟨c, t2, fz, hh, atoms_u8 _, ?_, fun h => (by cases h), by simp; omega⟩, by simp; omega, rfl⟩
        apply Rels.of_get
        · simp; omega
        · intro i x hx
          have hi : i < len := by have := (List.getElem?_eq_some_iff.1 hx).1; simp at this; omega
          have hzi : i < zs.length := by omega
          have hg : zs.getD i 0 = zs[i] := by simp [hzi]
          simp only [List.map_map, List.getElem?_map, List.getElem?_take_of_lt hi, List.getElem?_eq_getElem hzi, Option.map_some, Option.some.injEq, Function.comp] at hx
          subst hx
          refine ⟨.int .u8 (zs.getD i 0), ?_, ?_⟩
          · rw [List.length_map, hbl, List.getElem?_take_of_lt hi, List.getElem?_drop, Array.getElem?_toList]
            exact key2 i hzi
          · rw [hg]
            simp only [Rel]
            have := hb zs[i] (List.getElem_mem hzi)
            congr 1
            simp only [UInt8.toNat_ofNat']
            omega
    · have := congrArg Prod.fst h2
      exact this
end Go.Sh
/- What comes in, opened: numbers, truths, texts, arrays and structs of such; rows of such. -/
namespace Go.Sh
open Go.ChangeShapes Go.WideShapes Go.ChangeAt Go.RowKit
set_option linter.unusedSimpArgs false

section
variable {H : Type} {enc : TypeId × Value → H} {P : Program} {w : World} {base : Nat} {spare : Nat → Bool} {held : Bool}

/-- It can be read. -/
def Rd (enc : TypeId × Value → H) (P : Program) (w : World) (base : Nat) (spare : Nat → Bool) (held : Bool) (t : TypeId) (cs : List Value) : Prop := ∃ fuel x, DataW.trod enc P w base spare held fuel t cs = some x

theorem psz_cells {t : TypeId} {n : Nat} (h : psz P t = some n) : P.cellsOf t = n := by
  unfold psz at h; unfold Program.cellsOf; rw [h]; rfl

/-- Pieces of one size, one behind the other. -/
theorem chunks {ks : List Nat} {R : List Value → Prop} (hR : ∀ c, R c → ∃ xs : List SV, xs.map kd = ks.map some ∧ ∀ ρ, Rels ρ xs c) (cs : List Value) : ∀ n : Nat, n * ks.length ≤ cs.length →
    (∀ i, i < n → R ((cs.drop (i * ks.length)).take ks.length)) → ∃ xs : List SV, xs.map kd = (List.replicate n ks).flatten.map some ∧ ∀ ρ, Rels ρ xs (cs.take (n * ks.length))
  | 0, _, _ => ⟨[], by simp, fun ρ => by simp [Rels]⟩
  | n + 1, hl, h => by
    have hn : (n + 1) * ks.length = n * ks.length + ks.length := by rw [Nat.add_mul]; omega
    obtain ⟨xs, hx, hxr⟩ := chunks hR cs n (by omega) (fun i hi => h i (by omega))
    obtain ⟨ys, hy, hyr⟩ := hR _ (h n (by omega))
    refine ⟨xs ++ ys, ?_, fun ρ => ?_⟩
    · rw [List.map_append, hx, hy, List.replicate_succ', List.flatten_concat, List.map_append]
    · rw [hn, List.take_add]
      exact Rels.append (hxr ρ) (hyr ρ)

theorem int_kd {k : IntKind} {q : Nat} {n : Int} (hk : kdT (.int k) = some q) (hw : (Lit.int k n).wf = true) : ∃ x : SV, kd x = some q ∧ ∀ ρ, Rel ρ x (.int k n) := by
  cases k <;> simp only [kdT] at hk <;> (try (cases hk; done)) <;> simp only [Option.some.injEq] at hk <;> subst hk
  · exact ⟨.i n, rfl, fun ρ => by simp only [Rel]⟩
  all_goals
    simp only [Lit.wf, Bool.and_eq_true, decide_eq_true_eq, IntKind.min, IntKind.max, IntKind.signed, IntKind.bits] at hw
    have h2 := hw.2
    simp at h2 hw
  · exact ⟨.u8 (UInt8.ofNat n.toNat), rfl, fun ρ => by simp only [Rel, UInt8.toNat_ofNat']; congr 1; omega⟩
  · exact ⟨.u16 (UInt16.ofNat n.toNat), rfl, fun ρ => by simp only [Rel, UInt16.toNat_ofNat']; congr 1; omega⟩
  · exact ⟨.u32 (UInt32.ofNat n.toNat), rfl, fun ρ => by simp only [Rel, UInt32.toNat_ofNat']; congr 1; omega⟩
  · exact ⟨.u64 (UInt64.ofNat n.toNat), rfl, fun ρ => by simp only [Rel, UInt64.toNat_ofNat']; congr 1; omega⟩

theorem open_kinds_both : ∀ d : Nat,
    (∀ {t : TypeId} {ks : List Nat}, kinds P d t = some ks → ∀ {cs : List Value}, Rd enc P w base spare held t cs → ∃ xs : List SV, xs.map kd = ks.map some ∧ ∀ ρ, Rels ρ xs cs) ∧
    (∀ {off : Nat} {fs : List Field} {ks : List Nat}, kindsF P d off fs = some ks → ∀ {cs : List Value}, (∀ f ∈ fs, Rd enc P w base spare held f.type ((cs.drop f.offset).take (P.cellsOf f.type))) → off + ks.length ≤ cs.length →
      ∃ xs : List SV, xs.map kd = ks.map some ∧ ∀ ρ, Rels ρ xs ((cs.drop off).take ks.length))
  | 0 => by
    refine ⟨fun h => by simp [kinds] at h, fun {off fs ks} h => ?_⟩
    cases fs with
    | nil => simp [kindsF] at h; subst h; intro cs _ _; exact ⟨[], rfl, fun ρ => by simp [Rels]⟩
    | cons f fs => simp [kindsF] at h
  | d + 1 => by
    obtain ⟨ihA, ihB⟩ := open_kinds_both d
    refine ⟨fun {t ks} h {cs} hr => ?_, fun {off fs ks} h {cs} hr hl => ?_⟩
    · obtain ⟨fuel, x, hx⟩ := hr
      have hsz := kinds_size h
      simp only [kinds] at h
      split at h
      · rename_i fs hu
        split at h
        · cases h
        · obtain ⟨ks', h1, h2⟩ := Option.bind_eq_some_iff.1 h
          split at h2
          · cases h2
            obtain ⟨xs, n, rfl, rfl, hcl, hxl, hf⟩ := DataW.trod_struct hu hx
            have hcs : cs.length = ks.length := by rw [hcl, psz_cells hsz]
            obtain ⟨ys, hy, hyr⟩ := ihB h1 (cs := cs) (fun f hfm => by
              obtain ⟨i, hi, hfi⟩ := List.getElem_of_mem hfm
              have hi' : i < fs.size := by simpa using hi
              have hget : fs[i]? = some f := by rw [Array.getElem?_eq_getElem hi']; simpa using hfi
              have := hf i f hget
              rw [List.getElem?_eq_getElem (by omega : i < xs.length)] at this
              exact ⟨n, _, this⟩) (by omega)
            refine ⟨ys, hy, fun ρ => ?_⟩
            have := hyr ρ
            rwa [List.drop_zero, List.take_of_length_le (by omega)] at this
          · cases h2
      · rename_i n e hu
        obtain ⟨ks', h1, h2⟩ := Option.bind_eq_some_iff.1 h
        split at h2
        · rename_i hps
          cases h2
          obtain ⟨xs, m, rfl, rfl, hcl, hxl, hf⟩ := DataW.trod_array hu hx
          have hcs : cs.length = n * ks'.length := by rw [hcl, psz_cells hps]
          have he : P.cellsOf e = ks'.length := psz_cells (kinds_size h1)
          obtain ⟨ys, hy, hyr⟩ := chunks (R := fun c => Rd enc P w base spare held e c) (fun c hc => ihA h1 hc) cs n (by omega) (fun i hi => by
            have := hf i hi
            rw [he, List.getElem?_eq_getElem (by omega : i < xs.length)] at this
            exact ⟨m, _, this⟩)
          refine ⟨ys, hy, fun ρ => ?_⟩
          have := hyr ρ
          rwa [List.take_of_length_le (by omega)] at this
        · cases h2
      · rename_i ds hns hna hu
        obtain ⟨k, h1, h2⟩ := Option.bind_eq_some_iff.1 h
        split at h2
        · cases h2
          cases ds with
          | int kk =>
            obtain ⟨n, rfl, _, hw⟩ := DataW.trod_int hu hx
            obtain ⟨y, hy, hyr⟩ := int_kd h1 hw
            exact ⟨[y], by simp [hy], fun ρ => Rels.cons (hyr ρ) (Rels.nil_iff.2 rfl)⟩
          | bool =>
            obtain ⟨b, rfl, _⟩ := DataW.trod_bool hu hx
            simp only [kdT, Option.some.injEq] at h1; subst h1
            exact ⟨[.b b], rfl, fun ρ => Rels.cons (by simp only [Rel]) (Rels.nil_iff.2 rfl)⟩
          | string =>
            obtain ⟨s, rfl, _, _⟩ := DataW.trod_string hu hx
            simp only [kdT, Option.some.injEq] at h1; subst h1
            exact ⟨[.s s.data.toList], rfl, fun ρ => Rels.cons (by simp only [Rel]) (Rels.nil_iff.2 rfl)⟩
          | _ => simp [kdT] at h1
        · cases h2
      · cases h
    · cases fs with
      | nil => simp [kindsF] at h; subst h; exact ⟨[], rfl, fun ρ => by simp [Rels]⟩
      | cons f fs =>
        simp only [kindsF] at h
        split at h
        · rename_i hf
          obtain ⟨k1, h1, h2⟩ := Option.bind_eq_some_iff.1 h
          obtain ⟨k2, h3, h4⟩ := Option.map_eq_some_iff.1 h2
          subst h4
          have he : P.cellsOf f.type = k1.length := psz_cells (kinds_size h1)
          have hr1 := hr f (List.mem_cons_self ..)
          rw [hf.2, he] at hr1
          simp only [List.length_append] at hl
          obtain ⟨xs, hx, hxr⟩ := ihA h1 hr1
          obtain ⟨ys, hy, hyr⟩ := ihB h3 (cs := cs) (fun g hg => hr g (List.mem_cons_of_mem _ hg)) (by omega)
          refine ⟨xs ++ ys, by simp [hx, hy], fun ρ => ?_⟩
          rw [List.length_append, List.take_add, List.drop_drop]
          exact Rels.append (hxr ρ) (hyr ρ)
        · cases h

theorem open_kinds {d : Nat} {t : TypeId} {ks : List Nat} (h : kinds P d t = some ks) {cs : List Value} (hr : Rd enc P w base spare held t cs) : ∃ xs : List SV, xs.map kd = ks.map some ∧ ∀ ρ, Rels ρ xs cs :=
  (open_kinds_both d).1 h hr

/-! ### Kinds, told -/
theorem kd_0 {x : SV} (h : kd x = some 0) : ∃ n, x = .i n := by cases x <;> simp [kd] at h; exact ⟨_, rfl⟩
theorem kd_1 {x : SV} (h : kd x = some 1) : ∃ n, x = .u8 n := by cases x <;> simp [kd] at h; exact ⟨_, rfl⟩
theorem kd_2 {x : SV} (h : kd x = some 2) : ∃ n, x = .u16 n := by cases x <;> simp [kd] at h; exact ⟨_, rfl⟩
theorem kd_3 {x : SV} (h : kd x = some 3) : ∃ n, x = .u32 n := by cases x <;> simp [kd] at h; exact ⟨_, rfl⟩
theorem kd_4 {x : SV} (h : kd x = some 4) : ∃ n, x = .u64 n := by cases x <;> simp [kd] at h; exact ⟨_, rfl⟩
theorem kd_5 {x : SV} (h : kd x = some 5) : ∃ n, x = .b n := by cases x <;> simp [kd] at h; exact ⟨_, rfl⟩
theorem kd_nil {xs : List SV} (h : xs.map kd = ([] : List Nat).map some) : xs = [] := by simpa using h
theorem kd_cons {xs : List SV} {k : Nat} {ks : List Nat} (h : xs.map kd = (k :: ks).map some) : ∃ x ys, xs = x :: ys ∧ kd x = some k ∧ ys.map kd = ks.map some := by
  cases xs with
  | nil => simp at h
  | cons x ys => simp at h; exact ⟨x, ys, rfl, h.1, h.2⟩
theorem kd_append {xs : List SV} {k1 k2 : List Nat} (h : xs.map kd = (k1 ++ k2).map some) : ∃ ys zs, xs = ys ++ zs ∧ ys.map kd = k1.map some ∧ zs.map kd = k2.map some := by
  refine ⟨xs.take k1.length, xs.drop k1.length, (List.take_append_drop ..).symm, ?_, ?_⟩
  · rw [List.map_take, h, List.map_append, List.take_left' (by simp)]
  · rw [List.map_drop, h, List.map_append, List.drop_left' (by simp)]
theorem kd_rep {α : Type} {f : α → SV} {k : Nat} (hf : ∀ x, kd x = some k → ∃ a, x = f a) : ∀ {n : Nat} {xs : List SV}, xs.map kd = (List.replicate n k).map some → ∃ l : List α, xs = l.map f ∧ l.length = n
  | 0, xs, h => by
    have : xs = [] := kd_nil h
    subst this; exact ⟨[], rfl, rfl⟩
  | n + 1, xs, h => by
    rw [List.replicate_succ] at h
    obtain ⟨x, ys, rfl, hx, hy⟩ := kd_cons h
    obtain ⟨a, rfl⟩ := hf x hx
    obtain ⟨l, rfl, hl⟩ := kd_rep hf hy
    exact ⟨a :: l, rfl, by simp [hl]⟩
theorem kd_atoms : ∀ {xs : List SV} {ks : List Nat}, xs.map kd = ks.map some → atoms xs = true
  | [], _, _ => rfl
  | x :: xs, [], h => by simp at h
  | x :: xs, k :: ks, h => by
    simp only [List.map_cons, List.cons.injEq] at h
    simp only [atoms, List.all_cons, kd_atom h.1, Bool.true_and]
    exact kd_atoms h.2

/-- An aggregate of numbers. -/
theorem open_agg_k {r : Reach} {b0 d : Nat} {t : TypeId} {ks : List Nat} {v : Value} {y : DataW H} {ps : List MemPlace} (hk : kinds P d t = some ks) (ha : isRow P t = true) (hval : Value.okWide P w r b0 t v) (hd : DataW.Trod enc P w base spare held t v y ps) :
    ∃ xs : List SV, xs.map kd = ks.map some ∧ ∀ ρ, Rel ρ (.agg xs) v := by
  have : ∃ cs, v = .agg cs := by
    unfold Value.okWide at hval
    unfold isRow at ha
    cases hu : P.underlying t with
    | none => rw [hu] at ha; cases ha
    | some ds =>
      rw [hu] at ha hval
      cases ds <;> first | (simp at ha; done) | (obtain ⟨cs, h, _⟩ := hval; exact ⟨cs, h⟩)
  obtain ⟨cs, rfl⟩ := this
  obtain ⟨fuel, hf⟩ := hd
  obtain ⟨xs, hx, hxr⟩ := open_kinds hk (cs := cs.toList) ⟨fuel, _, hf⟩
  refine ⟨xs, hx, fun ρ => ?_⟩
  simp only [Rel]
  exact ⟨cs.toList, rfl, kd_atoms hx, hxr ρ⟩

/-- A number, a truth, a text. -/
theorem open_one_k {r : Reach} {b0 k : Nat} {t : TypeId} {ds : TypeDesc} {v : Value} {y : DataW H} {ps : List MemPlace} (hu : P.underlying t = some ds) (hk : kdT ds = some k) (hk6 : k ≠ 6) (hval : Value.okWide P w r b0 t v) (hd : DataW.Trod enc P w base spare held t v y ps) :
    ∃ x : SV, kd x = some k ∧ ∀ ρ, Rel ρ x v := by
  cases ds with
  | int kk =>
    obtain ⟨n, rfl, _, _, hw⟩ := open_int hu hval hd
    exact int_kd hk hw
  | bool =>
    obtain ⟨b, rfl, _⟩ := open_bool hu hval hd
    simp only [kdT, Option.some.injEq] at hk; subst hk
    exact ⟨.b b, rfl, fun ρ => by simp only [Rel]⟩
  | string => simp only [kdT, Option.some.injEq] at hk; exact absurd hk.symm hk6
  | _ => simp [kdT] at hk

/-! ### Rows -/
theorem cells_get {a : Addr} {n : Nat} {l : List Value} (h : w.cells? base a n = some l) : l.length = n ∧ ∀ i, i < n → w.cell? (a.add i) = l[i]? := by
  unfold World.cells? at h
  split at h
  · refine ⟨by simpa using mapM_some_length h, fun i hi => ?_⟩
    simpa using mapM_some_get h i i (by simp [hi])
  · cases h

theorem addr_add (a : Addr) (i : Nat) (h : a.spot = none) : a.add i = ⟨a.block, a.off + i, none⟩ := by
  cases a; simp only at h; subst h
  unfold Addr.add
  split
  · rename_i h0; subst h0; rfl
  · rfl
theorem addr_block (a : Addr) (i : Nat) : (a.add i).block = a.block := by unfold Addr.add; split <;> rfl
theorem addr_zero (a : Addr) : a.add 0 = a := by simp [Addr.add]

/-- A row that came in: nothing, or cells that can be read. -/
structure Row (enc : TypeId × Value → H) (P : Program) (w : World) (base : Nat) (spare : Nat → Bool) (held : Bool) (e : TypeId) (sz : Nat) (a : Addr) (len cap : Nat) (vs : List Value) : Prop where
  le : len ≤ cap
  most : cap ≤ maxLen
  spot : 0 < cap → a.spot = none
  len : vs.length = cap * sz
  cell : ∀ i, i < cap * sz → w.cell? ⟨a.block, a.off + i, none⟩ = vs[i]?
  read : ∀ i, i < cap → Rd enc P w base spare held e ((vs.drop (i * sz)).take sz)

theorem rows_of {α : Type} (f : Nat → Option (List α)) (sz : Nat) : ∀ n, (∀ i, i < n → ∃ l, f i = some l ∧ l.length = sz) → ∃ vs : List α, vs.length = n * sz ∧ ∀ i, i < n → f i = some ((vs.drop (i * sz)).take sz)
  | 0, _ => ⟨[], by simp, fun i hi => by omega⟩
  | n + 1, h => by
    obtain ⟨vs, h1, h2⟩ := rows_of f sz n (fun i hi => h i (by omega))
    obtain ⟨l, hl, hls⟩ := h n (by omega)
    refine ⟨vs ++ l, by simp [h1, hls, Nat.add_mul], fun i hi => ?_⟩
    by_cases hin : i < n
    · rw [h2 i hin]
      have hle : i * sz + sz ≤ vs.length := by
        rw [h1]; calc i * sz + sz = (i + 1) * sz := by rw [Nat.add_mul]; omega
          _ ≤ n * sz := Nat.mul_le_mul_right _ hin
      rw [List.drop_append_of_le_length (by omega), List.take_append_of_le_length (by simp; omega)]
    · have : i = n := by omega
      subst this
      rw [hl, ← h1, List.drop_left, List.take_of_length_le (by omega)]

theorem open_row {e t : TypeId} {sz : Nat} {cs : List Value} (ht : P.underlying t = some (.slice e)) (hs : psz P e = some sz) (h0 : 0 < sz) (hsp : spare = fun _ => true) (hr : Rd enc P w base spare held t cs) :
    cs = [.slice none 0 0] ∨ ∃ a len cap vs, cs = [.slice (some a) len cap] ∧ Row enc P w base spare held e sz a len cap vs := by
  obtain ⟨fuel, x, hx⟩ := hr
  have he := psz_cells hs
  rcases DataW.trod_slice ht hx with ⟨h, _⟩ | ⟨a, len, cap, elems, rest, n, rfl, rfl, _, hb, hlc, hm, hel, h1, h2, _⟩
  · exact .inl h
  · right
    rw [he] at h1 h2
    obtain ⟨hrl, h2⟩ := h2 (by rw [hsp])
    have all : ∀ i, i < cap → ∃ l, w.cells? base (a.add (i * sz)) sz = some l ∧ Rd enc P w base spare held e l := by
      intro i hi
      by_cases hil : i < len
      · have := h1 i hil
        rw [List.getElem?_eq_getElem (by omega : i < elems.length)] at this
        obtain ⟨l, hl, hr⟩ := Option.bind_eq_some_iff.1 this
        exact ⟨l, hl, n, _, hr⟩
      · have := h2 (i - len) (by omega)
        rw [List.getElem?_eq_getElem (by omega : i - len < rest.length), show len + (i - len) = i from by omega] at this
        obtain ⟨l, hl, hr⟩ := Option.bind_eq_some_iff.1 this
        exact ⟨l, hl, n, _, hr⟩
    obtain ⟨vs, hvl, hv⟩ := rows_of (fun i => w.cells? base (a.add (i * sz)) sz) sz cap (fun i hi => by
      obtain ⟨l, hl, _⟩ := all i hi
      exact ⟨l, hl, (cells_get hl).1⟩)
    have hspot : 0 < cap → a.spot = none := by
      intro hc
      obtain ⟨l, hl, _⟩ := all 0 hc
      obtain ⟨g1, g2⟩ := cells_get hl
      have := g2 0 h0
      rw [List.getElem?_eq_getElem (by omega)] at this
      unfold World.cell? at this
      split at this
      · split at this
        · cases this
        · rename_i hs2
          have h3 : ((a.add (0 * sz)).add 0).spot = none := by simpa using hs2
          rwa [Nat.zero_mul, addr_zero, addr_zero] at h3
      · cases this
    refine ⟨a, len, cap, vs, rfl, hlc, hm, hspot, hvl, fun i hi => ?_, fun i hi => ?_⟩
    · have hc : 0 < cap := by
        rcases Nat.eq_zero_or_pos cap with h | h
        · subst h; omega
        · exact h
      have hi2 : i / sz < cap := by rw [Nat.div_lt_iff_lt_mul h0]; exact hi
      have hl := hv (i / sz) hi2
      obtain ⟨g1, g2⟩ := cells_get hl
      have hmod : i % sz < sz := Nat.mod_lt _ h0
      have := g2 (i % sz) hmod
      rw [addr_add a _ (hspot hc), addr_add _ _ rfl] at this
      have hdm : i / sz * sz + i % sz = i := by rw [Nat.mul_comm]; exact Nat.div_add_mod i sz
      rw [List.getElem?_take_of_lt hmod, List.getElem?_drop, hdm] at this
      simp only [Nat.add_assoc, hdm] at this
      exact this
    · obtain ⟨l, hl, hr⟩ := all i hi
      have := hv i hi
      rw [hl] at this
      rw [← Option.some.inj this]; exact hr

/-- Its block, read alone. -/
theorem Row.block {e : TypeId} {sz : Nat} {a : Addr} {len cap : Nat} {vs : List Value} (h : Row enc P w base spare held e sz a len cap vs) {ρ : Ren} {ys : List SV} (hr : Rels ρ ys (vs.take (len * sz))) (ha : atoms ys = true) :
    (∀ id, ρ id = some ⟨a.block, a.off, cap * sz, false⟩ → Rel ρ (.sl id 0 len sz false) (.slice (some a) len cap)) ∧ BRel ρ w ⟨a.block, a.off, cap * sz, false⟩ (.ro ys) := by
  have hyl : ys.length = len * sz := by
    have := hr.length
    rw [List.length_take, h.len] at this
    have hle : len * sz ≤ cap * sz := Nat.mul_le_mul_right _ h.le
    omega
  refine ⟨fun id hid => ?_, ?_⟩
  · simp only [Rel]
    refine ⟨_, some a, cap, hid, rfl, h.le, fun h => (by cases h), ?_⟩
    by_cases h0 : cap = 0
    · exact .inl h0
    · right
      refine ⟨rfl, ?_, by simp⟩
      have := h.spot (by omega)
      cases a; simp only at this; subst this; simp
  · by_cases h0 : len * sz = 0
    · left; exact List.eq_nil_of_length_eq_zero (by omega)
    · right
      have hle : len * sz ≤ cap * sz := Nat.mul_le_mul_right _ h.le
      have key : ∀ i, i < cap * sz → ∃ c t fz, w.heap[a.block]? = some (.cells c t fz) ∧ c[a.off + i]? = vs[i]? := by
        intro i hi
        have hc := h.cell i hi
        rw [List.getElem?_eq_getElem (by rw [h.len]; exact hi)] at hc
        unfold World.cell? at hc
        split at hc
        · rename_i c t fz hh
          simp only at hc
          exact ⟨c, t, fz, hh, by rw [List.getElem?_eq_getElem (by rw [h.len]; exact hi)]; simpa using hc⟩
        · cases hc
      obtain ⟨c, t2, fz, hh, _⟩ := key 0 (by omega)
      have key2 : ∀ i, i < cap * sz → c[a.off + i]? = vs[i]? := by
        intro i hi
        obtain ⟨c', t', fz', hh', hv⟩ := key i hi
        rw [hh] at hh'; cases hh'; exact hv
      have hsz : a.off + len * sz ≤ c.size := by
        have := key2 (len * sz - 1) (by omega)
        rw [List.getElem?_eq_getElem (by rw [h.len]; omega)] at this
        have := (Array.getElem?_eq_some_iff.1 this).1
        omega
      refine ⟨⟨c, t2, fz, hh, ha, ?_, fun h => (by cases h), by rw [hyl]; exact hsz⟩, by rw [hyl]; exact hle, rfl⟩
      have e1 : (c.toList.drop a.off).take ys.length = vs.take (len * sz) := by
        apply List.ext_getElem?
        intro i
        rw [hyl]
        by_cases hi : i < len * sz
        · rw [List.getElem?_take_of_lt hi, List.getElem?_take_of_lt hi, List.getElem?_drop, Array.getElem?_toList]
          exact key2 i (by omega)
        · rw [List.getElem?_take_eq_none (by omega), List.getElem?_take_eq_none (by omega)]
      rw [e1]; exact hr

/-- A row of numbers, of structs of such. -/
theorem open_row_k {r : Reach} {b0 d : Nat} {e t : TypeId} {ks : List Nat} {v : Value} {y : DataW H} {ps : List MemPlace} (ht : P.underlying t = some (.slice e)) (hk : kinds P d e = some ks) (h0 : 0 < ks.length) (hval : Value.okWide P w r b0 t v)
    (hd : DataW.Trod enc P w base (fun _ => true) held t v y ps) : ∃ (n : Nat) (ys : List SV) (rb : RB), n ≤ maxLen ∧ ys.map kd = (List.replicate n ks).flatten.map some ∧ (∀ ρ id, ρ id = some rb → Rel ρ (.sl id 0 n ks.length false) v) ∧ ∀ ρ, BRel ρ w rb (.ro ys) := by
  obtain ⟨a, len, cap, rfl⟩ := okWide_slice ht hval
  obtain ⟨fuel, hf⟩ := hd
  have hcs : (Value.slice a len cap).cells.toList = [.slice a len cap] := rfl
  rw [hcs] at hf
  rcases open_row ht (kinds_size hk) h0 rfl ⟨fuel, _, hf⟩ with h | ⟨a', len', cap', vs, h, hrow⟩
  · cases h
    refine ⟨0, [], ⟨0, 0, 0, true⟩, Nat.zero_le _, rfl, fun ρ id hr => ?_, fun ρ => .inl rfl⟩
    simp only [Rel]
    exact ⟨_, none, 0, hr, rfl, Nat.le_refl _, fun h => (by cases h), .inl rfl⟩
  · cases h
    have hle : len * ks.length ≤ cap * ks.length := Nat.mul_le_mul_right _ hrow.le
    obtain ⟨ys, hy, hyr⟩ := chunks (R := fun c => Rd enc P w base (fun _ => true) held e c) (fun c hc => open_kinds hk hc) vs len (by rw [hrow.len]; exact hle) (fun i hi => hrow.read i (Nat.lt_of_lt_of_le hi hrow.le))
    exact ⟨len, ys, _, Nat.le_trans hrow.le hrow.most, hy, fun ρ id hid => (hrow.block (hyr ρ) (kd_atoms hy)).1 id hid, fun ρ => (hrow.block (hyr ρ) (kd_atoms hy)).2⟩

theorem flat_rep1 (n k : Nat) : (List.replicate n [k]).flatten = List.replicate n k := by
  induction n with
  | zero => rfl
  | succ n ih => rw [List.replicate_succ, List.flatten_cons, ih]; rfl

/-- A row of bytes; of words. -/
theorem open_row1 {α : Type} {f : α → SV} {r : Reach} {b0 d k : Nat} {e t : TypeId} {v : Value} {y : DataW H} {ps : List MemPlace} (ht : P.underlying t = some (.slice e)) (hk : kinds P d e = some [k]) (hf : ∀ x, kd x = some k → ∃ a, x = f a) (hval : Value.okWide P w r b0 t v)
    (hd : DataW.Trod enc P w base (fun _ => true) held t v y ps) : ∃ (l : List α) (rb : RB), l.length ≤ maxLen ∧ (∀ ρ id, ρ id = some rb → Rel ρ (.sl id 0 l.length 1 false) v) ∧ ∀ ρ, BRel ρ w rb (.ro (l.map f)) := by
  obtain ⟨n, ys, rb, hm, hy, h1, h2⟩ := open_row_k ht hk (by simp) hval hd
  rw [flat_rep1] at hy
  obtain ⟨l, rfl, rfl⟩ := kd_rep hf hy
  exact ⟨l, rb, hm, h1, h2⟩
end
end Go.Sh
