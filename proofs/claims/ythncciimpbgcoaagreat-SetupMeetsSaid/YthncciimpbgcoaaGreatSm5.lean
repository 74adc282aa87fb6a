/- Merged for a claim: K4, K9, K10, K11, K16, K17, K18, K19, K20, K21, K22, K23, K28, K29, K30, K31, K32, K33, K34, K35, K38, K39, K40, K41, Sh39, Sh40, S1. -/
import Derived.Test.YthncciimpbgcoaaGreatSm4
set_option linter.unusedSimpArgs false
set_option linter.unusedVariables false
namespace Go.Sh
open Go.Proofs
set_option maxHeartbeats 8000000
def hiL (x y : List UInt64) (i : Nat) : List UInt64 := [hi x y i 0, hi x y i 1, hi x y i 2, hi x y i 3, hi x y i 4]
def loL (x y : List UInt64) (i : Nat) : List UInt64 := [lo x y i 0, lo x y i 1, lo x y i 2, lo x y i 3, lo x y i 4]
def ouL (x y : List UInt64) (k : Nat) : List UInt64 := (List.range 5).map fun j => if j < k then oO x y j else 0
theorem hiL_s (x y : List UInt64) (i : Nat) : hiL x y (i + 1) = [hi x y i 0 + mhi (x.getD i 0) (yw y i 0) + cy (lo x y i 0) (x.getD i 0 * yw y i 0), hi x y i 1 + mhi (x.getD i 0) (yw y i 1) + cy (lo x y i 1) (x.getD i 0 * yw y i 1), hi x y i 2 + mhi (x.getD i 0) (yw y i 2) + cy (lo x y i 2) (x.getD i 0 * yw y i 2), hi x y i 3 + mhi (x.getD i 0) (yw y i 3) + cy (lo x y i 3) (x.getD i 0 * yw y i 3), hi x y i 4 + mhi (x.getD i 0) (yw y i 4) + cy (lo x y i 4) (x.getD i 0 * yw y i 4)] := rfl
theorem loL_s (x y : List UInt64) (i : Nat) : loL x y (i + 1) = [lo x y i 0 + x.getD i 0 * yw y i 0, lo x y i 1 + x.getD i 0 * yw y i 1, lo x y i 2 + x.getD i 0 * yw y i 2, lo x y i 3 + x.getD i 0 * yw y i 3, lo x y i 4 + x.getD i 0 * yw y i 4] := rfl
theorem mulL_eq (x y : List UInt64) : mulL x y = carL [oO x y 0 + 19 * cO x y 5, oO x y 1, oO x y 2, oO x y 3, oO x y 4] := rfl
theorem cO_s (x y : List UInt64) (k : Nat) : cO x y (k + 1) = shl64 (hi x y 5 k + cy (lo x y 5 k) (cO x y k)) 13 ||| shr64 (lo x y 5 k + cO x y k) 51 := rfl
theorem cO_z (x y : List UInt64) : cO x y 0 = 0 := rfl
theorem cM : UInt64.ofNat (Int.toNat 2251799813685247) = 2251799813685247 := by decide
theorem c19 : UInt64.ofNat (Int.toNat 19) = 19 := by decide
attribute [local irreducible] carL cO mhi cy
theorem f28 {x y : List UInt64} (hx : x.length = 5) (hy : y.length = 5) : SCall Tryz.prog 47 [.agg (x.map .u64), .agg (y.map .u64)] [] (.agg ((mulL x y).map .u64)) [] := by
 obtain ⟨a, b, c, d, e, rfl⟩ := ex5 hx
 obtain ⟨f, g, h, i, j, rfl⟩ := ex5 hy
 obtain ⟨X, hX⟩ : ∃ X, X = [a, b, c, d, e] := ⟨_, rfl⟩
 obtain ⟨Y, hY⟩ : ∃ Y, Y = [f, g, h, i, j] := ⟨_, rfl⟩
 refine scall_of ttOk (by kernel_rfl : Tryz.prog.funcs[47]? = some Tryz.f47) rfl rfl rfl ?_
 try simp only [List.length_cons, List.length_nil, Nat.zero_add, Nat.reduceAdd]
 refine sw_ok ttOk mixed (by kernel_rfl) ?_
 conv => whnf
 repeat (first | (refine Exists.intro _ (And.intro (sload_all rfl (by rfl)) ?_); conv => whnf) | fail)
 refine loop_rule ttOk mixed (by kernel_rfl) (ι := { n : Nat // n ≤ 5 }) (fun n => [(2, .p 0 0), (3, .p 1 0), (4, .p 2 0), (5, .p 3 0), (6, .p 4 0), (22, .agg [.u64 a, .u64 b, .u64 c, .u64 d, .u64 e]), (23, .i (n.1 : Int))]) (fun n => [some (.box [.u64 a, .u64 b, .u64 c, .u64 d, .u64 e]), some (.box [.u64 f, .u64 g, .u64 h, .u64 i, .u64 j]), some (.box (List.replicate 5 (.u64 0))), some (.box ((hiL X Y n.1).map .u64)), some (.box ((loL X Y n.1).map .u64))]) (fun _ => 5) (fun n => 5 - n.1) ⟨0, by omega⟩ ?_ ?_
 ·
  refine Weak.sel [0, 1, 2, 3, 4] rfl rfl ?_ ?_ rfl rfl
  ·
   (repeat' (first | exact trivial | refine And.intro ?_ ?_ | (refine wk_agg ?_) | (refine wk_cons ?_ ?_))) <;> first | rfl | fail
  ·
   (repeat' (first | exact trivial | refine And.intro ?_ ?_ | (refine wk_cons ?_ ?_))) <;> first | rfl | fail
 ·
  rintro ⟨n, hn⟩
  have h6 : n = 0 ∨ n = 1 ∨ n = 2 ∨ n = 3 ∨ n = 4 ∨ n = 5 := by omega
  rcases h6 with rfl | rfl | rfl | rfl | rfl | rfl
  ·
   obtain ⟨H0, hH0⟩ : ∃ z, z = hi X Y 0 0 := ⟨_, rfl⟩
   obtain ⟨L0, hL0⟩ : ∃ z, z = lo X Y 0 0 := ⟨_, rfl⟩
   obtain ⟨H1, hH1⟩ : ∃ z, z = hi X Y 0 1 := ⟨_, rfl⟩
   obtain ⟨L1, hL1⟩ : ∃ z, z = lo X Y 0 1 := ⟨_, rfl⟩
   obtain ⟨H2, hH2⟩ : ∃ z, z = hi X Y 0 2 := ⟨_, rfl⟩
   obtain ⟨L2, hL2⟩ : ∃ z, z = lo X Y 0 2 := ⟨_, rfl⟩
   obtain ⟨H3, hH3⟩ : ∃ z, z = hi X Y 0 3 := ⟨_, rfl⟩
   obtain ⟨L3, hL3⟩ : ∃ z, z = lo X Y 0 3 := ⟨_, rfl⟩
   obtain ⟨H4, hH4⟩ : ∃ z, z = hi X Y 0 4 := ⟨_, rfl⟩
   obtain ⟨L4, hL4⟩ : ∃ z, z = lo X Y 0 4 := ⟨_, rfl⟩
   have s1 : hiL X Y 0 = [H0, H1, H2, H3, H4] := by rw [hH0, hH1, hH2, hH3, hH4]; rfl
   have s2 : loL X Y 0 = [L0, L1, L2, L3, L4] := by rw [hL0, hL1, hL2, hL3, hL4]; rfl
   have e1 : hiL X Y 1 = [H0 + mhi a f + cy L0 (a * f), H1 + mhi a g + cy L1 (a * g), H2 + mhi a h + cy L2 (a * h), H3 + mhi a i + cy L3 (a * i), H4 + mhi a j + cy L4 (a * j)] := by rw [hiL_s, ← hH0, ← hH1, ← hH2, ← hH3, ← hH4, ← hL0, ← hL1, ← hL2, ← hL3, ← hL4, hX, hY]; rfl
   have e2 : loL X Y 1 = [L0 + a * f, L1 + a * g, L2 + a * h, L3 + a * i, L4 + a * j] := by rw [loL_s, ← hL0, ← hL1, ← hL2, ← hL3, ← hL4, hX, hY]; rfl
   dsimp only
   rw [s1, s2]
   conv => whnf
   first | refine brT (by rfl) ?_ | fail
   conv => whnf
   repeat (first | (refine Exists.intro _ (And.intro (sload_all rfl (by rfl)) ?_); conv => whnf) | (refine Exists.intro _ (And.intro rfl ?_); conv => whnf) | (refine And.intro (by omega) ?_; conv => whnf) | fail)
   refine loop_rounds ttOk mixed (by kernel_rfl) 6 ?_
   conv => whnf
   repeat (first | (refine brT rfl ?_; conv => whnf) | (refine brF rfl ?_; conv => whnf) | (refine Exists.intro _ (And.intro rfl ?_); conv => whnf) | (refine And.intro (by omega) ?_; conv => whnf) | fail)
   refine ok1_callF [] [] true (f86 _ _) rfl rfl ⟨⟨rfl, by rfl⟩, trivial, by rfl, by rfl, ?_⟩
   conv => whnf
   repeat (first | (refine Exists.intro _ (And.intro rfl ?_); conv => whnf) | (refine And.intro (Nat.le_of_ble_eq_true rfl) ?_; conv => whnf) | fail)
   refine add0 _ _ rfl rfl ?_
   conv => whnf
   repeat (first | (refine Exists.intro _ (And.intro rfl ?_); conv => whnf) | (refine And.intro (Nat.le_of_ble_eq_true rfl) ?_; conv => whnf) | (refine And.intro ⟨rfl, Nat.le_of_ble_eq_true rfl⟩ ?_; conv => whnf) | fail)
   refine addc _ _ _ _ rfl rfl (fun z => ?_)
   conv => whnf
   repeat (first | (refine brT rfl ?_; conv => whnf) | (refine brF rfl ?_; conv => whnf) | (refine Exists.intro _ (And.intro rfl ?_); conv => whnf) | (refine And.intro (Nat.le_of_ble_eq_true rfl) ?_; conv => whnf) | (refine And.intro ⟨rfl, Nat.le_of_ble_eq_true rfl⟩ ?_; conv => whnf) | fail)
   refine ok1_callF [] [] true (f86 _ _) rfl rfl ⟨⟨rfl, by rfl⟩, trivial, by rfl, by rfl, ?_⟩
   conv => whnf
   repeat (first | (refine Exists.intro _ (And.intro rfl ?_); conv => whnf) | (refine And.intro (Nat.le_of_ble_eq_true rfl) ?_; conv => whnf) | fail)
   refine add0 _ _ rfl rfl ?_
   conv => whnf
   repeat (first | (refine Exists.intro _ (And.intro rfl ?_); conv => whnf) | (refine And.intro (Nat.le_of_ble_eq_true rfl) ?_; conv => whnf) | (refine And.intro ⟨rfl, Nat.le_of_ble_eq_true rfl⟩ ?_; conv => whnf) | fail)
   refine addc _ _ _ _ rfl rfl (fun z => ?_)
   conv => whnf
   repeat (first | (refine brT rfl ?_; conv => whnf) | (refine brF rfl ?_; conv => whnf) | (refine Exists.intro _ (And.intro rfl ?_); conv => whnf) | (refine And.intro (Nat.le_of_ble_eq_true rfl) ?_; conv => whnf) | (refine And.intro ⟨rfl, Nat.le_of_ble_eq_true rfl⟩ ?_; conv => whnf) | fail)
   refine ok1_callF [] [] true (f86 _ _) rfl rfl ⟨⟨rfl, by rfl⟩, trivial, by rfl, by rfl, ?_⟩
   conv => whnf
   repeat (first | (refine Exists.intro _ (And.intro rfl ?_); conv => whnf) | (refine And.intro (Nat.le_of_ble_eq_true rfl) ?_; conv => whnf) | fail)
   refine add0 _ _ rfl rfl ?_
   conv => whnf
   repeat (first | (refine Exists.intro _ (And.intro rfl ?_); conv => whnf) | (refine And.intro (Nat.le_of_ble_eq_true rfl) ?_; conv => whnf) | (refine And.intro ⟨rfl, Nat.le_of_ble_eq_true rfl⟩ ?_; conv => whnf) | fail)
   refine addc _ _ _ _ rfl rfl (fun z => ?_)
   conv => whnf
   repeat (first | (refine brT rfl ?_; conv => whnf) | (refine brF rfl ?_; conv => whnf) | (refine Exists.intro _ (And.intro rfl ?_); conv => whnf) | (refine And.intro (Nat.le_of_ble_eq_true rfl) ?_; conv => whnf) | (refine And.intro ⟨rfl, Nat.le_of_ble_eq_true rfl⟩ ?_; conv => whnf) | fail)
   refine ok1_callF [] [] true (f86 _ _) rfl rfl ⟨⟨rfl, by rfl⟩, trivial, by rfl, by rfl, ?_⟩
   conv => whnf
   repeat (first | (refine Exists.intro _ (And.intro rfl ?_); conv => whnf) | (refine And.intro (Nat.le_of_ble_eq_true rfl) ?_; conv => whnf) | fail)
   refine add0 _ _ rfl rfl ?_
   conv => whnf
   repeat (first | (refine Exists.intro _ (And.intro rfl ?_); conv => whnf) | (refine And.intro (Nat.le_of_ble_eq_true rfl) ?_; conv => whnf) | (refine And.intro ⟨rfl, Nat.le_of_ble_eq_true rfl⟩ ?_; conv => whnf) | fail)
   refine addc _ _ _ _ rfl rfl (fun z => ?_)
   conv => whnf
   repeat (first | (refine brT rfl ?_; conv => whnf) | (refine brF rfl ?_; conv => whnf) | (refine Exists.intro _ (And.intro rfl ?_); conv => whnf) | (refine And.intro (Nat.le_of_ble_eq_true rfl) ?_; conv => whnf) | (refine And.intro ⟨rfl, Nat.le_of_ble_eq_true rfl⟩ ?_; conv => whnf) | fail)
   refine ok1_callF [] [] true (f86 _ _) rfl rfl ⟨⟨rfl, by rfl⟩, trivial, by rfl, by rfl, ?_⟩
   conv => whnf
   repeat (first | (refine Exists.intro _ (And.intro rfl ?_); conv => whnf) | (refine And.intro (Nat.le_of_ble_eq_true rfl) ?_; conv => whnf) | fail)
   refine add0 _ _ rfl rfl ?_
   conv => whnf
   repeat (first | (refine Exists.intro _ (And.intro rfl ?_); conv => whnf) | (refine And.intro (Nat.le_of_ble_eq_true rfl) ?_; conv => whnf) | (refine And.intro ⟨rfl, Nat.le_of_ble_eq_true rfl⟩ ?_; conv => whnf) | fail)
   refine addc _ _ _ _ rfl rfl (fun z => ?_)
   conv => whnf
   repeat (first | (refine brF rfl ?_; conv => whnf) | (refine Exists.intro _ (And.intro rfl ?_); conv => whnf) | (refine And.intro (Nat.le_of_ble_eq_true rfl) ?_; conv => whnf) | (refine And.intro ⟨rfl, Nat.le_of_ble_eq_true rfl⟩ ?_; conv => whnf) | fail)
   refine ⟨⟨1, by omega⟩, by simp only; omega, ?_⟩
   dsimp only
   rw [e1, e2]
   refine Weak.sel [0, 1, 2, 3, 4] rfl rfl ?_ ?_ rfl rfl
   ·
    (repeat' (first | exact trivial | refine And.intro ?_ ?_ | (refine wk_agg ?_) | (refine wk_cons ?_ ?_))) <;> first | rfl | fail
   ·
    (repeat' (first | exact trivial | refine And.intro ?_ ?_ | (refine wk_cons ?_ ?_))) <;> first | rfl | fail
  ·
   obtain ⟨H0, hH0⟩ : ∃ z, z = hi X Y 1 0 := ⟨_, rfl⟩
   obtain ⟨L0, hL0⟩ : ∃ z, z = lo X Y 1 0 := ⟨_, rfl⟩
   obtain ⟨H1, hH1⟩ : ∃ z, z = hi X Y 1 1 := ⟨_, rfl⟩
   obtain ⟨L1, hL1⟩ : ∃ z, z = lo X Y 1 1 := ⟨_, rfl⟩
   obtain ⟨H2, hH2⟩ : ∃ z, z = hi X Y 1 2 := ⟨_, rfl⟩
   obtain ⟨L2, hL2⟩ : ∃ z, z = lo X Y 1 2 := ⟨_, rfl⟩
   obtain ⟨H3, hH3⟩ : ∃ z, z = hi X Y 1 3 := ⟨_, rfl⟩
   obtain ⟨L3, hL3⟩ : ∃ z, z = lo X Y 1 3 := ⟨_, rfl⟩
   obtain ⟨H4, hH4⟩ : ∃ z, z = hi X Y 1 4 := ⟨_, rfl⟩
   obtain ⟨L4, hL4⟩ : ∃ z, z = lo X Y 1 4 := ⟨_, rfl⟩
   have s1 : hiL X Y 1 = [H0, H1, H2, H3, H4] := by rw [hH0, hH1, hH2, hH3, hH4]; rfl
   have s2 : loL X Y 1 = [L0, L1, L2, L3, L4] := by rw [hL0, hL1, hL2, hL3, hL4]; rfl
   have e1 : hiL X Y 2 = [H0 + mhi b (j * UInt64.ofNat (Int.toNat 19)) + cy L0 (b * (j * UInt64.ofNat (Int.toNat 19))), H1 + mhi b f + cy L1 (b * f), H2 + mhi b g + cy L2 (b * g), H3 + mhi b h + cy L3 (b * h), H4 + mhi b i + cy L4 (b * i)] := by rw [hiL_s, ← hH0, ← hH1, ← hH2, ← hH3, ← hH4, ← hL0, ← hL1, ← hL2, ← hL3, ← hL4, hX, hY, c19]; rfl
   have e2 : loL X Y 2 = [L0 + b * (j * UInt64.ofNat (Int.toNat 19)), L1 + b * f, L2 + b * g, L3 + b * h, L4 + b * i] := by rw [loL_s, ← hL0, ← hL1, ← hL2, ← hL3, ← hL4, hX, hY, c19]; rfl
   dsimp only
   rw [s1, s2]
   conv => whnf
   first | refine brT (by rfl) ?_ | fail
   conv => whnf
   repeat (first | (refine Exists.intro _ (And.intro (sload_all rfl (by rfl)) ?_); conv => whnf) | (refine Exists.intro _ (And.intro rfl ?_); conv => whnf) | (refine And.intro (by omega) ?_; conv => whnf) | fail)
   refine loop_rounds ttOk mixed (by kernel_rfl) 6 ?_
   conv => whnf
   repeat (first | (refine brT rfl ?_; conv => whnf) | (refine brF rfl ?_; conv => whnf) | (refine Exists.intro _ (And.intro rfl ?_); conv => whnf) | (refine And.intro (by omega) ?_; conv => whnf) | fail)
   refine ok1_callF [] [] true (f86 _ _) rfl rfl ⟨⟨rfl, by rfl⟩, trivial, by rfl, by rfl, ?_⟩
   conv => whnf
   repeat (first | (refine Exists.intro _ (And.intro rfl ?_); conv => whnf) | (refine And.intro (Nat.le_of_ble_eq_true rfl) ?_; conv => whnf) | fail)
   refine add0 _ _ rfl rfl ?_
   conv => whnf
   repeat (first | (refine Exists.intro _ (And.intro rfl ?_); conv => whnf) | (refine And.intro (Nat.le_of_ble_eq_true rfl) ?_; conv => whnf) | (refine And.intro ⟨rfl, Nat.le_of_ble_eq_true rfl⟩ ?_; conv => whnf) | fail)
   refine addc _ _ _ _ rfl rfl (fun z => ?_)
   conv => whnf
   repeat (first | (refine brT rfl ?_; conv => whnf) | (refine brF rfl ?_; conv => whnf) | (refine Exists.intro _ (And.intro rfl ?_); conv => whnf) | (refine And.intro (Nat.le_of_ble_eq_true rfl) ?_; conv => whnf) | (refine And.intro ⟨rfl, Nat.le_of_ble_eq_true rfl⟩ ?_; conv => whnf) | fail)
   refine ok1_callF [] [] true (f86 _ _) rfl rfl ⟨⟨rfl, by rfl⟩, trivial, by rfl, by rfl, ?_⟩
   conv => whnf
   repeat (first | (refine Exists.intro _ (And.intro rfl ?_); conv => whnf) | (refine And.intro (Nat.le_of_ble_eq_true rfl) ?_; conv => whnf) | fail)
   refine add0 _ _ rfl rfl ?_
   conv => whnf
   repeat (first | (refine Exists.intro _ (And.intro rfl ?_); conv => whnf) | (refine And.intro (Nat.le_of_ble_eq_true rfl) ?_; conv => whnf) | (refine And.intro ⟨rfl, Nat.le_of_ble_eq_true rfl⟩ ?_; conv => whnf) | fail)
   refine addc _ _ _ _ rfl rfl (fun z => ?_)
   conv => whnf
   repeat (first | (refine brT rfl ?_; conv => whnf) | (refine brF rfl ?_; conv => whnf) | (refine Exists.intro _ (And.intro rfl ?_); conv => whnf) | (refine And.intro (Nat.le_of_ble_eq_true rfl) ?_; conv => whnf) | (refine And.intro ⟨rfl, Nat.le_of_ble_eq_true rfl⟩ ?_; conv => whnf) | fail)
   refine ok1_callF [] [] true (f86 _ _) rfl rfl ⟨⟨rfl, by rfl⟩, trivial, by rfl, by rfl, ?_⟩
   conv => whnf
   repeat (first | (refine Exists.intro _ (And.intro rfl ?_); conv => whnf) | (refine And.intro (Nat.le_of_ble_eq_true rfl) ?_; conv => whnf) | fail)
   refine add0 _ _ rfl rfl ?_
   conv => whnf
   repeat (first | (refine Exists.intro _ (And.intro rfl ?_); conv => whnf) | (refine And.intro (Nat.le_of_ble_eq_true rfl) ?_; conv => whnf) | (refine And.intro ⟨rfl, Nat.le_of_ble_eq_true rfl⟩ ?_; conv => whnf) | fail)
   refine addc _ _ _ _ rfl rfl (fun z => ?_)
   conv => whnf
   repeat (first | (refine brT rfl ?_; conv => whnf) | (refine brF rfl ?_; conv => whnf) | (refine Exists.intro _ (And.intro rfl ?_); conv => whnf) | (refine And.intro (Nat.le_of_ble_eq_true rfl) ?_; conv => whnf) | (refine And.intro ⟨rfl, Nat.le_of_ble_eq_true rfl⟩ ?_; conv => whnf) | fail)
   refine ok1_callF [] [] true (f86 _ _) rfl rfl ⟨⟨rfl, by rfl⟩, trivial, by rfl, by rfl, ?_⟩
   conv => whnf
   repeat (first | (refine Exists.intro _ (And.intro rfl ?_); conv => whnf) | (refine And.intro (Nat.le_of_ble_eq_true rfl) ?_; conv => whnf) | fail)
   refine add0 _ _ rfl rfl ?_
   conv => whnf
   repeat (first | (refine Exists.intro _ (And.intro rfl ?_); conv => whnf) | (refine And.intro (Nat.le_of_ble_eq_true rfl) ?_; conv => whnf) | (refine And.intro ⟨rfl, Nat.le_of_ble_eq_true rfl⟩ ?_; conv => whnf) | fail)
   refine addc _ _ _ _ rfl rfl (fun z => ?_)
   conv => whnf
   repeat (first | (refine brT rfl ?_; conv => whnf) | (refine Exists.intro _ (And.intro rfl ?_); conv => whnf) | (refine And.intro (Nat.le_of_ble_eq_true rfl) ?_; conv => whnf) | (refine And.intro ⟨rfl, Nat.le_of_ble_eq_true rfl⟩ ?_; conv => whnf) | fail)
   refine ok1_callF [] [] true (f86 _ _) rfl rfl ⟨⟨rfl, by rfl⟩, trivial, by rfl, by rfl, ?_⟩
   conv => whnf
   repeat (first | (refine Exists.intro _ (And.intro rfl ?_); conv => whnf) | (refine And.intro (Nat.le_of_ble_eq_true rfl) ?_; conv => whnf) | fail)
   refine add0 _ _ rfl rfl ?_
   conv => whnf
   repeat (first | (refine Exists.intro _ (And.intro rfl ?_); conv => whnf) | (refine And.intro (Nat.le_of_ble_eq_true rfl) ?_; conv => whnf) | (refine And.intro ⟨rfl, Nat.le_of_ble_eq_true rfl⟩ ?_; conv => whnf) | fail)
   refine addc _ _ _ _ rfl rfl (fun z => ?_)
   conv => whnf
   repeat (first | (refine brF rfl ?_; conv => whnf) | (refine Exists.intro _ (And.intro rfl ?_); conv => whnf) | (refine And.intro (Nat.le_of_ble_eq_true rfl) ?_; conv => whnf) | (refine And.intro ⟨rfl, Nat.le_of_ble_eq_true rfl⟩ ?_; conv => whnf) | fail)
   refine ⟨⟨2, by omega⟩, by simp only; omega, ?_⟩
   dsimp only
   rw [e1, e2]
   refine Weak.sel [0, 1, 2, 3, 4] rfl rfl ?_ ?_ rfl rfl
   ·
    (repeat' (first | exact trivial | refine And.intro ?_ ?_ | (refine wk_agg ?_) | (refine wk_cons ?_ ?_))) <;> first | rfl | fail
   ·
    (repeat' (first | exact trivial | refine And.intro ?_ ?_ | (refine wk_cons ?_ ?_))) <;> first | rfl | fail
  ·
   obtain ⟨H0, hH0⟩ : ∃ z, z = hi X Y 2 0 := ⟨_, rfl⟩
   obtain ⟨L0, hL0⟩ : ∃ z, z = lo X Y 2 0 := ⟨_, rfl⟩
   obtain ⟨H1, hH1⟩ : ∃ z, z = hi X Y 2 1 := ⟨_, rfl⟩
   obtain ⟨L1, hL1⟩ : ∃ z, z = lo X Y 2 1 := ⟨_, rfl⟩
   obtain ⟨H2, hH2⟩ : ∃ z, z = hi X Y 2 2 := ⟨_, rfl⟩
   obtain ⟨L2, hL2⟩ : ∃ z, z = lo X Y 2 2 := ⟨_, rfl⟩
   obtain ⟨H3, hH3⟩ : ∃ z, z = hi X Y 2 3 := ⟨_, rfl⟩
   obtain ⟨L3, hL3⟩ : ∃ z, z = lo X Y 2 3 := ⟨_, rfl⟩
   obtain ⟨H4, hH4⟩ : ∃ z, z = hi X Y 2 4 := ⟨_, rfl⟩
   obtain ⟨L4, hL4⟩ : ∃ z, z = lo X Y 2 4 := ⟨_, rfl⟩
   have s1 : hiL X Y 2 = [H0, H1, H2, H3, H4] := by rw [hH0, hH1, hH2, hH3, hH4]; rfl
   have s2 : loL X Y 2 = [L0, L1, L2, L3, L4] := by rw [hL0, hL1, hL2, hL3, hL4]; rfl
   have e1 : hiL X Y 3 = [H0 + mhi c (i * UInt64.ofNat (Int.toNat 19)) + cy L0 (c * (i * UInt64.ofNat (Int.toNat 19))), H1 + mhi c (j * UInt64.ofNat (Int.toNat 19)) + cy L1 (c * (j * UInt64.ofNat (Int.toNat 19))), H2 + mhi c f + cy L2 (c * f), H3 + mhi c g + cy L3 (c * g), H4 + mhi c h + cy L4 (c * h)] := by rw [hiL_s, ← hH0, ← hH1, ← hH2, ← hH3, ← hH4, ← hL0, ← hL1, ← hL2, ← hL3, ← hL4, hX, hY, c19]; rfl
   have e2 : loL X Y 3 = [L0 + c * (i * UInt64.ofNat (Int.toNat 19)), L1 + c * (j * UInt64.ofNat (Int.toNat 19)), L2 + c * f, L3 + c * g, L4 + c * h] := by rw [loL_s, ← hL0, ← hL1, ← hL2, ← hL3, ← hL4, hX, hY, c19]; rfl
   dsimp only
   rw [s1, s2]
   conv => whnf
   first | refine brT (by rfl) ?_ | fail
   conv => whnf
   repeat (first | (refine Exists.intro _ (And.intro (sload_all rfl (by rfl)) ?_); conv => whnf) | (refine Exists.intro _ (And.intro rfl ?_); conv => whnf) | (refine And.intro (by omega) ?_; conv => whnf) | fail)
   refine loop_rounds ttOk mixed (by kernel_rfl) 6 ?_
   conv => whnf
   repeat (first | (refine brT rfl ?_; conv => whnf) | (refine brF rfl ?_; conv => whnf) | (refine Exists.intro _ (And.intro rfl ?_); conv => whnf) | (refine And.intro (by omega) ?_; conv => whnf) | fail)
   refine ok1_callF [] [] true (f86 _ _) rfl rfl ⟨⟨rfl, by rfl⟩, trivial, by rfl, by rfl, ?_⟩
   conv => whnf
   repeat (first | (refine Exists.intro _ (And.intro rfl ?_); conv => whnf) | (refine And.intro (Nat.le_of_ble_eq_true rfl) ?_; conv => whnf) | fail)
   refine add0 _ _ rfl rfl ?_
   conv => whnf
   repeat (first | (refine Exists.intro _ (And.intro rfl ?_); conv => whnf) | (refine And.intro (Nat.le_of_ble_eq_true rfl) ?_; conv => whnf) | (refine And.intro ⟨rfl, Nat.le_of_ble_eq_true rfl⟩ ?_; conv => whnf) | fail)
   refine addc _ _ _ _ rfl rfl (fun z => ?_)
   conv => whnf
   repeat (first | (refine brT rfl ?_; conv => whnf) | (refine brF rfl ?_; conv => whnf) | (refine Exists.intro _ (And.intro rfl ?_); conv => whnf) | (refine And.intro (Nat.le_of_ble_eq_true rfl) ?_; conv => whnf) | (refine And.intro ⟨rfl, Nat.le_of_ble_eq_true rfl⟩ ?_; conv => whnf) | fail)
   refine ok1_callF [] [] true (f86 _ _) rfl rfl ⟨⟨rfl, by rfl⟩, trivial, by rfl, by rfl, ?_⟩
   conv => whnf
   repeat (first | (refine Exists.intro _ (And.intro rfl ?_); conv => whnf) | (refine And.intro (Nat.le_of_ble_eq_true rfl) ?_; conv => whnf) | fail)
   refine add0 _ _ rfl rfl ?_
   conv => whnf
   repeat (first | (refine Exists.intro _ (And.intro rfl ?_); conv => whnf) | (refine And.intro (Nat.le_of_ble_eq_true rfl) ?_; conv => whnf) | (refine And.intro ⟨rfl, Nat.le_of_ble_eq_true rfl⟩ ?_; conv => whnf) | fail)
   refine addc _ _ _ _ rfl rfl (fun z => ?_)
   conv => whnf
   repeat (first | (refine brT rfl ?_; conv => whnf) | (refine brF rfl ?_; conv => whnf) | (refine Exists.intro _ (And.intro rfl ?_); conv => whnf) | (refine And.intro (Nat.le_of_ble_eq_true rfl) ?_; conv => whnf) | (refine And.intro ⟨rfl, Nat.le_of_ble_eq_true rfl⟩ ?_; conv => whnf) | fail)
   refine ok1_callF [] [] true (f86 _ _) rfl rfl ⟨⟨rfl, by rfl⟩, trivial, by rfl, by rfl, ?_⟩
   conv => whnf
   repeat (first | (refine Exists.intro _ (And.intro rfl ?_); conv => whnf) | (refine And.intro (Nat.le_of_ble_eq_true rfl) ?_; conv => whnf) | fail)
   refine add0 _ _ rfl rfl ?_
   conv => whnf
   repeat (first | (refine Exists.intro _ (And.intro rfl ?_); conv => whnf) | (refine And.intro (Nat.le_of_ble_eq_true rfl) ?_; conv => whnf) | (refine And.intro ⟨rfl, Nat.le_of_ble_eq_true rfl⟩ ?_; conv => whnf) | fail)
   refine addc _ _ _ _ rfl rfl (fun z => ?_)
   conv => whnf
   repeat (first | (refine brT rfl ?_; conv => whnf) | (refine Exists.intro _ (And.intro rfl ?_); conv => whnf) | (refine And.intro (Nat.le_of_ble_eq_true rfl) ?_; conv => whnf) | (refine And.intro ⟨rfl, Nat.le_of_ble_eq_true rfl⟩ ?_; conv => whnf) | fail)
   refine ok1_callF [] [] true (f86 _ _) rfl rfl ⟨⟨rfl, by rfl⟩, trivial, by rfl, by rfl, ?_⟩
   conv => whnf
   repeat (first | (refine Exists.intro _ (And.intro rfl ?_); conv => whnf) | (refine And.intro (Nat.le_of_ble_eq_true rfl) ?_; conv => whnf) | fail)
   refine add0 _ _ rfl rfl ?_
   conv => whnf
   repeat (first | (refine Exists.intro _ (And.intro rfl ?_); conv => whnf) | (refine And.intro (Nat.le_of_ble_eq_true rfl) ?_; conv => whnf) | (refine And.intro ⟨rfl, Nat.le_of_ble_eq_true rfl⟩ ?_; conv => whnf) | fail)
   refine addc _ _ _ _ rfl rfl (fun z => ?_)
   conv => whnf
   repeat (first | (refine brT rfl ?_; conv => whnf) | (refine Exists.intro _ (And.intro rfl ?_); conv => whnf) | (refine And.intro (Nat.le_of_ble_eq_true rfl) ?_; conv => whnf) | (refine And.intro ⟨rfl, Nat.le_of_ble_eq_true rfl⟩ ?_; conv => whnf) | fail)
   refine ok1_callF [] [] true (f86 _ _) rfl rfl ⟨⟨rfl, by rfl⟩, trivial, by rfl, by rfl, ?_⟩
   conv => whnf
   repeat (first | (refine Exists.intro _ (And.intro rfl ?_); conv => whnf) | (refine And.intro (Nat.le_of_ble_eq_true rfl) ?_; conv => whnf) | fail)
   refine add0 _ _ rfl rfl ?_
   conv => whnf
   repeat (first | (refine Exists.intro _ (And.intro rfl ?_); conv => whnf) | (refine And.intro (Nat.le_of_ble_eq_true rfl) ?_; conv => whnf) | (refine And.intro ⟨rfl, Nat.le_of_ble_eq_true rfl⟩ ?_; conv => whnf) | fail)
   refine addc _ _ _ _ rfl rfl (fun z => ?_)
   conv => whnf
   repeat (first | (refine brF rfl ?_; conv => whnf) | (refine Exists.intro _ (And.intro rfl ?_); conv => whnf) | (refine And.intro (Nat.le_of_ble_eq_true rfl) ?_; conv => whnf) | (refine And.intro ⟨rfl, Nat.le_of_ble_eq_true rfl⟩ ?_; conv => whnf) | fail)
   refine ⟨⟨3, by omega⟩, by simp only; omega, ?_⟩
   dsimp only
   rw [e1, e2]
   refine Weak.sel [0, 1, 2, 3, 4] rfl rfl ?_ ?_ rfl rfl
   ·
    (repeat' (first | exact trivial | refine And.intro ?_ ?_ | (refine wk_agg ?_) | (refine wk_cons ?_ ?_))) <;> first | rfl | fail
   ·
    (repeat' (first | exact trivial | refine And.intro ?_ ?_ | (refine wk_cons ?_ ?_))) <;> first | rfl | fail
  ·
   obtain ⟨H0, hH0⟩ : ∃ z, z = hi X Y 3 0 := ⟨_, rfl⟩
   obtain ⟨L0, hL0⟩ : ∃ z, z = lo X Y 3 0 := ⟨_, rfl⟩
   obtain ⟨H1, hH1⟩ : ∃ z, z = hi X Y 3 1 := ⟨_, rfl⟩
   obtain ⟨L1, hL1⟩ : ∃ z, z = lo X Y 3 1 := ⟨_, rfl⟩
   obtain ⟨H2, hH2⟩ : ∃ z, z = hi X Y 3 2 := ⟨_, rfl⟩
   obtain ⟨L2, hL2⟩ : ∃ z, z = lo X Y 3 2 := ⟨_, rfl⟩
   obtain ⟨H3, hH3⟩ : ∃ z, z = hi X Y 3 3 := ⟨_, rfl⟩
   obtain ⟨L3, hL3⟩ : ∃ z, z = lo X Y 3 3 := ⟨_, rfl⟩
   obtain ⟨H4, hH4⟩ : ∃ z, z = hi X Y 3 4 := ⟨_, rfl⟩
   obtain ⟨L4, hL4⟩ : ∃ z, z = lo X Y 3 4 := ⟨_, rfl⟩
   have s1 : hiL X Y 3 = [H0, H1, H2, H3, H4] := by rw [hH0, hH1, hH2, hH3, hH4]; rfl
   have s2 : loL X Y 3 = [L0, L1, L2, L3, L4] := by rw [hL0, hL1, hL2, hL3, hL4]; rfl
   have e1 : hiL X Y 4 = [H0 + mhi d (h * UInt64.ofNat (Int.toNat 19)) + cy L0 (d * (h * UInt64.ofNat (Int.toNat 19))), H1 + mhi d (i * UInt64.ofNat (Int.toNat 19)) + cy L1 (d * (i * UInt64.ofNat (Int.toNat 19))), H2 + mhi d (j * UInt64.ofNat (Int.toNat 19)) + cy L2 (d * (j * UInt64.ofNat (Int.toNat 19))), H3 + mhi d f + cy L3 (d * f), H4 + mhi d g + cy L4 (d * g)] := by rw [hiL_s, ← hH0, ← hH1, ← hH2, ← hH3, ← hH4, ← hL0, ← hL1, ← hL2, ← hL3, ← hL4, hX, hY, c19]; rfl
   have e2 : loL X Y 4 = [L0 + d * (h * UInt64.ofNat (Int.toNat 19)), L1 + d * (i * UInt64.ofNat (Int.toNat 19)), L2 + d * (j * UInt64.ofNat (Int.toNat 19)), L3 + d * f, L4 + d * g] := by rw [loL_s, ← hL0, ← hL1, ← hL2, ← hL3, ← hL4, hX, hY, c19]; rfl
   dsimp only
   rw [s1, s2]
   conv => whnf
   first | refine brT (by rfl) ?_ | fail
   conv => whnf
   repeat (first | (refine Exists.intro _ (And.intro (sload_all rfl (by rfl)) ?_); conv => whnf) | (refine Exists.intro _ (And.intro rfl ?_); conv => whnf) | (refine And.intro (by omega) ?_; conv => whnf) | fail)
   refine loop_rounds ttOk mixed (by kernel_rfl) 6 ?_
   conv => whnf
   repeat (first | (refine brT rfl ?_; conv => whnf) | (refine brF rfl ?_; conv => whnf) | (refine Exists.intro _ (And.intro rfl ?_); conv => whnf) | (refine And.intro (by omega) ?_; conv => whnf) | fail)
   refine ok1_callF [] [] true (f86 _ _) rfl rfl ⟨⟨rfl, by rfl⟩, trivial, by rfl, by rfl, ?_⟩
   conv => whnf
   repeat (first | (refine Exists.intro _ (And.intro rfl ?_); conv => whnf) | (refine And.intro (Nat.le_of_ble_eq_true rfl) ?_; conv => whnf) | fail)
   refine add0 _ _ rfl rfl ?_
   conv => whnf
   repeat (first | (refine Exists.intro _ (And.intro rfl ?_); conv => whnf) | (refine And.intro (Nat.le_of_ble_eq_true rfl) ?_; conv => whnf) | (refine And.intro ⟨rfl, Nat.le_of_ble_eq_true rfl⟩ ?_; conv => whnf) | fail)
   refine addc _ _ _ _ rfl rfl (fun z => ?_)
   conv => whnf
   repeat (first | (refine brT rfl ?_; conv => whnf) | (refine brF rfl ?_; conv => whnf) | (refine Exists.intro _ (And.intro rfl ?_); conv => whnf) | (refine And.intro (Nat.le_of_ble_eq_true rfl) ?_; conv => whnf) | (refine And.intro ⟨rfl, Nat.le_of_ble_eq_true rfl⟩ ?_; conv => whnf) | fail)
   refine ok1_callF [] [] true (f86 _ _) rfl rfl ⟨⟨rfl, by rfl⟩, trivial, by rfl, by rfl, ?_⟩
   conv => whnf
   repeat (first | (refine Exists.intro _ (And.intro rfl ?_); conv => whnf) | (refine And.intro (Nat.le_of_ble_eq_true rfl) ?_; conv => whnf) | fail)
   refine add0 _ _ rfl rfl ?_
   conv => whnf
   repeat (first | (refine Exists.intro _ (And.intro rfl ?_); conv => whnf) | (refine And.intro (Nat.le_of_ble_eq_true rfl) ?_; conv => whnf) | (refine And.intro ⟨rfl, Nat.le_of_ble_eq_true rfl⟩ ?_; conv => whnf) | fail)
   refine addc _ _ _ _ rfl rfl (fun z => ?_)
   conv => whnf
   repeat (first | (refine brT rfl ?_; conv => whnf) | (refine Exists.intro _ (And.intro rfl ?_); conv => whnf) | (refine And.intro (Nat.le_of_ble_eq_true rfl) ?_; conv => whnf) | (refine And.intro ⟨rfl, Nat.le_of_ble_eq_true rfl⟩ ?_; conv => whnf) | fail)
   refine ok1_callF [] [] true (f86 _ _) rfl rfl ⟨⟨rfl, by rfl⟩, trivial, by rfl, by rfl, ?_⟩
   conv => whnf
   repeat (first | (refine Exists.intro _ (And.intro rfl ?_); conv => whnf) | (refine And.intro (Nat.le_of_ble_eq_true rfl) ?_; conv => whnf) | fail)
   refine add0 _ _ rfl rfl ?_
   conv => whnf
   repeat (first | (refine Exists.intro _ (And.intro rfl ?_); conv => whnf) | (refine And.intro (Nat.le_of_ble_eq_true rfl) ?_; conv => whnf) | (refine And.intro ⟨rfl, Nat.le_of_ble_eq_true rfl⟩ ?_; conv => whnf) | fail)
   refine addc _ _ _ _ rfl rfl (fun z => ?_)
   conv => whnf
   repeat (first | (refine brT rfl ?_; conv => whnf) | (refine Exists.intro _ (And.intro rfl ?_); conv => whnf) | (refine And.intro (Nat.le_of_ble_eq_true rfl) ?_; conv => whnf) | (refine And.intro ⟨rfl, Nat.le_of_ble_eq_true rfl⟩ ?_; conv => whnf) | fail)
   refine ok1_callF [] [] true (f86 _ _) rfl rfl ⟨⟨rfl, by rfl⟩, trivial, by rfl, by rfl, ?_⟩
   conv => whnf
   repeat (first | (refine Exists.intro _ (And.intro rfl ?_); conv => whnf) | (refine And.intro (Nat.le_of_ble_eq_true rfl) ?_; conv => whnf) | fail)
   refine add0 _ _ rfl rfl ?_
   conv => whnf
   repeat (first | (refine Exists.intro _ (And.intro rfl ?_); conv => whnf) | (refine And.intro (Nat.le_of_ble_eq_true rfl) ?_; conv => whnf) | (refine And.intro ⟨rfl, Nat.le_of_ble_eq_true rfl⟩ ?_; conv => whnf) | fail)
   refine addc _ _ _ _ rfl rfl (fun z => ?_)
   conv => whnf
   repeat (first | (refine brT rfl ?_; conv => whnf) | (refine Exists.intro _ (And.intro rfl ?_); conv => whnf) | (refine And.intro (Nat.le_of_ble_eq_true rfl) ?_; conv => whnf) | (refine And.intro ⟨rfl, Nat.le_of_ble_eq_true rfl⟩ ?_; conv => whnf) | fail)
   refine ok1_callF [] [] true (f86 _ _) rfl rfl ⟨⟨rfl, by rfl⟩, trivial, by rfl, by rfl, ?_⟩
   conv => whnf
   repeat (first | (refine Exists.intro _ (And.intro rfl ?_); conv => whnf) | (refine And.intro (Nat.le_of_ble_eq_true rfl) ?_; conv => whnf) | fail)
   refine add0 _ _ rfl rfl ?_
   conv => whnf
   repeat (first | (refine Exists.intro _ (And.intro rfl ?_); conv => whnf) | (refine And.intro (Nat.le_of_ble_eq_true rfl) ?_; conv => whnf) | (refine And.intro ⟨rfl, Nat.le_of_ble_eq_true rfl⟩ ?_; conv => whnf) | fail)
   refine addc _ _ _ _ rfl rfl (fun z => ?_)
   conv => whnf
   repeat (first | (refine brF rfl ?_; conv => whnf) | (refine Exists.intro _ (And.intro rfl ?_); conv => whnf) | (refine And.intro (Nat.le_of_ble_eq_true rfl) ?_; conv => whnf) | (refine And.intro ⟨rfl, Nat.le_of_ble_eq_true rfl⟩ ?_; conv => whnf) | fail)
   refine ⟨⟨4, by omega⟩, by simp only; omega, ?_⟩
   dsimp only
   rw [e1, e2]
   refine Weak.sel [0, 1, 2, 3, 4] rfl rfl ?_ ?_ rfl rfl
   ·
    (repeat' (first | exact trivial | refine And.intro ?_ ?_ | (refine wk_agg ?_) | (refine wk_cons ?_ ?_))) <;> first | rfl | fail
   ·
    (repeat' (first | exact trivial | refine And.intro ?_ ?_ | (refine wk_cons ?_ ?_))) <;> first | rfl | fail
  ·
   obtain ⟨H0, hH0⟩ : ∃ z, z = hi X Y 4 0 := ⟨_, rfl⟩
   obtain ⟨L0, hL0⟩ : ∃ z, z = lo X Y 4 0 := ⟨_, rfl⟩
   obtain ⟨H1, hH1⟩ : ∃ z, z = hi X Y 4 1 := ⟨_, rfl⟩
   obtain ⟨L1, hL1⟩ : ∃ z, z = lo X Y 4 1 := ⟨_, rfl⟩
   obtain ⟨H2, hH2⟩ : ∃ z, z = hi X Y 4 2 := ⟨_, rfl⟩
   obtain ⟨L2, hL2⟩ : ∃ z, z = lo X Y 4 2 := ⟨_, rfl⟩
   obtain ⟨H3, hH3⟩ : ∃ z, z = hi X Y 4 3 := ⟨_, rfl⟩
   obtain ⟨L3, hL3⟩ : ∃ z, z = lo X Y 4 3 := ⟨_, rfl⟩
   obtain ⟨H4, hH4⟩ : ∃ z, z = hi X Y 4 4 := ⟨_, rfl⟩
   obtain ⟨L4, hL4⟩ : ∃ z, z = lo X Y 4 4 := ⟨_, rfl⟩
   have s1 : hiL X Y 4 = [H0, H1, H2, H3, H4] := by rw [hH0, hH1, hH2, hH3, hH4]; rfl
   have s2 : loL X Y 4 = [L0, L1, L2, L3, L4] := by rw [hL0, hL1, hL2, hL3, hL4]; rfl
   have e1 : hiL X Y 5 = [H0 + mhi e (g * UInt64.ofNat (Int.toNat 19)) + cy L0 (e * (g * UInt64.ofNat (Int.toNat 19))), H1 + mhi e (h * UInt64.ofNat (Int.toNat 19)) + cy L1 (e * (h * UInt64.ofNat (Int.toNat 19))), H2 + mhi e (i * UInt64.ofNat (Int.toNat 19)) + cy L2 (e * (i * UInt64.ofNat (Int.toNat 19))), H3 + mhi e (j * UInt64.ofNat (Int.toNat 19)) + cy L3 (e * (j * UInt64.ofNat (Int.toNat 19))), H4 + mhi e f + cy L4 (e * f)] := by rw [hiL_s, ← hH0, ← hH1, ← hH2, ← hH3, ← hH4, ← hL0, ← hL1, ← hL2, ← hL3, ← hL4, hX, hY, c19]; rfl
   have e2 : loL X Y 5 = [L0 + e * (g * UInt64.ofNat (Int.toNat 19)), L1 + e * (h * UInt64.ofNat (Int.toNat 19)), L2 + e * (i * UInt64.ofNat (Int.toNat 19)), L3 + e * (j * UInt64.ofNat (Int.toNat 19)), L4 + e * f] := by rw [loL_s, ← hL0, ← hL1, ← hL2, ← hL3, ← hL4, hX, hY, c19]; rfl
   dsimp only
   rw [s1, s2]
   conv => whnf
   first | refine brT (by rfl) ?_ | fail
   conv => whnf
   repeat (first | (refine Exists.intro _ (And.intro (sload_all rfl (by rfl)) ?_); conv => whnf) | (refine Exists.intro _ (And.intro rfl ?_); conv => whnf) | (refine And.intro (by omega) ?_; conv => whnf) | fail)
   refine loop_rounds ttOk mixed (by kernel_rfl) 6 ?_
   conv => whnf
   repeat (first | (refine brT rfl ?_; conv => whnf) | (refine brF rfl ?_; conv => whnf) | (refine Exists.intro _ (And.intro rfl ?_); conv => whnf) | (refine And.intro (by omega) ?_; conv => whnf) | fail)
   refine ok1_callF [] [] true (f86 _ _) rfl rfl ⟨⟨rfl, by rfl⟩, trivial, by rfl, by rfl, ?_⟩
   conv => whnf
   repeat (first | (refine Exists.intro _ (And.intro rfl ?_); conv => whnf) | (refine And.intro (Nat.le_of_ble_eq_true rfl) ?_; conv => whnf) | fail)
   refine add0 _ _ rfl rfl ?_
   conv => whnf
   repeat (first | (refine Exists.intro _ (And.intro rfl ?_); conv => whnf) | (refine And.intro (Nat.le_of_ble_eq_true rfl) ?_; conv => whnf) | (refine And.intro ⟨rfl, Nat.le_of_ble_eq_true rfl⟩ ?_; conv => whnf) | fail)
   refine addc _ _ _ _ rfl rfl (fun z => ?_)
   conv => whnf
   repeat (first | (refine brT rfl ?_; conv => whnf) | (refine Exists.intro _ (And.intro rfl ?_); conv => whnf) | (refine And.intro (Nat.le_of_ble_eq_true rfl) ?_; conv => whnf) | (refine And.intro ⟨rfl, Nat.le_of_ble_eq_true rfl⟩ ?_; conv => whnf) | fail)
   refine ok1_callF [] [] true (f86 _ _) rfl rfl ⟨⟨rfl, by rfl⟩, trivial, by rfl, by rfl, ?_⟩
   conv => whnf
   repeat (first | (refine Exists.intro _ (And.intro rfl ?_); conv => whnf) | (refine And.intro (Nat.le_of_ble_eq_true rfl) ?_; conv => whnf) | fail)
   refine add0 _ _ rfl rfl ?_
   conv => whnf
   repeat (first | (refine Exists.intro _ (And.intro rfl ?_); conv => whnf) | (refine And.intro (Nat.le_of_ble_eq_true rfl) ?_; conv => whnf) | (refine And.intro ⟨rfl, Nat.le_of_ble_eq_true rfl⟩ ?_; conv => whnf) | fail)
   refine addc _ _ _ _ rfl rfl (fun z => ?_)
   conv => whnf
   repeat (first | (refine brT rfl ?_; conv => whnf) | (refine Exists.intro _ (And.intro rfl ?_); conv => whnf) | (refine And.intro (Nat.le_of_ble_eq_true rfl) ?_; conv => whnf) | (refine And.intro ⟨rfl, Nat.le_of_ble_eq_true rfl⟩ ?_; conv => whnf) | fail)
   refine ok1_callF [] [] true (f86 _ _) rfl rfl ⟨⟨rfl, by rfl⟩, trivial, by rfl, by rfl, ?_⟩
   conv => whnf
   repeat (first | (refine Exists.intro _ (And.intro rfl ?_); conv => whnf) | (refine And.intro (Nat.le_of_ble_eq_true rfl) ?_; conv => whnf) | fail)
   refine add0 _ _ rfl rfl ?_
   conv => whnf
   repeat (first | (refine Exists.intro _ (And.intro rfl ?_); conv => whnf) | (refine And.intro (Nat.le_of_ble_eq_true rfl) ?_; conv => whnf) | (refine And.intro ⟨rfl, Nat.le_of_ble_eq_true rfl⟩ ?_; conv => whnf) | fail)
   refine addc _ _ _ _ rfl rfl (fun z => ?_)
   conv => whnf
   repeat (first | (refine brT rfl ?_; conv => whnf) | (refine Exists.intro _ (And.intro rfl ?_); conv => whnf) | (refine And.intro (Nat.le_of_ble_eq_true rfl) ?_; conv => whnf) | (refine And.intro ⟨rfl, Nat.le_of_ble_eq_true rfl⟩ ?_; conv => whnf) | fail)
   refine ok1_callF [] [] true (f86 _ _) rfl rfl ⟨⟨rfl, by rfl⟩, trivial, by rfl, by rfl, ?_⟩
   conv => whnf
   repeat (first | (refine Exists.intro _ (And.intro rfl ?_); conv => whnf) | (refine And.intro (Nat.le_of_ble_eq_true rfl) ?_; conv => whnf) | fail)
   refine add0 _ _ rfl rfl ?_
   conv => whnf
   repeat (first | (refine Exists.intro _ (And.intro rfl ?_); conv => whnf) | (refine And.intro (Nat.le_of_ble_eq_true rfl) ?_; conv => whnf) | (refine And.intro ⟨rfl, Nat.le_of_ble_eq_true rfl⟩ ?_; conv => whnf) | fail)
   refine addc _ _ _ _ rfl rfl (fun z => ?_)
   conv => whnf
   repeat (first | (refine brT rfl ?_; conv => whnf) | (refine Exists.intro _ (And.intro rfl ?_); conv => whnf) | (refine And.intro (Nat.le_of_ble_eq_true rfl) ?_; conv => whnf) | (refine And.intro ⟨rfl, Nat.le_of_ble_eq_true rfl⟩ ?_; conv => whnf) | fail)
   refine ok1_callF [] [] true (f86 _ _) rfl rfl ⟨⟨rfl, by rfl⟩, trivial, by rfl, by rfl, ?_⟩
   conv => whnf
   repeat (first | (refine Exists.intro _ (And.intro rfl ?_); conv => whnf) | (refine And.intro (Nat.le_of_ble_eq_true rfl) ?_; conv => whnf) | fail)
   refine add0 _ _ rfl rfl ?_
   conv => whnf
   repeat (first | (refine Exists.intro _ (And.intro rfl ?_); conv => whnf) | (refine And.intro (Nat.le_of_ble_eq_true rfl) ?_; conv => whnf) | (refine And.intro ⟨rfl, Nat.le_of_ble_eq_true rfl⟩ ?_; conv => whnf) | fail)
   refine addc _ _ _ _ rfl rfl (fun z => ?_)
   conv => whnf
   repeat (first | (refine brF rfl ?_; conv => whnf) | (refine Exists.intro _ (And.intro rfl ?_); conv => whnf) | (refine And.intro (Nat.le_of_ble_eq_true rfl) ?_; conv => whnf) | (refine And.intro ⟨rfl, Nat.le_of_ble_eq_true rfl⟩ ?_; conv => whnf) | fail)
   refine ⟨⟨5, by omega⟩, by simp only; omega, ?_⟩
   dsimp only
   rw [e1, e2]
   refine Weak.sel [0, 1, 2, 3, 4] rfl rfl ?_ ?_ rfl rfl
   ·
    (repeat' (first | exact trivial | refine And.intro ?_ ?_ | (refine wk_agg ?_) | (refine wk_cons ?_ ?_))) <;> first | rfl | fail
   ·
    (repeat' (first | exact trivial | refine And.intro ?_ ?_ | (refine wk_cons ?_ ?_))) <;> first | rfl | fail
  ·
   obtain ⟨H0, hH0⟩ : ∃ z, z = hi X Y 5 0 := ⟨_, rfl⟩
   obtain ⟨H1, hH1⟩ : ∃ z, z = hi X Y 5 1 := ⟨_, rfl⟩
   obtain ⟨H2, hH2⟩ : ∃ z, z = hi X Y 5 2 := ⟨_, rfl⟩
   obtain ⟨H3, hH3⟩ : ∃ z, z = hi X Y 5 3 := ⟨_, rfl⟩
   obtain ⟨H4, hH4⟩ : ∃ z, z = hi X Y 5 4 := ⟨_, rfl⟩
   obtain ⟨L0, hL0⟩ : ∃ z, z = lo X Y 5 0 := ⟨_, rfl⟩
   obtain ⟨L1, hL1⟩ : ∃ z, z = lo X Y 5 1 := ⟨_, rfl⟩
   obtain ⟨L2, hL2⟩ : ∃ z, z = lo X Y 5 2 := ⟨_, rfl⟩
   obtain ⟨L3, hL3⟩ : ∃ z, z = lo X Y 5 3 := ⟨_, rfl⟩
   obtain ⟨L4, hL4⟩ : ∃ z, z = lo X Y 5 4 := ⟨_, rfl⟩
   have s1 : hiL X Y 5 = [H0, H1, H2, H3, H4] := by rw [hH0, hH1, hH2, hH3, hH4]; rfl
   have s2 : loL X Y 5 = [L0, L1, L2, L3, L4] := by rw [hL0, hL1, hL2, hL3, hL4]; rfl
   dsimp only
   rw [s1, s2]
   conv => whnf
   first | refine brF (by rfl) ?_ | fail
   conv => whnf
   refine loop_rule ttOk mixed (by kernel_rfl) (ι := { k : Nat // k ≤ 5 }) (fun k => [(4, .p 2 0), (5, .p 3 0), (6, .p 4 0), (15, .p 5 0), (16, .u64 (cO X Y k.1)), (72, .i (k.1 : Int))]) (fun k => [none, none, some (.box (List.replicate 5 (.u64 0))), some (.box [.u64 H0, .u64 H1, .u64 H2, .u64 H3, .u64 H4]), some (.box [.u64 L0, .u64 L1, .u64 L2, .u64 L3, .u64 L4]), some (.box ((ouL X Y k.1).map .u64))]) (fun _ => 6) (fun k => 5 - k.1) ⟨0, by omega⟩ ?_ ?_
   ·
    have hz : ouL X Y 0 = [0, 0, 0, 0, 0] := rfl
    have hz2 : cO X Y 0 = 0 := cO_z X Y
    dsimp only
    rw [hz, hz2]
    refine Weak.sel [0, 1, 2, 3, 4, 5] rfl rfl ?_ ?_ rfl rfl
    ·
     (repeat' (first | exact trivial | refine And.intro ?_ ?_ | fail)) <;> first | rfl | fail
    ·
     (repeat' (first | exact trivial | refine And.intro ?_ ?_ | (refine wk_cons ?_ ?_))) <;> first | rfl | fail
   ·
    rintro ⟨k, hk⟩
    have h6 : k = 0 ∨ k = 1 ∨ k = 2 ∨ k = 3 ∨ k = 4 ∨ k = 5 := by omega
    rcases h6 with rfl | rfl | rfl | rfl | rfl | rfl
    ·
     obtain ⟨C, hC⟩ : ∃ z, z = cO X Y 0 := ⟨_, rfl⟩
     have t1 : ouL X Y 0 = [0, 0, 0, 0, 0] := by rfl
     have t2 : ouL X Y 1 = [(L0 + C) &&& UInt64.ofNat (Int.toNat 2251799813685247), 0, 0, 0, 0] := by rw [hC, hL0, cM]; rfl
     have t3 : cO X Y 1 = shl64 (H0 + cy L0 C) 13 ||| shr64 (L0 + C) 51 := by rw [cO_s, ← hC, ← hH0, ← hL0]
     dsimp only
     rw [t1, ← hC]
     conv => whnf
     first | refine brT (by rfl) ?_ | fail
     conv => whnf
     repeat (first | (refine Exists.intro _ (And.intro rfl ?_); conv => whnf) | (refine And.intro (by omega) ?_; conv => whnf) | fail)
     refine add0 _ _ rfl rfl ?_
     conv => whnf
     repeat (first | (refine Exists.intro _ (And.intro rfl ?_); conv => whnf) | (refine And.intro (by first | omega | (simp; done) | fail) ?_; conv => whnf) | fail)
     refine ⟨⟨1, by omega⟩, by simp only; omega, ?_⟩
     dsimp only
     rw [t2, t3]
     refine Weak.sel [0, 1, 2, 3, 4, 5] rfl rfl ?_ ?_ rfl rfl
     ·
      (repeat' (first | exact trivial | refine And.intro ?_ ?_ | fail)) <;> first | rfl | fail
     ·
      (repeat' (first | exact trivial | refine And.intro ?_ ?_ | (refine wk_cons ?_ ?_))) <;> first | rfl | fail
    ·
     obtain ⟨C, hC⟩ : ∃ z, z = cO X Y 1 := ⟨_, rfl⟩
     obtain ⟨O0, hO0⟩ : ∃ z, z = oO X Y 0 := ⟨_, rfl⟩
     have t1 : ouL X Y 1 = [O0, 0, 0, 0, 0] := by rw [hO0]; rfl
     have t2 : ouL X Y 2 = [O0, (L1 + C) &&& UInt64.ofNat (Int.toNat 2251799813685247), 0, 0, 0] := by rw [hO0, hC, hL1, cM]; rfl
     have t3 : cO X Y 2 = shl64 (H1 + cy L1 C) 13 ||| shr64 (L1 + C) 51 := by rw [cO_s, ← hC, ← hH1, ← hL1]
     dsimp only
     rw [t1, ← hC]
     conv => whnf
     first | refine brT (by rfl) ?_ | fail
     conv => whnf
     repeat (first | (refine Exists.intro _ (And.intro rfl ?_); conv => whnf) | (refine And.intro (by omega) ?_; conv => whnf) | fail)
     refine add0 _ _ rfl rfl ?_
     conv => whnf
     repeat (first | (refine Exists.intro _ (And.intro rfl ?_); conv => whnf) | (refine And.intro (by first | omega | (simp; done) | fail) ?_; conv => whnf) | fail)
     refine ⟨⟨2, by omega⟩, by simp only; omega, ?_⟩
     dsimp only
     rw [t2, t3]
     refine Weak.sel [0, 1, 2, 3, 4, 5] rfl rfl ?_ ?_ rfl rfl
     ·
      (repeat' (first | exact trivial | refine And.intro ?_ ?_ | fail)) <;> first | rfl | fail
     ·
      (repeat' (first | exact trivial | refine And.intro ?_ ?_ | (refine wk_cons ?_ ?_))) <;> first | rfl | fail
    ·
     obtain ⟨C, hC⟩ : ∃ z, z = cO X Y 2 := ⟨_, rfl⟩
     obtain ⟨O0, hO0⟩ : ∃ z, z = oO X Y 0 := ⟨_, rfl⟩
     obtain ⟨O1, hO1⟩ : ∃ z, z = oO X Y 1 := ⟨_, rfl⟩
     have t1 : ouL X Y 2 = [O0, O1, 0, 0, 0] := by rw [hO0, hO1]; rfl
     have t2 : ouL X Y 3 = [O0, O1, (L2 + C) &&& UInt64.ofNat (Int.toNat 2251799813685247), 0, 0] := by rw [hO0, hO1, hC, hL2, cM]; rfl
     have t3 : cO X Y 3 = shl64 (H2 + cy L2 C) 13 ||| shr64 (L2 + C) 51 := by rw [cO_s, ← hC, ← hH2, ← hL2]
     dsimp only
     rw [t1, ← hC]
     conv => whnf
     first | refine brT (by rfl) ?_ | fail
     conv => whnf
     repeat (first | (refine Exists.intro _ (And.intro rfl ?_); conv => whnf) | (refine And.intro (by omega) ?_; conv => whnf) | fail)
     refine add0 _ _ rfl rfl ?_
     conv => whnf
     repeat (first | (refine Exists.intro _ (And.intro rfl ?_); conv => whnf) | (refine And.intro (by first | omega | (simp; done) | fail) ?_; conv => whnf) | fail)
     refine ⟨⟨3, by omega⟩, by simp only; omega, ?_⟩
     dsimp only
     rw [t2, t3]
     refine Weak.sel [0, 1, 2, 3, 4, 5] rfl rfl ?_ ?_ rfl rfl
     ·
      (repeat' (first | exact trivial | refine And.intro ?_ ?_ | fail)) <;> first | rfl | fail
     ·
      (repeat' (first | exact trivial | refine And.intro ?_ ?_ | (refine wk_cons ?_ ?_))) <;> first | rfl | fail
    ·
     obtain ⟨C, hC⟩ : ∃ z, z = cO X Y 3 := ⟨_, rfl⟩
     obtain ⟨O0, hO0⟩ : ∃ z, z = oO X Y 0 := ⟨_, rfl⟩
     obtain ⟨O1, hO1⟩ : ∃ z, z = oO X Y 1 := ⟨_, rfl⟩
     obtain ⟨O2, hO2⟩ : ∃ z, z = oO X Y 2 := ⟨_, rfl⟩
     have t1 : ouL X Y 3 = [O0, O1, O2, 0, 0] := by rw [hO0, hO1, hO2]; rfl
     have t2 : ouL X Y 4 = [O0, O1, O2, (L3 + C) &&& UInt64.ofNat (Int.toNat 2251799813685247), 0] := by rw [hO0, hO1, hO2, hC, hL3, cM]; rfl
     have t3 : cO X Y 4 = shl64 (H3 + cy L3 C) 13 ||| shr64 (L3 + C) 51 := by rw [cO_s, ← hC, ← hH3, ← hL3]
     dsimp only
     rw [t1, ← hC]
     conv => whnf
     first | refine brT (by rfl) ?_ | fail
     conv => whnf
     repeat (first | (refine Exists.intro _ (And.intro rfl ?_); conv => whnf) | (refine And.intro (by omega) ?_; conv => whnf) | fail)
     refine add0 _ _ rfl rfl ?_
     conv => whnf
     repeat (first | (refine Exists.intro _ (And.intro rfl ?_); conv => whnf) | (refine And.intro (by first | omega | (simp; done) | fail) ?_; conv => whnf) | fail)
     refine ⟨⟨4, by omega⟩, by simp only; omega, ?_⟩
     dsimp only
     rw [t2, t3]
     refine Weak.sel [0, 1, 2, 3, 4, 5] rfl rfl ?_ ?_ rfl rfl
     ·
      (repeat' (first | exact trivial | refine And.intro ?_ ?_ | fail)) <;> first | rfl | fail
     ·
      (repeat' (first | exact trivial | refine And.intro ?_ ?_ | (refine wk_cons ?_ ?_))) <;> first | rfl | fail
    ·
     obtain ⟨C, hC⟩ : ∃ z, z = cO X Y 4 := ⟨_, rfl⟩
     obtain ⟨O0, hO0⟩ : ∃ z, z = oO X Y 0 := ⟨_, rfl⟩
     obtain ⟨O1, hO1⟩ : ∃ z, z = oO X Y 1 := ⟨_, rfl⟩
     obtain ⟨O2, hO2⟩ : ∃ z, z = oO X Y 2 := ⟨_, rfl⟩
     obtain ⟨O3, hO3⟩ : ∃ z, z = oO X Y 3 := ⟨_, rfl⟩
     have t1 : ouL X Y 4 = [O0, O1, O2, O3, 0] := by rw [hO0, hO1, hO2, hO3]; rfl
     have t2 : ouL X Y 5 = [O0, O1, O2, O3, (L4 + C) &&& UInt64.ofNat (Int.toNat 2251799813685247)] := by rw [hO0, hO1, hO2, hO3, hC, hL4, cM]; rfl
     have t3 : cO X Y 5 = shl64 (H4 + cy L4 C) 13 ||| shr64 (L4 + C) 51 := by rw [cO_s, ← hC, ← hH4, ← hL4]
     dsimp only
     rw [t1, ← hC]
     conv => whnf
     first | refine brT (by rfl) ?_ | fail
     conv => whnf
     repeat (first | (refine Exists.intro _ (And.intro rfl ?_); conv => whnf) | (refine And.intro (by omega) ?_; conv => whnf) | fail)
     refine add0 _ _ rfl rfl ?_
     conv => whnf
     repeat (first | (refine Exists.intro _ (And.intro rfl ?_); conv => whnf) | (refine And.intro (by first | omega | (simp; done) | fail) ?_; conv => whnf) | fail)
     refine ⟨⟨5, by omega⟩, by simp only; omega, ?_⟩
     dsimp only
     rw [t2, t3]
     refine Weak.sel [0, 1, 2, 3, 4, 5] rfl rfl ?_ ?_ rfl rfl
     ·
      (repeat' (first | exact trivial | refine And.intro ?_ ?_ | fail)) <;> first | rfl | fail
     ·
      (repeat' (first | exact trivial | refine And.intro ?_ ?_ | (refine wk_cons ?_ ?_))) <;> first | rfl | fail
    ·
     obtain ⟨C, hC⟩ : ∃ z, z = cO X Y 5 := ⟨_, rfl⟩
     obtain ⟨O0, hO0⟩ : ∃ z, z = oO X Y 0 := ⟨_, rfl⟩
     obtain ⟨O1, hO1⟩ : ∃ z, z = oO X Y 1 := ⟨_, rfl⟩
     obtain ⟨O2, hO2⟩ : ∃ z, z = oO X Y 2 := ⟨_, rfl⟩
     obtain ⟨O3, hO3⟩ : ∃ z, z = oO X Y 3 := ⟨_, rfl⟩
     obtain ⟨O4, hO4⟩ : ∃ z, z = oO X Y 4 := ⟨_, rfl⟩
     have t1 : ouL X Y 5 = [O0, O1, O2, O3, O4] := by rw [hO0, hO1, hO2, hO3, hO4]; rfl
     have t2 : mulL [a, b, c, d, e] [f, g, h, i, j] = carL [O0 + UInt64.ofNat (Int.toNat 19) * C, O1, O2, O3, O4] := by rw [mulL_eq, ← hX, ← hY, hO0, hO1, hO2, hO3, hO4, hC, c19]
     have hcl := fun m0 m1 m2 m3 m4 => carL_len [m0, m1, m2, m3, m4]
     rw [t2]
     dsimp only
     rw [t1, ← hC]
     conv => whnf
     first | refine brF (by rfl) ?_ | fail
     conv => whnf
     repeat (first | (refine Exists.intro _ (And.intro (sload_all rfl (by rfl)) ?_); conv => whnf) | (refine Exists.intro _ (And.intro rfl ?_); conv => whnf) | (refine And.intro (by first | omega | (simp; done) | fail) ?_; conv => whnf) | fail)
     refine ok1_callF [] [] true (f85x _ _ _ _ _) rfl rfl ⟨⟨rfl, by rfl⟩, trivial, by rfl, by first | simp [plainRf, plainR, plainT, plainW], ?_⟩
     conv => whnf
     repeat (first | (refine Exists.intro _ (And.intro (sload_all rfl (by first | rfl | (simp [hcl]; done) | fail)) ?_); conv => whnf) | (refine Exists.intro _ (And.intro (sput_all rfl (by first | rfl | (simp [hcl]; done) | fail)) ?_); conv => whnf) | (refine And.intro ⟨by first | (simp [hcl]; done) | fail, by first | (simp [hcl]; done) | fail⟩ ?_; conv => whnf) | fail)
     refine ⟨[], ?_, rfl, rfl, ?_, rfl⟩
     ·
      (repeat' (first | (refine wk_agg ?_) | fail)) <;> first | exact ren_eq (by first | (simp; done) | fail) (by rfl) | fail
     ·
      (repeat' (first | exact trivial | fail)) <;> fail
end Go.Sh
namespace Go.Sh
open Go.Proofs
set_option maxHeartbeats 8000000
theorem eqcs_u8 : ∀ (l m : List UInt8), eqcs (l.map SV.u8) (m.map SV.u8) = true → l.length = m.length → l = m
 | [], [], _, _ => rfl
 | a :: l, b :: m, h, hl => by
  simp only [List.map_cons, eqcs, eqc, Bool.and_eq_true, beq_iff_eq] at h
  rw [h.1, eqcs_u8 l m h.2 (by simpa using hl)]
theorem eqcs_refl : ∀ (l : List UInt8), eqcs (l.map SV.u8) (l.map SV.u8) = true
 | [] => rfl
 | a :: l => by simp only [List.map_cons, eqcs, eqc, beq_self_eq_true, Bool.true_and]; exact eqcs_refl l
theorem eqcs_dec (l m : List UInt8) (h : l.length = m.length) : eqcs (l.map SV.u8) (m.map SV.u8) = decide (l = m) := by
 by_cases hlm : l = m
 ·
  subst hlm; simp [eqcs_refl]
 ·
  rw [decide_eq_false hlm]
  cases hc : eqcs (l.map SV.u8) (m.map SV.u8) with
  | false => rfl
  | true => exact absurd (eqcs_u8 l m hc h) hlm
theorem kd_u8n {n : Nat} (l : List UInt8) (h : l.length = n) : List.map kd (List.map SV.u8 l) = List.map some (List.replicate n 1) := by
 subst h
 induction l with
 | nil => rfl
 | cons a l ih => simp only [List.map_cons, List.length_cons, List.replicate_succ, ih]; rfl
def iwL (x : List UInt64) : Nat → List UInt64
 | 0 => smallL 1
 | k + 1 => if k = 250 ∨ k = 252 then mulL (iwL x k) (iwL x k) else mulL (mulL (iwL x k) (iwL x k)) x
def invL (x : List UInt64) : List UInt64 := iwL x 255
theorem Nm_small (n : UInt32) : Nm (smallL n) ∧ nr (smallL n) = n.toNat := by
 have h := UInt32.toNat_lt n
 have e : n.toUInt64.toNat = n.toNat := UInt32.toNat_toUInt64 n
 refine ⟨⟨rfl, ?_⟩, ?_⟩
 ·
  unfold smallL
  simp only [List.mem_cons, List.not_mem_nil, or_false, forall_eq_or_imp, forall_eq, e]
  refine ⟨by omega, by decide, by decide, by decide, by decide⟩
 ·
  unfold nr smallL
  rw [nv_5, e, Nat.mod_eq_of_lt]
  ·
   show n.toNat + 2251799813685248 * 0 + 5070602400912917605986812821504 * 0 + 11417981541647679048466287755595961091061972992 * 0 + 25711008708143844408671393477458601640355247900524685364822016 * 0 = _
   omega
  ·
   show n.toNat + 2251799813685248 * 0 + 5070602400912917605986812821504 * 0 + 11417981541647679048466287755595961091061972992 * 0 + 25711008708143844408671393477458601640355247900524685364822016 * 0 < P25519
   have : 4294967296 < P25519 := by decide
   omega
theorem iwL_ok {x : List UInt64} (hx : Nm x) : ∀ k, Nm (iwL x k) ∧ nr (iwL x k) = pw (nr x) k
 | 0 => ⟨(Nm_small 1).1, (Nm_small 1).2⟩
 | k + 1 => by
  obtain ⟨h1, h2⟩ := iwL_ok hx k
  obtain ⟨m1, m2⟩ := mulL_ok h1 h1
  show Nm (if k = 250 ∨ k = 252 then _ else _) ∧ nr (if k = 250 ∨ k = 252 then _ else _) = if k = 250 ∨ k = 252 then _ else _
  by_cases hk : k = 250 ∨ k = 252
  ·
   rw [if_pos hk, if_pos hk, m2, h2]
   exact ⟨m1, rfl⟩
  ·
   obtain ⟨n1, n2⟩ := mulL_ok m1 hx
   rw [if_neg hk, if_neg hk, n2, m2, h2]
   exact ⟨n1, rfl⟩
theorem iwL_z (x : List UInt64) : iwL x 0 = smallL 1 := rfl
theorem iwL_s (x : List UInt64) (k : Nat) : iwL x (k + 1) = if k = 250 ∨ k = 252 then mulL (iwL x k) (iwL x k) else mulL (mulL (iwL x k) (iwL x k)) x := rfl
theorem mulL_len (x y : List UInt64) : (mulL x y).length = 5 := rfl
theorem iwL_len (x : List UInt64) : ∀ k, (iwL x k).length = 5
 | 0 => rfl
 | k + 1 => by rw [iwL_s]; split <;> exact mulL_len ..
theorem invL_ok {x : List UInt64} (hx : Nm x) : Nm (invL x) ∧ nr (invL x) = invN (nr x) := iwL_ok hx 255
theorem f88 : SCall Tryz.prog 70 [] [] (.fn 78 []) [] := by
 refine scall_of ttOk (by kernel_rfl : Tryz.prog.funcs[70]? = some Tryz.f70) rfl rfl rfl ?_
 try simp only [List.length_cons, List.length_nil, Nat.zero_add, Nat.reduceAdd]
 refine sw_ok ttOk mixed (by kernel_rfl) ?_
 conv => whnf
 refine ⟨[], ?_, rfl, rfl, ?_, rfl⟩
 ·
  (repeat' (fail)) <;> first | rfl | fail
 ·
  (repeat' (first | exact trivial | fail)) <;> fail
attribute [local irreducible] mulL iwL
theorem f29 {x : List UInt64} (hx : x.length = 5) : SCall Tryz.prog 48 [.agg (x.map .u64)] [] (.agg ((invL x).map .u64)) [] := by
 have h22 := f22 1
 refine scall_of ttOk (by kernel_rfl : Tryz.prog.funcs[48]? = some Tryz.f48) rfl rfl rfl ?_
 try simp only [List.length_cons, List.length_nil, Nat.zero_add, Nat.reduceAdd]
 refine sw_ok ttOk mixed (by kernel_rfl) ?_
 conv => whnf
 refine ok1_callF [] [] true (h22) rfl rfl ⟨⟨rfl, by rfl⟩, trivial, by rfl, by rfl, ?_⟩
 conv => whnf
 repeat (first | (refine Exists.intro _ (And.intro (sput_all rfl (by rfl)) ?_); conv => whnf) | (refine And.intro ⟨rfl, Nat.le_of_ble_eq_true rfl⟩ ?_; conv => whnf) | fail)
 refine ok1_callF [] [] false (f88) rfl rfl ⟨⟨rfl, by rfl⟩, trivial, by rfl, by rfl, ?_⟩
 conv => whnf
 refine SWp.weak (R0 := [(1, .p 0 0), (2, .p 1 0), (3, .p 2 0), (6, .fn 78 [])]) (H0 := [some (.box (x.map .u64)), some (.box (List.replicate 5 (.u64 0))), some (.box ((iwL x 0).map .u64))]) (L0 := 3) ?_ ?_
 ·
  have hz : iwL x 0 = smallL 1 := iwL_z x
  rw [hz]
  refine Weak.sel [0, 1, 2] rfl rfl ?_ ?_ rfl rfl
  ·
   (repeat' (first | exact trivial | refine And.intro ?_ ?_ | fail)) <;> first | rfl | fail
  ·
   (repeat' (first | exact trivial | refine And.intro ?_ ?_ | (refine wk_cons ?_ ?_))) <;> first | rfl | exact ren_eq (by first | (simp; done) | fail) (by rfl) | fail
 refine range_named rfl rfl rfl (by kernel_rfl : Tryz.prog.funcs[78]? = some Tryz.f78) rfl rfl rfl rfl ?_
 intro asq bdq hasq hbdq
 refine sw_ok ttOk mixed (by kernel_rfl) ?_
 conv => whnf
 refine loop_rule ttOk mixed (by kernel_rfl) (ι := { m : Nat // m ≤ 255 }) (fun m => [(0, .yld 3), (2, .i ((m.1 : Int) - 1))]) (fun m => [some (.box (x.map .u64)), some (.box (List.replicate 5 (.u64 0))), some (.box ((iwL x (255 - m.1)).map .u64)), some (.obj (.loop [(1, .p 0 0), (3, .p 2 0)] Tryz.f48.ntmps [7] asq bdq))]) (fun _ => 4) (fun m => m.1) ⟨255, by omega⟩ ?_ ?_
 ·
  refine Weak.sel [0, 1, 2, 3] rfl rfl ?_ ?_ rfl rfl
  ·
   (repeat' (first | exact trivial | refine And.intro ?_ ?_ | fail)) <;> first | rfl | fail
  ·
   (repeat' (first | exact trivial | refine And.intro ?_ ?_ | (refine wk_cons ?_ ?_))) <;> first | rfl | exact ren_eq (by first | (simp; done) | fail) (by rfl) | fail
 ·
  rintro ⟨m, hm⟩
  dsimp only
  by_cases hm0 : 0 < m
  ·
   obtain ⟨k, rfl⟩ : ∃ k, m = k + 1 := ⟨m - 1, by omega⟩
   have hlt : decide ((((k + 1 : Nat) : Int) - 1) ≥ 0) = true := by simp
   have hp1 : w64 (((k + 1 : Nat) : Int) - 1 - 1) = (k : Int) - 1 := by simp only [w64_eq]; omega
   obtain ⟨A, hA⟩ : ∃ A, A = iwL x (255 - (k + 1)) := ⟨_, rfl⟩
   have hs := iwL_s x (255 - (k + 1))
   rw [show 255 - (k + 1) + 1 = 255 - k by omega, ← hA] at hs
   rw [← hA]
   have hAl : A.length = 5 := by rw [hA]; exact iwL_len ..
   by_cases h4 : k = 4 ∨ k = 2
   ·
    rw [if_pos (by omega)] at hs
    have h28a := f28 hAl hAl
    have hml := mulL_len A A
    rcases h4 with rfl | rfl
    ·
     have hlt : decide ((((4 + 1 : Nat) : Int) - 1) ≥ 0) = true := by simp
     conv => whnf
     first | refine brT (by rfl) ?_ | fail
     conv => whnf
     repeat (first | (refine brF rfl ?_; conv => whnf) | (refine Exists.intro _ (And.intro rfl ?_); conv => whnf) | fail)
     refine ok1_yield 3 [0, 2] [false, true, true] (syield_of (ps := [7]) (N := Tryz.f48.ntmps) (R0 := [(1, .p 1 0), (3, .p 2 0)]) (args0 := [.b (false)]) (ex := .normal) (H0t := [some (.box (x.map .u64)), some (.box (A.map .u64))]) (H1t := [some (.box (x.map .u64)), some (.box ((mulL A A).map .u64))]) (.inl rfl) rfl rfl rfl ?_) rfl rfl ⟨⟨rfl, by rfl⟩, by (repeat' (first | exact trivial | refine And.intro ?_ ?_)) <;> first | rfl | exact ren_eq (by first | (simp; done) | fail) (by rfl), by first | (simp [plainHf, plainB]; done) | fail, ?_⟩
     ·
      subst hasq
      subst hbdq
      refine sw_ok ttOk mixed (by kernel_rfl) ?_
      conv => whnf
      repeat (first | (refine And.intro (by first | omega | (simp; done) | fail) ?_; conv => whnf) | (refine And.intro (by kernel_rfl) ?_; conv => whnf) | fail)
      refine sw_ok ttOk mixed (by kernel_rfl) ?_
      conv => whnf
      repeat (first | (refine Exists.intro _ (And.intro (sload_all rfl (by first | rfl | (simp [hAl]; done) | fail)) ?_); conv => whnf) | fail)
      refine ok1_callF [] [] true (h28a) rfl rfl ⟨⟨rfl, by first | ((repeat' (first | exact wk_nil | exact ren_m64 rfl | (refine wk_agg ?_) | (refine wk_cons ?_ ?_))); done) | fail⟩, trivial, by rfl, by first | simp [plainRf, plainR, plainT, plainW], ?_⟩
      conv => whnf
      repeat (first | (refine brF rfl ?_; conv => whnf) | (refine Exists.intro _ (And.intro (sput_all rfl (by first | rfl | (simp [hAl, hml]; done) | fail)) ?_); conv => whnf) | (refine And.intro (by first | omega | (simp; done) | (simp; omega) | fail) ?_; conv => whnf) | (refine And.intro (by kernel_rfl) ?_; conv => whnf) | fail)
      exact ⟨[0, 1, 2], rfl, rfl, by (repeat' (first | exact trivial | refine And.intro ?_ ?_)) <;> first | exact ren_eq (by first | (simp; done) | fail) (by rfl) | fail, rfl⟩
     ·
      conv => whnf
      repeat (first | (refine brF rfl ?_; conv => whnf) | fail)
      refine ⟨⟨_, Nat.le_of_succ_le hm⟩, Nat.lt_succ_self _, ?_⟩
      dsimp only
      rw [hs]
      refine Weak.sel [0, 1, 2, 3] rfl rfl ?_ ?_ rfl rfl
      ·
       (repeat' (first | exact trivial | refine And.intro ?_ ?_ | fail)) <;> first | exact wk_i (by exact hp1) | rfl | fail
      ·
       (repeat' (first | exact trivial | refine And.intro ?_ ?_ | (refine wk_cons ?_ ?_))) <;> first | rfl | exact ren_eq (by first | (simp; done) | fail) (by rfl) | fail
    ·
     have hlt : decide ((((4 + 1 : Nat) : Int) - 1) ≥ 0) = true := by simp
     conv => whnf
     first | refine brT (by rfl) ?_ | fail
     conv => whnf
     repeat (first | (refine brT rfl ?_; conv => whnf) | (refine Exists.intro _ (And.intro rfl ?_); conv => whnf) | fail)
     refine ok1_yield 3 [0, 2] [false, true, true] (syield_of (ps := [7]) (N := Tryz.f48.ntmps) (R0 := [(1, .p 1 0), (3, .p 2 0)]) (args0 := [.b ((((2 + 1 : Nat) : Int) - 1 != 2))]) (ex := .normal) (H0t := [some (.box (x.map .u64)), some (.box (A.map .u64))]) (H1t := [some (.box (x.map .u64)), some (.box ((mulL A A).map .u64))]) (.inl rfl) rfl rfl rfl ?_) rfl rfl ⟨⟨rfl, by rfl⟩, by (repeat' (first | exact trivial | refine And.intro ?_ ?_)) <;> first | rfl | exact ren_eq (by first | (simp; done) | fail) (by rfl), by first | (simp [plainHf, plainB]; done) | fail, ?_⟩
     ·
      subst hasq
      subst hbdq
      refine sw_ok ttOk mixed (by kernel_rfl) ?_
      conv => whnf
      repeat (first | (refine And.intro (by first | omega | (simp; done) | fail) ?_; conv => whnf) | (refine And.intro (by kernel_rfl) ?_; conv => whnf) | fail)
      refine sw_ok ttOk mixed (by kernel_rfl) ?_
      conv => whnf
      repeat (first | (refine Exists.intro _ (And.intro (sload_all rfl (by first | rfl | (simp [hAl]; done) | fail)) ?_); conv => whnf) | fail)
      refine ok1_callF [] [] true (h28a) rfl rfl ⟨⟨rfl, by first | ((repeat' (first | exact wk_nil | exact ren_m64 rfl | (refine wk_agg ?_) | (refine wk_cons ?_ ?_))); done) | fail⟩, trivial, by rfl, by first | simp [plainRf, plainR, plainT, plainW], ?_⟩
      conv => whnf
      repeat (first | (refine brF rfl ?_; conv => whnf) | (refine Exists.intro _ (And.intro (sput_all rfl (by first | rfl | (simp [hAl, hml]; done) | fail)) ?_); conv => whnf) | (refine And.intro (by first | omega | (simp; done) | (simp; omega) | fail) ?_; conv => whnf) | (refine And.intro (by kernel_rfl) ?_; conv => whnf) | fail)
      exact ⟨[0, 1, 2], rfl, rfl, by (repeat' (first | exact trivial | refine And.intro ?_ ?_)) <;> first | exact ren_eq (by first | (simp; done) | fail) (by rfl) | fail, rfl⟩
     ·
      conv => whnf
      repeat (first | (refine brF rfl ?_; conv => whnf) | fail)
      refine ⟨⟨_, Nat.le_of_succ_le hm⟩, Nat.lt_succ_self _, ?_⟩
      dsimp only
      rw [hs]
      refine Weak.sel [0, 1, 2, 3] rfl rfl ?_ ?_ rfl rfl
      ·
       (repeat' (first | exact trivial | refine And.intro ?_ ?_ | fail)) <;> first | exact wk_i (by exact hp1) | rfl | fail
      ·
       (repeat' (first | exact trivial | refine And.intro ?_ ?_ | (refine wk_cons ?_ ?_))) <;> first | rfl | exact ren_eq (by first | (simp; done) | fail) (by rfl) | fail
   ·
    rw [if_neg (by omega)] at hs
    have g4 : (((k + 1 : Nat) : Int) - 1 != 4) = true := by simp; omega
    have g2 : (((k + 1 : Nat) : Int) - 1 != 2) = true := by simp; omega
    have h28a := f28 hAl hAl
    have h28b := f28 (mulL_len A A) hx
    have hml := mulL_len A A
    have hml2 := mulL_len (mulL A A) x
    conv => whnf
    first | refine brT (by exact hlt) ?_ | fail
    conv => whnf
    repeat (first | (refine gdT g4 ?_; conv => whnf) | (refine pkT g4 ?_; conv => whnf) | fail)
    refine ok1_yield 3 [0, 2] [false, true, true] (syield_of (ps := [7]) (N := Tryz.f48.ntmps) (R0 := [(1, .p 1 0), (3, .p 2 0)]) (args0 := [.b (((k + 1 : Nat) : Int) - 1 != 2)]) (ex := .normal) (H0t := [some (.box (x.map .u64)), some (.box (A.map .u64))]) (H1t := [some (.box (x.map .u64)), some (.box ((mulL (mulL A A) x).map .u64))]) (.inl rfl) rfl rfl rfl ?_) rfl rfl ⟨⟨rfl, by rfl⟩, by (repeat' (first | exact trivial | refine And.intro ?_ ?_)) <;> first | rfl | exact ren_eq (by first | (simp; done) | fail) (by rfl), by first | (simp [plainHf, plainB]; done) | fail, ?_⟩
    ·
     subst hasq
     subst hbdq
     refine sw_ok ttOk mixed (by kernel_rfl) ?_
     conv => whnf
     repeat (first | (refine And.intro (by first | omega | (simp; done) | fail) ?_; conv => whnf) | (refine And.intro (by kernel_rfl) ?_; conv => whnf) | fail)
     refine sw_ok ttOk mixed (by kernel_rfl) ?_
     conv => whnf
     repeat (first | (refine Exists.intro _ (And.intro (sload_all rfl (by first | rfl | (simp [hAl]; done) | fail)) ?_); conv => whnf) | fail)
     refine ok1_callF [] [] true (h28a) rfl rfl ⟨⟨rfl, by first | ((repeat' (first | exact wk_nil | exact ren_m64 rfl | (refine wk_agg ?_) | (refine wk_cons ?_ ?_))); done) | fail⟩, trivial, by rfl, by first | simp [plainRf, plainR, plainT, plainW], ?_⟩
     conv => whnf
     repeat (first | (refine Exists.intro _ (And.intro (sload_all rfl (by first | rfl | (simp [hAl, hml, hx]; done) | fail)) ?_); conv => whnf) | (refine Exists.intro _ (And.intro (sput_all rfl (by first | rfl | (simp [hAl, hml, hx]; done) | fail)) ?_); conv => whnf) | (refine gdT g2 ?_; conv => whnf) | (refine And.intro (by first | omega | (simp; omega) | fail) ?_; conv => whnf) | fail)
     refine ok1_callF [] [] true (h28b) rfl rfl ⟨⟨rfl, by first | ((repeat' (first | exact wk_nil | exact ren_m64 rfl | (refine wk_agg ?_) | (refine wk_cons ?_ ?_))); done) | fail⟩, trivial, by rfl, by first | simp [plainRf, plainR, plainT, plainW], ?_⟩
     conv => whnf
     repeat (first | (refine Exists.intro _ (And.intro (sput_all rfl (by first | rfl | (simp [hAl, hml, hml2]; done) | fail)) ?_); conv => whnf) | (refine And.intro (by first | omega | (simp; done) | (simp; omega) | fail) ?_; conv => whnf) | (refine And.intro (by kernel_rfl) ?_; conv => whnf) | fail)
     exact ⟨[0, 1, 2], rfl, rfl, by (repeat' (first | exact trivial | refine And.intro ?_ ?_)) <;> first | exact ren_eq (by first | (simp; done) | fail) (by rfl) | fail, rfl⟩
    ·
     conv => whnf
     repeat (first | (refine brF rfl ?_; conv => whnf) | fail)
     refine ⟨⟨k, by omega⟩, by simp only; omega, ?_⟩
     dsimp only
     rw [hs]
     refine Weak.sel [0, 1, 2, 3] rfl rfl ?_ ?_ rfl rfl
     ·
      (repeat' (first | exact trivial | refine And.intro ?_ ?_ | fail)) <;> first | exact wk_i (by first | exact hp1 | exact hp1.symm | fail) | rfl | fail
     ·
      (repeat' (first | exact trivial | refine And.intro ?_ ?_ | (refine wk_cons ?_ ?_))) <;> first | rfl | exact ren_eq (by first | (simp; done) | fail) (by rfl) | fail
  ·
   obtain rfl : m = 0 := by omega
   have hfin : iwL x (255 - 0) = invL x := rfl
   have hil : (invL x).length = 5 := iwL_len x 255
   rw [hfin]
   conv => whnf
   first | refine brF (by rfl) ?_ | fail
   conv => whnf
   repeat (first | (refine Exists.intro _ (And.intro (sload_all rfl (by first | rfl | (simp [hil]; done) | fail)) ?_); conv => whnf) | (refine Exists.intro _ (And.intro (sput_all rfl (by first | rfl | (simp [hil]; done) | fail)) ?_); conv => whnf) | (refine And.intro (by first | omega | (simp; omega) | fail) ?_; conv => whnf) | fail)
   refine ⟨[], ?_, rfl, rfl, ?_, rfl⟩
   ·
    (repeat' (first | (refine wk_agg ?_) | fail)) <;> first | exact ren_eq (by first | (simp; done) | fail) (by rfl) | fail
   ·
    (repeat' (first | exact trivial | fail)) <;> fail
end Go.Sh
namespace Go.Sh
open Go.Proofs
set_option maxHeartbeats 8000000
def swX (n x y : UInt64) : UInt64 := x ^^^ ((x ^^^ y) &&& (0 - n))
def swY (n x y : UInt64) : UInt64 := y ^^^ ((x ^^^ y) &&& (0 - n))
theorem swX_0 (x y : UInt64) : swX 0 x y = x := by unfold swX; simp
theorem swY_0 (x y : UInt64) : swY 0 x y = y := by unfold swY; simp
theorem and_ones (x : UInt64) : x &&& (0 - 1) = x := by
 apply UInt64.toNat_inj.mp
 rw [UInt64.toNat_and, show (0 - 1 : UInt64).toNat = 2 ^ 64 - 1 from rfl, Nat.and_two_pow_sub_one_eq_mod, Nat.mod_eq_of_lt (UInt64.toNat_lt x)]
theorem swX_1 (x y : UInt64) : swX 1 x y = y := by
 unfold swX; rw [and_ones, ← UInt64.xor_assoc, UInt64.xor_self, UInt64.zero_xor]
theorem swY_1 (x y : UInt64) : swY 1 x y = x := by
 unfold swY; rw [and_ones, UInt64.xor_comm x y, ← UInt64.xor_assoc, UInt64.xor_self, UInt64.zero_xor]
theorem f37x (n a b c d e f g h i j p0 p1 p2 p3 p4 q0 q1 q2 q3 q4 : UInt64) : SCall Tryz.prog 44 [.u64 n, .p 0 0, .p 1 0] [some (.box [.u64 a, .u64 b, .u64 c, .u64 d, .u64 e, .u64 p0, .u64 p1, .u64 p2, .u64 p3, .u64 p4]), some (.box [.u64 f, .u64 g, .u64 h, .u64 i, .u64 j, .u64 q0, .u64 q1, .u64 q2, .u64 q3, .u64 q4])] (.tup [])
  [some (.box [.u64 (swX n a f), .u64 (swX n b g), .u64 (swX n c h), .u64 (swX n d i), .u64 (swX n e j), .u64 p0, .u64 p1, .u64 p2, .u64 p3, .u64 p4]), some (.box [.u64 (swY n a f), .u64 (swY n b g), .u64 (swY n c h), .u64 (swY n d i), .u64 (swY n e j), .u64 q0, .u64 q1, .u64 q2, .u64 q3, .u64 q4])] := by
 refine scall_of ttOk (by kernel_rfl : Tryz.prog.funcs[44]? = some Tryz.f44) rfl rfl rfl ?_
 try simp only [List.length_cons, List.length_nil, Nat.zero_add, Nat.reduceAdd]
 refine sw_ok ttOk mixed (by kernel_rfl) ?_
 conv => whnf
 repeat (first | (refine brF rfl ?_; conv => whnf) | (refine gdT rfl ?_; conv => whnf) | (refine Exists.intro _ (And.intro rfl ?_); conv => whnf) | (refine And.intro (by kernel_rfl) ?_; conv => whnf) | fail)
 refine loop_rounds ttOk mixed (by kernel_rfl) 6 ?_
 conv => whnf
 repeat (first | (refine brT rfl ?_; conv => whnf) | (refine brF rfl ?_; conv => whnf) | (refine Exists.intro _ (And.intro rfl ?_); conv => whnf) | (refine And.intro (by first | omega | (simp; done) | fail) ?_; conv => whnf) | (refine And.intro (Nat.le_of_ble_eq_true rfl) ?_; conv => whnf) | (refine And.intro ⟨rfl, Nat.le_of_ble_eq_true rfl⟩ ?_; conv => whnf) | (refine And.intro (by kernel_rfl) ?_; conv => whnf) | fail)
 refine ⟨[0, 1], ?_, rfl, rfl, ?_, rfl⟩
 ·
  (repeat' (first | (refine wk_tup ?_) | fail)) <;> first | rfl | fail
 ·
  (repeat' (first | exact trivial | refine And.intro ?_ ?_ | (refine wk_cons ?_ ?_))) <;> first | rfl | fail
theorem f37z (n a b c d e f g h i j p0 p1 p2 p3 p4 q0 q1 q2 q3 q4 : UInt64) : SCall Tryz.prog 44 [.u64 n, .p 0 5, .p 1 5] [some (.box [.u64 p0, .u64 p1, .u64 p2, .u64 p3, .u64 p4, .u64 a, .u64 b, .u64 c, .u64 d, .u64 e]), some (.box [.u64 q0, .u64 q1, .u64 q2, .u64 q3, .u64 q4, .u64 f, .u64 g, .u64 h, .u64 i, .u64 j])] (.tup [])
  [some (.box [.u64 p0, .u64 p1, .u64 p2, .u64 p3, .u64 p4, .u64 (swX n a f), .u64 (swX n b g), .u64 (swX n c h), .u64 (swX n d i), .u64 (swX n e j)]), some (.box [.u64 q0, .u64 q1, .u64 q2, .u64 q3, .u64 q4, .u64 (swY n a f), .u64 (swY n b g), .u64 (swY n c h), .u64 (swY n d i), .u64 (swY n e j)])] := by
 refine scall_of ttOk (by kernel_rfl : Tryz.prog.funcs[44]? = some Tryz.f44) rfl rfl rfl ?_
 try simp only [List.length_cons, List.length_nil, Nat.zero_add, Nat.reduceAdd]
 refine sw_ok ttOk mixed (by kernel_rfl) ?_
 conv => whnf
 repeat (first | (refine brF rfl ?_; conv => whnf) | (refine gdT rfl ?_; conv => whnf) | (refine Exists.intro _ (And.intro rfl ?_); conv => whnf) | (refine And.intro (by kernel_rfl) ?_; conv => whnf) | fail)
 refine loop_rounds ttOk mixed (by kernel_rfl) 6 ?_
 conv => whnf
 repeat (first | (refine brT rfl ?_; conv => whnf) | (refine brF rfl ?_; conv => whnf) | (refine Exists.intro _ (And.intro rfl ?_); conv => whnf) | (refine And.intro (by first | omega | (simp; done) | fail) ?_; conv => whnf) | (refine And.intro (Nat.le_of_ble_eq_true rfl) ?_; conv => whnf) | (refine And.intro ⟨rfl, Nat.le_of_ble_eq_true rfl⟩ ?_; conv => whnf) | (refine And.intro (by kernel_rfl) ?_; conv => whnf) | fail)
 refine ⟨[0, 1], ?_, rfl, rfl, ?_, rfl⟩
 ·
  (repeat' (first | (refine wk_tup ?_) | fail)) <;> first | rfl | fail
 ·
  (repeat' (first | exact trivial | refine And.intro ?_ ?_ | (refine wk_cons ?_ ?_))) <;> first | rfl | fail
end Go.Sh
namespace Go.Sh
open Go.Proofs
set_option maxHeartbeats 8000000
def ofN (f m l : UInt8) : List UInt8 := f :: (List.replicate 30 m ++ [l])
theorem k1 : le32 (nr (subL (smallL 2) (smallL 3))) = ofN 236 255 127 := by
 rw [(subL_ok (Nm_small 2).1 (Nm_small 3).1).2, (Nm_small 2).2, (Nm_small 3).2]
 decide +kernel
theorem k2 : le32 (nr (ofB (ofN 237 255 127))) = List.replicate 32 0 := by rw [nr_of]; decide +kernel
theorem k3 : le32 (nr (ofB (ofN 255 255 255))) = 18 :: List.replicate 31 0 := by rw [nr_of]; decide +kernel
theorem k4 : le32 (nr (invL (smallL 2))) = ofN 247 255 63 := by
 rw [(invL_ok (Nm_small 2).1).2, (Nm_small 2).2]
 decide +kernel
theorem smallL_len (n : UInt32) : (smallL n).length = 5 := rfl
theorem subL_len (x y : List UInt64) : (subL x y).length = 5 := rfl
theorem addL_len (x y : List UInt64) : (addL x y).length = 5 := rfl
theorem invL_len (x : List UInt64) : (invL x).length = 5 := iwL_len x 255
attribute [local irreducible] smallL subL invL ofB
end Go.Sh
namespace Go.Sh
open Go.Proofs
set_option maxHeartbeats 8000000
theorem pp_eq : [65517, 65535, 65535, 65535, 65535, 65535, 65535, 65535, 65535, 65535, 65535, 65535, 65535, 65535, 65535, 32767] = pp := by decide +kernel
theorem pp_len : pp.length = 16 := dg_len _
theorem f89 : SCall Tryz.prog 90 [] [] (.sl 0 0 16 1 true) [some (.row 81 (pp.map .u64))] := by
 refine scall_of ttOk (by kernel_rfl : Tryz.prog.funcs[90]? = some Tryz.f90) rfl rfl rfl ?_
 try simp only [List.length_cons, List.length_nil, Nat.zero_add, Nat.reduceAdd]
 refine sw_ok ttOk mixed (by kernel_rfl) ?_
 conv => whnf
 repeat (first | (refine And.intro ⟨by omega, by decide⟩ ?_; conv => whnf) | fail)
 refine loop_rule ttOk mixed (by kernel_rfl) (ι := { i : Nat // i ≤ 16 }) (fun i => [(1, .sl 0 0 16 1 true), (2, .i (i.1 : Int))]) (fun i => [some (.row 81 ((fil 16 i.1 (fun _ => (65535 : UInt64)) (fun _ => 0)).map .u64))]) (fun _ => 1) (fun i => 16 - i.1) ⟨0, by omega⟩ ?_ ?_
 ·
  have hz : fil 16 0 (fun _ => (65535 : UInt64)) (fun _ => 0) = List.replicate 16 0 := fil_zero ..
  dsimp only
  rw [hz]
  refine Weak.sel [0] rfl rfl ?_ ?_ rfl rfl
  ·
   (repeat' (first | exact trivial | refine And.intro ?_ ?_ | fail)) <;> first | rfl | fail
  ·
   (repeat' (first | exact trivial | exact ren_z64 | refine And.intro ?_ ?_ | fail)) <;> first | rfl | fail
 ·
  rintro ⟨i, hi⟩
  have hfl := fil_len 16 i (fun _ => (65535 : UInt64)) (fun _ => 0)
  dsimp only
  by_cases hi2 : i < 16
  ·
   have hlt : decide ((i : Int) < 16) = true := by simp; omega
   have hp1 : w64 ((i : Int) + 1) = ((i + 1 : Nat) : Int) := by simp only [w64_eq]; omega
   have hst := fil_setx (g := fun _ => (0 : UInt64)) (f := fun _ => (65535 : UInt64)) hi2 rfl
   conv => whnf
   first | refine brT (by exact hlt) ?_ | fail
   conv => whnf
   repeat (first | (refine Exists.intro _ (And.intro (sput_m64 (i := i) (by first | rfl | omega | fail)) ?_); conv => whnf) | (refine Exists.intro _ (And.intro (idx_i (m := i) (by rfl)) ?_); conv => whnf) | (refine And.intro (by first | omega | (simp; omega) | fail) ?_; conv => whnf) | fail)
   refine ⟨⟨i + 1, by omega⟩, by simp only; omega, ?_⟩
   refine Weak.sel [0] rfl rfl ?_ ?_ rfl rfl
   ·
    (repeat' (first | exact trivial | refine And.intro ?_ ?_ | fail)) <;> first | exact wk_i (by first | exact hp1 | exact hp1.symm | fail) | rfl | fail
   ·
    (repeat' (first | exact trivial | refine And.intro ?_ ?_ | fail)) <;> first | rfl | exact ren_eq (by rfl) (by first | (simp [hp1, hst]; done) | fail) | fail
  ·
   obtain rfl : i = 16 := by omega
   have hfu : (fil 16 16 (fun _ => (65535 : UInt64)) (fun _ => 0)).map SV.u64 = List.replicate 16 (.u64 65535) := rfl
   rw [hfu, ← pp_eq]
   conv => whnf
   first | refine brF (by rfl) ?_ | fail
   conv => whnf
   repeat (first | (refine Exists.intro _ (And.intro rfl ?_); conv => whnf) | (refine And.intro (by first | omega | (simp; done) | fail) ?_; conv => whnf) | fail)
   refine ⟨[0], ?_, rfl, rfl, ?_, rfl⟩
   ·
    (repeat' (fail)) <;> first | rfl | fail
   ·
    (repeat' (first | exact trivial | refine And.intro ?_ ?_ | (refine wk_cons ?_ ?_))) <;> first | rfl | fail
theorem P_lt : P25519 < 65536 ^ 16 := by decide
theorem f126 (w : Nat) (hw : w < 65536 ^ 16) (f : Bool) : SCall Tryz.prog 91 [.sl 0 0 16 1 f] [some (.ro ((dg w).map .u64))] (.b (decide (w < P25519))) [some (.ro ((dg w).map .u64))] := by
 have hdl := dg_len w
 have hpl := pp_len
 refine scall_of ttOk (by kernel_rfl : Tryz.prog.funcs[91]? = some Tryz.f91) rfl rfl rfl ?_
 try simp only [List.length_cons, List.length_nil, Nat.zero_add, Nat.reduceAdd]
 refine sw_ok ttOk mixed (by kernel_rfl) ?_
 conv => whnf
 refine ok1_callF [] [true] false (f89) rfl rfl ⟨⟨rfl, by rfl⟩, trivial, by rfl, by rfl, ?_⟩
 conv => whnf
 refine loop_rule ttOk mixed (by kernel_rfl) (ι := { m : Nat // m ≤ 16 ∧ ∀ j, m ≤ j → j < 16 → (dg w).getD j 0 = pp.getD j 0 }) (fun m => [(0, .sl 0 0 16 1 f), (3, .sl 1 0 16 1 true), (4, .i ((m.1 : Int) - 1))]) (fun _ => [some (.ro ((dg w).map .u64)), some (.row 81 (pp.map .u64))]) (fun _ => 2) (fun m => m.1) ⟨16, Nat.le_refl _, fun j h1 h2 => by omega⟩ ?_ ?_
 ·
  refine Weak.sel [0, 1] rfl rfl ?_ ?_ rfl rfl
  ·
   (repeat' (first | exact trivial | refine And.intro ?_ ?_ | fail)) <;> first | rfl | fail
  ·
   (repeat' (first | exact trivial | refine And.intro ?_ ?_ | (refine wk_cons ?_ ?_))) <;> first | rfl | fail
 ·
  rintro ⟨m, hm, hall⟩
  dsimp only
  by_cases hm0 : 0 < m
  ·
   obtain ⟨k, rfl⟩ : ∃ k, m = k + 1 := ⟨m - 1, by omega⟩
   have hlt : decide ((((k + 1 : Nat) : Int) - 1) ≥ 0) = true := by simp
   have hk : ((k + 1 : Nat) : Int) - 1 = (k : Int) := by omega
   have hp1 : w64 (((k + 1 : Nat) : Int) - 1 - 1) = (k : Int) - 1 := by simp only [w64_eq]; omega
   obtain ⟨c1, c2⟩ := dg_cmp (i := k) hw P_lt (by omega) (fun j h1 h2 => hall j (by omega) h2)
   by_cases he : (dg w).getD k 0 = pp.getD k 0
   ·
    have hne : ((dg w).getD k 0 != pp.getD k 0) = false := by rw [he]; simp
    conv => whnf
    first | refine brT (by exact hlt) ?_ | fail
    conv => whnf
    repeat (first | (refine gdF hne ?_; conv => whnf) | (refine Exists.intro _ (And.intro (sload_u64 (i := k) (by first | rfl | omega | fail) (by omega)) ?_); conv => whnf) | (refine Exists.intro _ (And.intro (idx_i (m := k) (by first | rfl | omega | fail)) ?_); conv => whnf) | (refine And.intro (by omega) ?_; conv => whnf) | (refine And.intro (by kernel_rfl) ?_; conv => whnf) | fail)
    refine ⟨⟨k, by omega, fun j h1 h2 => ?_⟩, by simp only; omega, ?_⟩
    ·
     by_cases hj : j = k
     ·
      subst hj; exact he
     ·
      exact hall j (by omega) h2
    ·
     refine Weak.sel [0, 1] rfl rfl ?_ ?_ rfl rfl
     ·
      (repeat' (first | exact trivial | refine And.intro ?_ ?_ | fail)) <;> first | exact wk_i (by first | exact hp1 | exact hp1.symm | fail) | rfl | fail
     ·
      (repeat' (first | exact trivial | refine And.intro ?_ ?_ | (refine wk_cons ?_ ?_))) <;> first | rfl | fail
   ·
    have hne : ((dg w).getD k 0 != pp.getD k 0) = true := by simp; exact he
    have hr : decide ((dg w).getD k 0 < pp.getD k 0) = decide (w < P25519) := by
     by_cases hl : (dg w).getD k 0 < pp.getD k 0
     ·
      rw [decide_eq_true hl, decide_eq_true (c1 (UInt64.lt_iff_toNat_lt.1 hl))]
     ·
      rw [decide_eq_false hl]
      have h3 : ¬ ((dg w).getD k 0).toNat < (pp.getD k 0).toNat := fun e => hl (UInt64.lt_iff_toNat_lt.2 e)
      have h4 : ((dg w).getD k 0).toNat ≠ (pp.getD k 0).toNat := fun e => he (UInt64.toNat_inj.mp e)
      have h5 := c2 (show ((dg P25519).getD k 0).toNat < _ by show (pp.getD k 0).toNat < _; omega)
      rw [decide_eq_false (by omega)]
    conv => whnf
    first | refine brT (by exact hlt) ?_ | fail
    conv => whnf
    repeat (first | (refine gdT hne ?_; conv => whnf) | (refine Exists.intro _ (And.intro (sload_u64 (i := k) (by first | rfl | omega | fail) (by omega)) ?_); conv => whnf) | (refine Exists.intro _ (And.intro (idx_i (m := k) (by first | rfl | omega | fail)) ?_); conv => whnf) | (refine And.intro (by omega) ?_; conv => whnf) | (refine And.intro (by kernel_rfl) ?_; conv => whnf) | fail)
    refine ⟨[0], ?_, rfl, rfl, ?_, rfl⟩
    ·
     (repeat' (fail)) <;> first | exact wk_b (by exact hr.symm) | fail
    ·
     (repeat' (first | exact trivial | refine And.intro ?_ ?_ | (refine wk_cons ?_ ?_))) <;> first | rfl | fail
  ·
   obtain rfl : m = 0 := by omega
   have hwP : w = P25519 := dg_inj hw P_lt (fun j hj => hall j (Nat.zero_le _) hj)
   have hr : decide (w < P25519) = false := by rw [hwP]; simp
   rw [hr]
   conv => whnf
   first | refine brF (by rfl) ?_ | fail
   conv => whnf
   refine ⟨[0], ?_, rfl, rfl, ?_, rfl⟩
   ·
    (repeat' (fail)) <;> first | rfl | fail
   ·
    (repeat' (first | exact trivial | refine And.intro ?_ ?_ | (refine wk_cons ?_ ?_))) <;> first | rfl | fail
end Go.Sh
namespace Go.Sh
open Go.Proofs
set_option maxHeartbeats 8000000
def fp : Nat → UInt64
 | 0 => 1
 | j + 1 => 38 * fp j
def xi (l : List UInt64) : Nat → Nat → UInt64
 | 0, _ => 0
 | i + 1, k => if i % 16 = k then xi l i k + l.getD i 0 * fp (i / 16) else xi l i k
def xiL (l : List UInt64) (i : Nat) : List UInt64 := (List.range 16).map (xi l i)
theorem xiL_len (l : List UInt64) (i : Nat) : (xiL l i).length = 16 := rng_len
theorem xiL_0 (l : List UInt64) : xiL l 0 = List.replicate 16 0 := rfl
theorem xiL_s (l : List UInt64) (i : Nat) : (xiL l i).set (i % 16) ((xiL l i).getD (i % 16) 0 + l.getD i 0 * fp (i / 16)) = xiL l (i + 1) := by
 unfold xiL
 rw [rng_getD (by omega)]
 apply List.ext_getElem?
 intro k
 rw [List.getElem?_set]
 by_cases hk : k < 16
 ·
  rw [List.getElem?_map, List.getElem?_range hk, List.getElem?_map, List.getElem?_range hk]
  simp only [Option.map_some, List.length_map, List.length_range]
  by_cases he : i % 16 = k
  ·
   subst he
   rw [if_pos rfl, if_pos (by omega)]
   show some _ = some (if i % 16 = i % 16 then _ else _)
   rw [if_pos rfl]
  ·
   rw [if_neg he]
   show some _ = some (if i % 16 = k then _ else _)
   rw [if_neg he]
 ·
  have h1 : ((List.range 16).map (xi l i)).length = 16 := rng_len
  have h2 : ((List.range 16).map (xi l (i + 1))).length = 16 := rng_len
  rw [if_neg (by omega), List.getElem?_eq_none (by omega), List.getElem?_eq_none (by omega)]
theorem fp_0 : fp 0 = 1 := rfl
theorem fp_s (j : Nat) : fp (j + 1) = 38 * fp j := rfl
theorem rdN_len {l : List UInt64} (h : l.length = 16) : ∀ n, (rdN l n).length = 16
 | 0 => h
 | n + 1 => rd1_len _
theorem rd1_set (l : List UInt64) : ((List.range 16).map (rdg l)).set 0 (((List.range 16).map (rdg l)).getD 0 0 + 38 * rc l 16) = rd1 l := by
 unfold rd1
 rw [rng_getD (by omega)]
 rfl
theorem t16 (i : Nat) (h : i < 64) : (i : Int).tmod 16 = ((i % 16 : Nat) : Int) ∧ w64 ((i : Int).tdiv 16) = ((i / 16 : Nat) : Int) := by
 have : ∀ i : Nat, i < 64 → (i : Int).tmod 16 = ((i % 16 : Nat) : Int) ∧ w64 ((i : Int).tdiv 16) = ((i / 16 : Nat) : Int) := by decide +kernel
 exact this i h
theorem rc_s (l : List UInt64) (i : Nat) : rc l (i + 1) = (l.getD i 0 + rc l i) / 65536 := rfl
theorem sbw_s (l : List UInt64) (i : Nat) : sbw l (i + 1) = 1 - (65536 + l.getD i 0 - pp.getD i 0 - sbw l i) / 65536 := rfl
theorem rc_0 (l : List UInt64) : rc l 0 = 0 := rfl
theorem rdg_e (l : List UInt64) (i : Nat) : rdg l i = (l.getD i 0 + rc l i) % 65536 := rfl
theorem sdg_e (l : List UInt64) (i : Nat) : sdg l i = (65536 + l.getD i 0 - pp.getD i 0 - sbw l i) % 65536 := rfl
theorem sbw_0 (l : List UInt64) : sbw l 0 = 0 := rfl
attribute [local irreducible] xiL rc rdg rd1 sbw sdg dg pp fp
theorem f84 (l : List UInt64) (hl : l.length = 16 ∨ l.length = 32) (W : Nat) (hW : W < 65536 ^ 16) (hrd : rdN (xiL l l.length) 4 = dg W) (f : Bool) :
  SCall Tryz.prog 77 [.sl 0 0 l.length 1 f] [some (.ro (l.map .u64))] (.sl 1 0 16 1 true) [some (.ro (l.map .u64)), some (.row 81 ((dg (W % P25519)).map .u64))] := by
 have hl32 : l.length ≤ 32 := by omega
 refine scall_of ttOk (by kernel_rfl : Tryz.prog.funcs[77]? = some Tryz.f77) rfl rfl rfl ?_
 try simp only [List.length_cons, List.length_nil, Nat.zero_add, Nat.reduceAdd]
 refine sw_ok ttOk mixed (by kernel_rfl) ?_
 conv => whnf
 repeat (first | (refine And.intro ⟨by omega, by decide⟩ ?_; conv => whnf) | fail)
 refine loop_rule ttOk mixed (by kernel_rfl) (ι := { i : Nat // i ≤ l.length }) (fun i => [(0, .sl 0 0 l.length 1 f), (3, .sl 1 0 16 1 true), (4, .i (i.1 : Int))]) (fun i => [some (.ro (l.map .u64)), some (.row 81 ((xiL l i.1).map .u64))]) (fun _ => 2) (fun i => l.length - i.1) ⟨0, by omega⟩ ?_ ?_
 ·
  have hz := xiL_0 l
  dsimp only
  rw [hz]
  refine Weak.sel [0, 1] rfl rfl ?_ ?_ rfl rfl
  ·
   (repeat' (first | exact trivial | refine And.intro ?_ ?_ | fail)) <;> first | rfl | fail
  ·
   (repeat' (first | exact trivial | exact ren_z64 | refine And.intro ?_ ?_ | fail)) <;> first | rfl | exact ren_eq (by first | (simp; done) | fail) (by rfl) | fail
 ·
  rintro ⟨i, hi⟩
  have hxl := xiL_len l i
  dsimp only
  by_cases hi2 : i < l.length
  ·
   have hlt : decide ((i : Int) < (l.length : Int)) = true := by simp; omega
   have hp1 : w64 ((i : Int) + 1) = ((i + 1 : Nat) : Int) := by simp only [w64_eq]; omega
   obtain ⟨hm, hd⟩ := t16 i (by omega)
   have hst := xiL_s l i
   conv => whnf
   first | refine brT (by exact hlt) ?_ | fail
   conv => whnf
   repeat (first | (refine Exists.intro _ (And.intro rfl ?_); conv => whnf) | fail)
   refine loop_rule ttOk mixed (by kernel_rfl) (ι := { j : Nat // j ≤ i / 16 }) (fun j => [(0, .sl 0 0 l.length 1 f), (3, .sl 1 0 16 1 true), (4, .i (i : Int)), (5, .i ((i % 16 : Nat) : Int)), (6, .u64 (fp j.1)), (7, .i (j.1 : Int))]) (fun _ => [some (.ro (l.map .u64)), some (.row 81 ((xiL l i).map .u64))]) (fun _ => 2) (fun j => i / 16 - j.1) ⟨0, by omega⟩ ?_ ?_
   ·
    have hf0 : fp 0 = 1 := fp_0
    refine Weak.sel [0, 1] rfl rfl ?_ ?_ rfl rfl
    ·
     (repeat' (first | exact trivial | refine And.intro ?_ ?_ | fail)) <;> first | exact wk_i (by exact hm) | exact wk_u64 (by exact hf0) | rfl | fail
    ·
     (repeat' (first | exact trivial | refine And.intro ?_ ?_ | fail)) <;> first | rfl | exact ren_eq (by first | (simp; done) | fail) (by rfl) | fail
   ·
    rintro ⟨j, hj⟩
    dsimp only
    by_cases hj2 : j < i / 16
    ·
     have hlt2 : decide ((j : Int) < w64 ((i : Int).tdiv 16)) = true := by rw [hd]; simp; omega
     have hp2 : w64 ((j : Int) + 1) = ((j + 1 : Nat) : Int) := by simp only [w64_eq]; omega
     have hfs := fp_s j
     conv => whnf
     repeat (first | (refine Exists.intro _ (And.intro rfl ?_); conv => whnf) | fail)
     first | refine brT (by exact hlt2) ?_ | fail
     conv => whnf
     refine ⟨⟨j + 1, by omega⟩, by simp only; omega, ?_⟩
     refine Weak.sel [0, 1] rfl rfl ?_ ?_ rfl rfl
     ·
      (repeat' (first | exact trivial | refine And.intro ?_ ?_ | fail)) <;> first | exact wk_i (by first | exact hp2 | exact hp2.symm | fail) | exact wk_u64 (by first | exact hfs.symm | exact hfs.symm.symm | fail) | rfl | fail
     ·
      (repeat' (first | exact trivial | refine And.intro ?_ ?_ | fail)) <;> first | rfl | exact ren_eq (by first | (simp; done) | fail) (by rfl) | fail
    ·
     obtain rfl : j = i / 16 := by omega
     have hlt2 : decide (((i / 16 : Nat) : Int) < w64 ((i : Int).tdiv 16)) = false := by rw [hd]; simp
     conv => whnf
     repeat (first | (refine Exists.intro _ (And.intro rfl ?_); conv => whnf) | fail)
     first | refine brF (by exact hlt2) ?_ | fail
     conv => whnf
     repeat (first | (refine Exists.intro _ (And.intro (sput_m64 (i := i % 16) (by first | rfl | omega | fail)) ?_); conv => whnf) | (refine Exists.intro _ (And.intro (sload_u64 (i := i % 16) (by first | rfl | omega | fail) (by omega)) ?_); conv => whnf) | (refine Exists.intro _ (And.intro (idx_i (m := i % 16) (by rfl)) ?_); conv => whnf) | (refine Exists.intro _ (And.intro (sload_u64 (i := i) (by first | rfl | omega | fail) (by omega)) ?_); conv => whnf) | (refine Exists.intro _ (And.intro (idx_i (m := i) (by rfl)) ?_); conv => whnf) | (refine And.intro (by first | omega | (simp; omega) | fail) ?_; conv => whnf) | (refine And.intro (by kernel_rfl) ?_; conv => whnf) | fail)
     refine ⟨⟨i + 1, by omega⟩, by simp only; omega, ?_⟩
     refine Weak.sel [0, 1] rfl rfl ?_ ?_ rfl rfl
     ·
      (repeat' (first | exact trivial | refine And.intro ?_ ?_ | fail)) <;> first | exact wk_i (by first | exact hp1 | exact hp1.symm | fail) | rfl | fail
     ·
      (repeat' (first | exact trivial | refine And.intro ?_ ?_ | fail)) <;> first | rfl | exact ren_eq (by first | (simp; done) | fail) (by rfl) | exact ren_m64 (by exact hst.symm) | fail
  ·
   obtain rfl : i = l.length := by omega
   obtain ⟨X, hX⟩ : ∃ X, X = xiL l l.length := ⟨_, rfl⟩
   rw [← hX] at hxl hrd ⊢
   have hlt : decide ((l.length : Int) < (l.length : Int)) = false := by simp
   conv => whnf
   first | refine brF (by exact hlt) ?_ | fail
   conv => whnf
   refine loop_rule ttOk mixed (by kernel_rfl) (ι := { r : Nat // r ≤ 4 }) (fun r => [(3, .sl 1 0 16 1 true), (8, .i (r.1 : Int))]) (fun r => [some (.ro (l.map .u64)), some (.row 81 ((rdN X r.1).map .u64))]) (fun _ => 2) (fun r => 4 - r.1) ⟨0, by omega⟩ ?_ ?_
   ·
    refine Weak.sel [0, 1] rfl rfl ?_ ?_ rfl rfl
    ·
     (repeat' (first | exact trivial | refine And.intro ?_ ?_ | fail)) <;> first | rfl | fail
    ·
     (repeat' (first | exact trivial | refine And.intro ?_ ?_ | fail)) <;> first | rfl | exact ren_eq (by first | (simp; done) | fail) (by rfl) | fail
   ·
    rintro ⟨r, hr⟩
    obtain ⟨Y, hY⟩ : ∃ Y, Y = rdN X r := ⟨_, rfl⟩
    have hYl : Y.length = 16 := by rw [hY]; exact rdN_len hxl r
    dsimp only
    rw [← hY]
    by_cases hr2 : r < 4
    ·
     have hlt : decide ((r : Int) < 4) = true := by simp; omega
     have hp1 : w64 ((r : Int) + 1) = ((r + 1 : Nat) : Int) := by simp only [w64_eq]; omega
     have hYs : rdN X (r + 1) = rd1 Y := by rw [hY]; rfl
     conv => whnf
     first | refine brT (by exact hlt) ?_ | fail
     conv => whnf
     refine loop_rule ttOk mixed (by kernel_rfl) (ι := { i : Nat // i ≤ 16 }) (fun i => [(3, .sl 1 0 16 1 true), (8, .i (r : Int)), (9, .u64 (rc Y i.1)), (10, .i (i.1 : Int))]) (fun i => [some (.ro (l.map .u64)), some (.row 81 ((fil 16 i.1 (rdg Y) (fun j => Y.getD j 0)).map .u64))]) (fun _ => 2) (fun i => 16 - i.1) ⟨0, by omega⟩ ?_ ?_
     ·
      have hz : fil 16 0 (rdg Y) (fun j => Y.getD j 0) = Y := fil_of_list hYl
      have hz2 := rc_0 Y
      dsimp only
      rw [hz]
      refine Weak.sel [0, 1] rfl rfl ?_ ?_ rfl rfl
      ·
       (repeat' (first | exact trivial | refine And.intro ?_ ?_ | fail)) <;> first | exact wk_u64 (by exact hz2) | rfl | fail
      ·
       (repeat' (first | exact trivial | refine And.intro ?_ ?_ | fail)) <;> first | rfl | exact ren_eq (by first | (simp; done) | fail) (by rfl) | fail
     ·
      rintro ⟨i, hi⟩
      have hfl := fil_len 16 i (rdg Y) (fun j => Y.getD j 0)
      dsimp only
      by_cases hi2 : i < 16
      ·
       have hlt2 : decide ((i : Int) < 16) = true := by simp; omega
       have hp2 : w64 ((i : Int) + 1) = ((i + 1 : Nat) : Int) := by simp only [w64_eq]; omega
       have hg0 : (fil 16 i (rdg Y) (fun j => Y.getD j 0)).getD i 0 = Y.getD i 0 := by rw [fil_getD hi2, if_neg (by omega)]
       have hsl : ∀ z, ((fil 16 i (rdg Y) (fun j => Y.getD j 0)).set i z).length = 16 := fun z => by rw [List.length_set]; exact hfl
       have hgs : ∀ z, ((fil 16 i (rdg Y) (fun j => Y.getD j 0)).set i z).getD i 0 = z := fun z => by rw [List.getD_eq_getElem?_getD, List.getElem?_set_self (by omega)]; rfl
       have hs1 := hsl ((fil 16 i (rdg Y) (fun j => Y.getD j 0)).getD i 0 + rc Y i)
       have hcs := rc_s Y i
       have hst : ((fil 16 i (rdg Y) (fun j => Y.getD j 0)).set i ((fil 16 i (rdg Y) (fun j => Y.getD j 0)).getD i 0 + rc Y i)).set i (((fil 16 i (rdg Y) (fun j => Y.getD j 0)).set i ((fil 16 i (rdg Y) (fun j => Y.getD j 0)).getD i 0 + rc Y i)).getD i 0 % 65536) = fil 16 (i + 1) (rdg Y) (fun j => Y.getD j 0) := by
        rw [hgs, List.set_set, hg0]
        exact fil_setx (f := rdg Y) hi2 (rdg_e Y i).symm
       have hct : ((fil 16 i (rdg Y) (fun j => Y.getD j 0)).set i ((fil 16 i (rdg Y) (fun j => Y.getD j 0)).getD i 0 + rc Y i)).getD i 0 / 65536 = rc Y (i + 1) := by rw [hgs, hg0, hcs]
       conv => whnf
       first | refine brT (by exact hlt2) ?_ | fail
       conv => whnf
       repeat (first | (refine Exists.intro _ (And.intro (sput_m64 (i := i) (by first | rfl | omega | fail)) ?_); conv => whnf) | (refine Exists.intro _ (And.intro (sload_u64 (i := i) (by first | rfl | omega | fail) (by omega)) ?_); conv => whnf) | (refine Exists.intro _ (And.intro (idx_i (m := i) (by rfl)) ?_); conv => whnf) | (refine Exists.intro _ (And.intro rfl ?_); conv => whnf) | (refine And.intro (by omega) ?_; conv => whnf) | (refine And.intro ⟨by exact @rfl Nat _, by first | (simp only [hfl, ti5_sz, ti81_sz, List.length_map, List.length_set]; omega) | fail⟩ ?_; conv => whnf) | fail)
       refine ⟨⟨i + 1, by omega⟩, by simp only; omega, ?_⟩
       refine Weak.sel [0, 1] rfl rfl ?_ ?_ rfl rfl
       ·
        (repeat' (first | exact trivial | refine And.intro ?_ ?_ | fail)) <;> first | exact wk_i (by first | exact hp2 | exact hp2.symm | fail) | exact wk_u64 (by first | exact hct | exact hct.symm | fail) | rfl | fail
       ·
        (repeat' (first | exact trivial | refine And.intro ?_ ?_ | fail)) <;> first | rfl | exact ren_eq (by first | rfl | (simp; done) | fail) (by rfl) | exact ren_m64 (by exact hst.symm) | fail
      ·
       obtain rfl : i = 16 := by omega
       have hrs := rd1_set Y
       have hfu : fil 16 16 (rdg Y) (fun j => Y.getD j 0) = (List.range 16).map (rdg Y) := fil_full ..
       have hrl : ((List.range 16).map (rdg Y)).length = 16 := rng_len
       rw [hfu]
       conv => whnf
       first | refine brF (by rfl) ?_ | fail
       conv => whnf
       repeat (first | (refine Exists.intro _ (And.intro (sput_m64 (i := 0) (by rfl)) ?_); conv => whnf) | (refine Exists.intro _ (And.intro (sload_u64 (i := 0) (by rfl) (by omega)) ?_); conv => whnf) | (refine Exists.intro _ (And.intro (idx_i (m := 0) (by rfl)) ?_); conv => whnf) | (refine And.intro (by first | omega | (simp; done) | fail) ?_; conv => whnf) | fail)
       refine ⟨⟨r + 1, by omega⟩, by simp only; omega, ?_⟩
       dsimp only
       rw [hYs]
       refine Weak.sel [0, 1] rfl rfl ?_ ?_ rfl rfl
       ·
        (repeat' (first | exact trivial | refine And.intro ?_ ?_ | fail)) <;> first | exact wk_i (by first | exact hp1 | exact hp1.symm | fail) | rfl | fail
       ·
        (repeat' (first | exact trivial | refine And.intro ?_ ?_ | fail)) <;> first | rfl | exact ren_eq (by first | (simp; done) | fail) (by rfl) | exact ren_m64 (by exact hrs.symm) | fail
    ·
     obtain rfl : r = 4 := by omega
     rw [hrd] at hY
     rw [hY]
     conv => whnf
     first | refine brF (by rfl) ?_ | fail
     conv => whnf
     refine loop_rule ttOk mixed (by kernel_rfl) (ι := { w : Nat // w < 65536 ^ 16 ∧ w % P25519 = W % P25519 }) (fun _ => [(11, .sl 1 0 16 1 true)]) (fun w => [some (.ro (l.map .u64)), some (.row 81 ((dg w.1).map .u64))]) (fun _ => 2) (fun w => w.1) ⟨W, hW, rfl⟩ ?_ ?_
     ·
      refine Weak.sel [0, 1] rfl rfl ?_ ?_ rfl rfl
      ·
       (repeat' (first | exact trivial | refine And.intro ?_ ?_ | fail)) <;> first | rfl | fail
      ·
       (repeat' (first | exact trivial | refine And.intro ?_ ?_ | fail)) <;> first | rfl | exact ren_eq (by first | (simp; done) | fail) (by rfl) | fail
     ·
      rintro ⟨w, hw, hwm⟩
      have h126 := f126 w hw true
      have hdl := dg_len w
      dsimp only
      by_cases hwP : w < P25519
      ·
       rw [decide_eq_true hwP] at h126
       have hwe : w = W % P25519 := by rw [← hwm, Nat.mod_eq_of_lt hwP]
       rw [← hwe]
       conv => whnf
       refine ok1_callF [1] [false] true (h126) rfl rfl ⟨⟨rfl, by rfl⟩, by (repeat' (first | exact trivial | refine And.intro ?_ ?_)) <;> first | exact ren_eq (by first | (simp; done) | fail) (by rfl) | fail, by rfl, by rfl, ?_⟩
       conv => whnf
       repeat (first | (refine brF rfl ?_; conv => whnf) | fail)
       refine ⟨[0, 1], ?_, rfl, rfl, ?_, rfl⟩
       ·
        (repeat' (fail)) <;> first | rfl | fail
       ·
        (repeat' (first | exact trivial | refine And.intro ?_ ?_ | fail)) <;> first | rfl | exact ren_eq (by first | (simp; done) | fail) (by rfl) | fail
      ·
       rw [decide_eq_false hwP] at h126
       conv => whnf
       refine ok1_callF [1] [false] true (h126) rfl rfl ⟨⟨rfl, by rfl⟩, by (repeat' (first | exact trivial | refine And.intro ?_ ?_)) <;> first | exact ren_eq (by first | (simp; done) | fail) (by rfl) | fail, by rfl, by rfl, ?_⟩
       conv => whnf
       repeat (first | (refine brT rfl ?_; conv => whnf) | fail)
       refine ok1_callF [] [true] false (f89) rfl rfl ⟨⟨rfl, by rfl⟩, trivial, by first | simp [plainHf, plainB], by rfl, ?_⟩
       conv => whnf
       refine loop_rule ttOk mixed (by kernel_rfl) (ι := { i : Nat // i ≤ 16 }) (fun i => [(11, .sl 1 0 16 1 true), (12, .sl 2 0 16 1 true), (13, .u64 (sbw (dg w) i.1)), (14, .i (i.1 : Int))]) (fun i => [some (.ro (l.map .u64)), some (.row 81 ((fil 16 i.1 (sdg (dg w)) (fun j => (dg w).getD j 0)).map .u64)), some (.row 81 (pp.map .u64))]) (fun _ => 3) (fun i => 16 - i.1) ⟨0, by omega⟩ ?_ ?_
       ·
        have hz : fil 16 0 (sdg (dg w)) (fun j => (dg w).getD j 0) = dg w := fil_of_list hdl
        have hz2 := sbw_0 (dg w)
        dsimp only
        rw [hz]
        refine Weak.sel [0, 1, 2] rfl rfl ?_ ?_ rfl rfl
        ·
         (repeat' (first | exact trivial | refine And.intro ?_ ?_ | fail)) <;> first | exact wk_u64 (by exact hz2) | rfl | fail
        ·
         (repeat' (first | exact trivial | refine And.intro ?_ ?_ | fail)) <;> first | rfl | exact ren_eq (by first | (simp; done) | fail) (by rfl) | fail
       ·
        rintro ⟨i, hi⟩
        have hfl := fil_len 16 i (sdg (dg w)) (fun j => (dg w).getD j 0)
        have hpl := pp_len
        dsimp only
        by_cases hi2 : i < 16
        ·
         have hlt2 : decide ((i : Int) < 16) = true := by simp; omega
         have hp2 : w64 ((i : Int) + 1) = ((i + 1 : Nat) : Int) := by simp only [w64_eq]; omega
         have hg0 : (fil 16 i (sdg (dg w)) (fun j => (dg w).getD j 0)).getD i 0 = (dg w).getD i 0 := by rw [fil_getD hi2, if_neg (by omega)]
         have hct : 1 - (65536 + (fil 16 i (sdg (dg w)) (fun j => (dg w).getD j 0)).getD i 0 - pp.getD i 0 - sbw (dg w) i) / 65536 = sbw (dg w) (i + 1) := by rw [hg0, sbw_s]
         have hst : (fil 16 i (sdg (dg w)) (fun j => (dg w).getD j 0)).set i ((65536 + (fil 16 i (sdg (dg w)) (fun j => (dg w).getD j 0)).getD i 0 - pp.getD i 0 - sbw (dg w) i) % 65536) = fil 16 (i + 1) (sdg (dg w)) (fun j => (dg w).getD j 0) := by
          rw [hg0]
          exact fil_setx (f := sdg (dg w)) hi2 (sdg_e (dg w) i).symm
         conv => whnf
         first | refine brT (by exact hlt2) ?_ | fail
         conv => whnf
         repeat (first | (refine Exists.intro _ (And.intro (sput_m64 (i := i) (by first | rfl | omega | fail)) ?_); conv => whnf) | (refine Exists.intro _ (And.intro (sload_u64 (i := i) (by first | rfl | omega | fail) (by omega)) ?_); conv => whnf) | (refine Exists.intro _ (And.intro (idx_i (m := i) (by rfl)) ?_); conv => whnf) | (refine Exists.intro _ (And.intro rfl ?_); conv => whnf) | (refine And.intro (by omega) ?_; conv => whnf) | (refine And.intro (by kernel_rfl) ?_; conv => whnf) | (refine And.intro ⟨by exact @rfl Nat _, by first | (simp only [hfl, hpl, ti5_sz, ti81_sz, List.length_map, List.length_set]; omega) | fail⟩ ?_; conv => whnf) | fail)
         refine ⟨⟨i + 1, by omega⟩, by simp only; omega, ?_⟩
         refine Weak.sel [0, 1, 2] rfl rfl ?_ ?_ rfl rfl
         ·
          (repeat' (first | exact trivial | refine And.intro ?_ ?_ | fail)) <;> first | exact wk_i (by first | exact hp2 | exact hp2.symm | fail) | exact wk_u64 (by first | exact hct | exact hct.symm | fail) | rfl | fail
         ·
          (repeat' (first | exact trivial | refine And.intro ?_ ?_ | fail)) <;> first | rfl | exact ren_eq (by first | rfl | (simp; done) | fail) (by rfl) | exact ren_m64 (by exact hst.symm) | fail
        ·
         obtain rfl : i = 16 := by omega
         have hfu : fil 16 16 (sdg (dg w)) (fun j => (dg w).getD j 0) = dg (w - P25519) := by
          rw [fil_full]; exact subP_val (by omega) hw
         rw [hfu]
         have hP : 0 < P25519 := by decide
         conv => whnf
         first | refine brF (by rfl) ?_ | fail
         conv => whnf
         refine ⟨⟨w - P25519, by omega, by rw [← hwm, ← Nat.mod_eq_sub_mod (by omega)]⟩, by simp only; omega, ?_⟩
         refine Weak.sel [0, 1] rfl rfl ?_ ?_ rfl rfl
         ·
          (repeat' (first | exact trivial | refine And.intro ?_ ?_ | fail)) <;> first | rfl | fail
         ·
          (repeat' (first | exact trivial | refine And.intro ?_ ?_ | fail)) <;> first | rfl | exact ren_eq (by first | (simp; done) | fail) (by rfl) | fail
end Go.Sh
namespace Go.Sh
set_option maxHeartbeats 4000000
theorem pv_add {B : Nat} (a b : Nat → Nat) (c : Nat) : ∀ n, pv B (fun i => a i + c * b i) n = pv B a n + c * pv B b n
 | 0 => by simp [pv]
 | n + 1 => by
  show pv B _ n + (a n + c * b n) * B ^ n = pv B a n + a n * B ^ n + c * (pv B b n + b n * B ^ n)
  rw [pv_add a b c n]; grind
def gn (l : List UInt64) (i : Nat) : Nat := (l.getD i 0).toNat
theorem rv_gn (l : List UInt64) : rv l = pv 65536 (gn l) 16 := rfl
theorem xi_16 (l : List UInt64) : ∀ i, i ≤ 16 → ∀ k, k < 16 → xi l i k = if k < i then l.getD k 0 else 0
 | 0, _, k, hk => by simp [xi]
 | i + 1, h, k, hk => by
  show (if i % 16 = k then xi l i k + l.getD i 0 * fp (i / 16) else xi l i k) = _
  rw [xi_16 l i (by omega) k hk, show i % 16 = i by omega, show i / 16 = 0 by omega]
  by_cases he : i = k
  ·
   subst he
   rw [if_pos rfl, if_neg (by omega), if_pos (by omega), fp_0, UInt64.mul_one, UInt64.zero_add]
  ·
   rw [if_neg he]
   by_cases h2 : k < i
   ·
    rw [if_pos h2, if_pos (by omega)]
   ·
    rw [if_neg h2, if_neg (by omega)]
theorem fp_1 : fp 1 = 38 := rfl
theorem xi_32 (l : List UInt64) : ∀ i, i ≤ 16 → ∀ k, k < 16 → xi l (16 + i) k = if k < i then l.getD k 0 + l.getD (16 + k) 0 * 38 else l.getD k 0
 | 0, _, k, hk => by rw [Nat.add_zero, xi_16 l 16 (by omega) k hk, if_pos hk]; simp
 | i + 1, h, k, hk => by
  show (if (16 + i) % 16 = k then xi l (16 + i) k + l.getD (16 + i) 0 * fp ((16 + i) / 16) else xi l (16 + i) k) = _
  rw [xi_32 l i (by omega) k hk, show (16 + i) % 16 = i by omega, show (16 + i) / 16 = 1 by omega]
  by_cases he : i = k
  ·
   subst he
   rw [if_pos rfl, if_neg (by omega), if_pos (by omega), fp_1]
  ·
   rw [if_neg he]
   by_cases h2 : k < i
   ·
    rw [if_pos h2, if_pos (by omega)]
   ·
    rw [if_neg h2, if_neg (by omega)]
theorem red16 {l : List UInt64} (hl : l.length = 16) (hb : ∀ i, i < 16 → gn l i < 35184372088832) : ∃ W, W < 65536 ^ 16 ∧ rdN (xiL l l.length) 4 = dg W ∧ W % P25519 = rv l % P25519 := by
 have hx : ∀ k, k < 16 → (xiL l 16).getD k 0 = l.getD k 0 := fun k hk => by
  unfold xiL; rw [rng_getD hk, xi_16 l 16 (by omega) k hk, if_pos hk]
 obtain ⟨W, h1, h2, h3⟩ := rdN_val (l := xiL l 16) (fun i hi => by rw [hx i hi]; exact hb i hi)
 refine ⟨W, h1, by rw [hl]; exact h2, ?_⟩
 rw [h3]
 unfold rv
 rw [pv_congr (m := fun i => (l.getD i 0).toNat) 16 (fun i hi => by rw [hx i hi])]
theorem red32 {l : List UInt64} (hl : l.length = 32) (hb : ∀ i, i < 32 → gn l i < 274877906944) : ∃ W, W < 65536 ^ 16 ∧ rdN (xiL l l.length) 4 = dg W ∧ W % P25519 = pv 65536 (gn l) 32 % P25519 := by
 have hx : ∀ k, k < 16 → (xiL l 32).getD k 0 = l.getD k 0 + l.getD (16 + k) 0 * 38 := fun k hk => by
  unfold xiL; rw [rng_getD hk, xi_32 l 16 (by omega) k hk, if_pos hk]
 have hn : ∀ k, k < 16 → ((xiL l 32).getD k 0).toNat = gn l k + 38 * gn l (16 + k) := fun k hk => by
  have b1 := hb k (by omega)
  have b2 := hb (16 + k) (by omega)
  unfold gn at b1 b2 ⊢
  have m := mul_n (l.getD (16 + k) 0) 38 (by show _ * 38 < _; omega)
  rw [hx k hk, add_n _ _ (by rw [m]; show _ + _ * 38 < _; omega), m, Nat.mul_comm]; rfl
 obtain ⟨W, h1, h2, h3⟩ := rdN_val (l := xiL l 32) (fun i hi => by
  have b1 := hb i (by omega)
  have b2 := hb (16 + i) (by omega)
  rw [hn i hi]; omega)
 refine ⟨W, h1, by rw [hl]; exact h2, ?_⟩
 rw [h3]
 unfold rv
 rw [pv_congr (m := fun i => gn l i + 38 * gn l (16 + i)) 16 (fun i hi => hn i hi), pv_add]
 have hs := pv_split (B := 65536) (gn l) 16 16
 rw [show 16 + 16 = 32 from rfl, pow_B] at hs
 rw [hs]
 generalize pv 65536 (gn l) 16 = a
 generalize pv 65536 (fun i => gn l (16 + i)) 16 = b
 rw [show a + (2 * P25519 + 38) * b = a + 38 * b + 2 * b * P25519 by grind, Nat.add_mul_mod_self_right]
theorem gn_dg (v i : Nat) (h : i < 16) : gn (dg v) i = v / 65536 ^ i % 65536 := dg_get v i h
theorem gn_lt (v i : Nat) : gn (dg v) i < 65536 := by
 by_cases h : i < 16
 ·
  rw [gn_dg v i h]; exact Nat.mod_lt _ (by decide)
 ·
  unfold gn; rw [List.getD_eq_getElem?_getD, List.getElem?_eq_none (by rw [dg_len]; omega)]; decide
theorem P16 {v : Nat} (h : v < P25519) : v < 65536 ^ 16 := Nat.lt_trans h P_lt
def sumP (u v : Nat) : List UInt64 := (List.range 16).map fun j => (dg u).getD j 0 + (dg v).getD j 0
theorem sumP_len (u v : Nat) : (sumP u v).length = 16 := rng_len
theorem sumP_ok {u v : Nat} (hu : u < P25519) (hv : v < P25519) : ∃ W, W < 65536 ^ 16 ∧ rdN (xiL (sumP u v) (sumP u v).length) 4 = dg W ∧ W % P25519 = (u + v) % P25519 := by
 have hg : ∀ i, i < 16 → gn (sumP u v) i = gn (dg u) i + 1 * gn (dg v) i := fun i hi => by
  have b1 := gn_lt u i
  have b2 := gn_lt v i
  unfold gn at b1 b2 ⊢
  unfold sumP
  rw [rng_getD hi, add_n _ _ (by omega), Nat.one_mul]
 obtain ⟨W, h1, h2, h3⟩ := red16 (sumP_len u v) (fun i hi => by have b1 := gn_lt u i; have b2 := gn_lt v i; rw [hg i hi]; omega)
 refine ⟨W, h1, h2, ?_⟩
 rw [h3, rv_gn, pv_congr (m := fun i => gn (dg u) i + 1 * gn (dg v) i) 16 hg, pv_add, ← rv_gn, ← rv_gn, rv_dg u (P16 hu), rv_dg v (P16 hv), Nat.one_mul]
def mP (x y : List UInt64) : Nat → Nat → UInt64
 | 0, _ => 0
 | i + 1, k => if i ≤ k ∧ k - i < 16 then mP x y i k + x.getD i 0 * y.getD (k - i) 0 else mP x y i k
def mQ (x y : List UInt64) (i j k : Nat) : UInt64 := if i ≤ k ∧ k - i < j then mP x y i k + x.getD i 0 * y.getD (k - i) 0 else mP x y i k
def mQL (x y : List UInt64) (i j : Nat) : List UInt64 := (List.range 32).map (mQ x y i j)
theorem mQL_len (x y : List UInt64) (i j : Nat) : (mQL x y i j).length = 32 := rng_len
theorem mQL_00 (x y : List UInt64) : mQL x y 0 0 = List.replicate 32 0 := rfl
theorem mQL_16 (x y : List UInt64) (i : Nat) : mQL x y i 16 = mQL x y (i + 1) 0 := by
 unfold mQL
 apply List.map_congr_left
 intro k _
 show (if i ≤ k ∧ k - i < 16 then _ else _) = if i + 1 ≤ k ∧ k - (i + 1) < 0 then _ else mP x y (i + 1) k
 rw [if_neg (show ¬ (i + 1 ≤ k ∧ k - (i + 1) < 0) by omega)]
 rfl
theorem mQL_s (x y : List UInt64) (i j : Nat) (hi : i < 16) (hj : j < 16) : (mQL x y i j).set (i + j) ((mQL x y i j).getD (i + j) 0 + x.getD i 0 * y.getD j 0) = mQL x y i (j + 1) := by
 unfold mQL
 rw [rng_getD (by omega)]
 apply List.ext_getElem?
 intro k
 rw [List.getElem?_set]
 by_cases hk : k < 32
 ·
  rw [List.getElem?_map, List.getElem?_range hk, List.getElem?_map, List.getElem?_range hk]
  simp only [Option.map_some, List.length_map, List.length_range]
  unfold mQ
  by_cases he : i + j = k
  ·
   subst he
   rw [if_pos rfl, if_pos (by omega), if_neg (by omega), if_pos (by omega), show i + j - i = j by omega]
  ·
   rw [if_neg he]
   by_cases h1 : i ≤ k ∧ k - i < j
   ·
    rw [if_pos h1, if_pos (by omega)]
   ·
    rw [if_neg h1, if_neg (by omega)]
 ·
  have h1 : ((List.range 32).map (mQ x y i j)).length = 32 := rng_len
  have h2 : ((List.range 32).map (mQ x y i (j + 1))).length = 32 := rng_len
  rw [if_neg (by omega), List.getElem?_eq_none (by omega), List.getElem?_eq_none (by omega)]
theorem pv_zero {B : Nat} : ∀ n, pv B (fun _ => 0) n = 0
 | 0 => rfl
 | n + 1 => by show pv B _ n + 0 * _ = 0; rw [pv_zero n, Nat.zero_mul]
theorem pv_shift {B : Nat} (y : Nat → Nat) (i : Nat) : ∀ n, pv B (fun k => if i ≤ k ∧ k - i < 16 then y (k - i) else 0) n = if n ≤ i then 0 else B ^ i * pv B y (min (n - i) 16)
 | 0 => by rw [if_pos (Nat.zero_le i)]; rfl
 | n + 1 => by
  show pv B (fun k => if i ≤ k ∧ k - i < 16 then y (k - i) else 0) n + (if i ≤ n ∧ n - i < 16 then y (n - i) else 0) * B ^ n = _
  rw [pv_shift y i n]
  by_cases h1 : n + 1 ≤ i
  ·
   rw [if_pos (show n ≤ i by omega), if_neg (show ¬ (i ≤ n ∧ n - i < 16) by omega), if_pos h1, Nat.zero_mul]
  ·
   rw [if_neg h1]
   by_cases h2 : n - i < 16
   ·
    rw [if_pos (show i ≤ n ∧ n - i < 16 by omega), show min (n + 1 - i) 16 = (n - i) + 1 by omega, show min (n - i) 16 = n - i by omega]
    show _ = B ^ i * (pv B y (n - i) + y (n - i) * B ^ (n - i))
    rw [Nat.mul_add, Nat.mul_left_comm, ← Nat.pow_add, show i + (n - i) = n by omega]
    by_cases h3 : n ≤ i
    ·
     rw [if_pos h3, show n - i = 0 by omega]
     show 0 + _ = B ^ i * 0 + _
     rw [Nat.mul_zero]
    ·
     rw [if_neg h3]
   ·
    rw [if_neg (show ¬ (i ≤ n ∧ n - i < 16) by omega), if_neg (show ¬ n ≤ i by omega), show min (n - i) 16 = 16 by omega, show min (n + 1 - i) 16 = 16 by omega, Nat.zero_mul, Nat.add_zero]
theorem mP_val {u v : Nat} : ∀ i, i ≤ 16 → (∀ k, (mP (dg u) (dg v) i k).toNat ≤ i * 4294967296) ∧ pv 65536 (fun k => (mP (dg u) (dg v) i k).toNat) 32 = pv 65536 (gn (dg u)) i * pv 65536 (gn (dg v)) 16
 | 0, _ => ⟨fun _ => Nat.zero_le _, by
   rw [show (fun k => (mP (dg u) (dg v) 0 k).toNat) = (fun _ => 0) from rfl, pv_zero, show pv 65536 (gn (dg u)) 0 = 0 from rfl, Nat.zero_mul]⟩
 | i + 1, h => by
  obtain ⟨h1, h2⟩ := mP_val (u := u) (v := v) i (by omega)
  have hx := gn_lt u i
  have hs : ∀ k, (mP (dg u) (dg v) (i + 1) k).toNat = (mP (dg u) (dg v) i k).toNat + gn (dg u) i * (if i ≤ k ∧ k - i < 16 then gn (dg v) (k - i) else 0) := fun k => by
   show (if i ≤ k ∧ k - i < 16 then _ else _ : UInt64).toNat = _
   by_cases hc : i ≤ k ∧ k - i < 16
   ·
    rw [if_pos hc, if_pos hc]
    have hy := gn_lt v (k - i)
    have hm : gn (dg u) i * gn (dg v) (k - i) ≤ 65535 * 65535 := Nat.mul_le_mul (by omega) (by omega)
    have hk := h1 k
    unfold gn at hm ⊢
    have m := mul_n ((dg u).getD i 0) ((dg v).getD (k - i) 0) (by omega)
    rw [add_n _ _ (by rw [m]; omega), m]
   ·
    rw [if_neg hc, if_neg hc]; simp
  refine ⟨fun k => ?_, ?_⟩
  ·
   rw [hs k]
   have hk := h1 k
   by_cases hc : i ≤ k ∧ k - i < 16
   ·
    rw [if_pos hc]
    have hy := gn_lt v (k - i)
    have hm : gn (dg u) i * gn (dg v) (k - i) ≤ 65535 * 65535 := Nat.mul_le_mul (by omega) (by omega)
    generalize gn (dg u) i * gn (dg v) (k - i) = z at hm
    generalize (mP (dg u) (dg v) i k).toNat = z2 at hk
    clear hs h2
    omega
   ·
    rw [if_neg hc, Nat.mul_zero, Nat.add_zero]; exact Nat.le_trans hk (Nat.mul_le_mul_right _ (Nat.le_succ i))
  ·
   rw [pv_congr (m := fun k => (mP (dg u) (dg v) i k).toNat + gn (dg u) i * (if i ≤ k ∧ k - i < 16 then gn (dg v) (k - i) else 0)) 32 (fun k _ => hs k), pv_add, h2, pv_shift, if_neg (by omega), show min (32 - i) 16 = 16 by omega]
   show _ = (pv 65536 (gn (dg u)) i + gn (dg u) i * 65536 ^ i) * _
   rw [Nat.add_mul, Nat.mul_assoc]
theorem mul_ok {u v : Nat} (hu : u < P25519) (hv : v < P25519) : ∃ W, W < 65536 ^ 16 ∧ rdN (xiL (mQL (dg u) (dg v) 16 0) (mQL (dg u) (dg v) 16 0).length) 4 = dg W ∧ W % P25519 = u * v % P25519 := by
 obtain ⟨h1, h2⟩ := mP_val (u := u) (v := v) 16 (by omega)
 have hg : ∀ i, i < 32 → gn (mQL (dg u) (dg v) 16 0) i = (mP (dg u) (dg v) 16 i).toNat := fun i hi => by
  unfold gn mQL
  rw [rng_getD hi]
  unfold mQ
  rw [if_neg (by omega)]
 obtain ⟨W, g1, g2, g3⟩ := red32 (mQL_len (dg u) (dg v) 16 0) (fun i hi => by rw [hg i hi]; have := h1 i; omega)
 refine ⟨W, g1, g2, ?_⟩
 rw [g3, pv_congr (m := fun k => (mP (dg u) (dg v) 16 k).toNat) 32 hg, h2, ← rv_gn, ← rv_gn, rv_dg u (P16 hu), rv_dg v (P16 hv)]
end Go.Sh
namespace Go.Sh
open Go.Proofs
set_option maxHeartbeats 8000000
theorem small_dg (n : UInt32) : [n.toUInt64 % 65536, n.toUInt64 / 65536, 0, 0, 0, 0, 0, 0, 0, 0, 0, 0, 0, 0, 0, 0] = dg n.toNat := by
 have hn := UInt32.toNat_lt n
 have e0 : (n.toUInt64 % 65536).toNat = n.toNat % 65536 := by rw [UInt64.toNat_mod, UInt32.toNat_toUInt64]; rfl
 have e1 : (n.toUInt64 / 65536).toNat = n.toNat / 65536 := by rw [UInt64.toNat_div, UInt32.toNat_toUInt64]; rfl
 have hl : [n.toUInt64 % 65536, n.toUInt64 / 65536, 0, 0, 0, 0, 0, 0, 0, 0, 0, 0, 0, 0, 0, 0].length = 16 := rfl
 obtain ⟨a, ha⟩ : ∃ a, a = n.toUInt64 % 65536 := ⟨_, rfl⟩
 obtain ⟨b, hb⟩ : ∃ b, b = n.toUInt64 / 65536 := ⟨_, rfl⟩
 rw [← ha] at e0 ⊢
 rw [← hb] at e1 ⊢
 have hz : ∀ i, ([a, b, 0, 0, 0, 0, 0, 0, 0, 0, 0, 0, 0, 0, 0, 0] : List UInt64).getD (2 + i) 0 = 0 := fun i => by
  rw [Nat.add_comm]
  show (List.replicate 14 (0 : UInt64)).getD i 0 = 0
  rw [List.getD_eq_getElem?_getD, List.getElem?_replicate]
  split <;> rfl
 have h := dg_rv (l := [a, b, 0, 0, 0, 0, 0, 0, 0, 0, 0, 0, 0, 0, 0, 0]) rfl (fun i hi => by
  by_cases h0 : i = 0
  ·
   subst h0; show a.toNat < _; rw [e0]; omega
  ·
   by_cases h1 : i = 1
   ·
    subst h1; show b.toNat < _; rw [e1]; omega
   ·
    obtain ⟨k, rfl⟩ : ∃ k, i = 2 + k := ⟨i - 2, by omega⟩
    rw [hz k]; decide)
 have hv : rv [a, b, 0, 0, 0, 0, 0, 0, 0, 0, 0, 0, 0, 0, 0, 0] = n.toNat := by
  have hs := pv_split (B := 65536) (gn [a, b, 0, 0, 0, 0, 0, 0, 0, 0, 0, 0, 0, 0, 0, 0]) 2 14
  rw [rv_gn, show 16 = 2 + 14 from rfl, hs, pv_congr (m := fun _ => 0) 14 (fun i _ => by unfold gn; rw [hz i]; rfl), pv_zero]
  show 0 + a.toNat * 65536 ^ 0 + b.toNat * 65536 ^ 1 + _ = _
  rw [e0, e1, Nat.pow_zero, Nat.pow_one, Nat.mul_zero]
  omega
 rw [hv] at h
 exact h
attribute [local irreducible] dg sumP mQL
theorem f24 (n : UInt32) : SCall Tryz.prog 42 [.u32 n] [] (.sl 0 0 16 1 true) [some (.row 81 ((dg n.toNat).map .u64))] := by
 rw [← small_dg]
 refine scall_of ttOk (by kernel_rfl : Tryz.prog.funcs[42]? = some Tryz.f42) rfl rfl rfl ?_
 try simp only [List.length_cons, List.length_nil, Nat.zero_add, Nat.reduceAdd]
 refine sw_ok ttOk mixed (by kernel_rfl) ?_
 conv => whnf
 repeat (first | (refine Exists.intro _ (And.intro rfl ?_); conv => whnf) | (refine And.intro (by first | omega | (simp; done) | fail) ?_; conv => whnf) | (refine And.intro ⟨by omega, by decide⟩ ?_; conv => whnf) | fail)
 refine ⟨[0], ?_, rfl, rfl, ?_, rfl⟩
 ·
  (repeat' (fail)) <;> first | rfl | fail
 ·
  (repeat' (first | exact trivial | refine And.intro ?_ ?_ | (refine wk_cons ?_ ?_))) <;> first | rfl | fail
theorem sumP_f (u v : Nat) : fil 16 16 (fun j => (dg u).getD j 0 + (dg v).getD j 0) (fun _ => 0) = sumP u v := by unfold sumP; exact fil_full ..
theorem f30 {u v : Nat} (hu : u < P25519) (hv : v < P25519) (f g : Bool) : SCall Tryz.prog 75 [.sl 0 0 16 1 f, .sl 1 0 16 1 g] [some (.ro ((dg u).map .u64)), some (.ro ((dg v).map .u64))] (.sl 2 0 16 1 true) [some (.ro ((dg u).map .u64)), some (.ro ((dg v).map .u64)), some (.row 81 ((dg ((u + v) % P25519)).map .u64))] := by
 obtain ⟨W, w1, w2, w3⟩ := sumP_ok hu hv
 have h84 := f84 (sumP u v) (.inl (sumP_len u v)) W w1 w2 true
 rw [w3] at h84
 have hul := dg_len u
 have hvl := dg_len v
 have hsl := sumP_len u v
 rw [hsl] at h84
 refine scall_of ttOk (by kernel_rfl : Tryz.prog.funcs[75]? = some Tryz.f75) rfl rfl rfl ?_
 try simp only [List.length_cons, List.length_nil, Nat.zero_add, Nat.reduceAdd]
 refine sw_ok ttOk mixed (by kernel_rfl) ?_
 conv => whnf
 repeat (first | (refine And.intro ⟨by omega, by decide⟩ ?_; conv => whnf) | fail)
 refine loop_rule ttOk mixed (by kernel_rfl) (ι := { i : Nat // i ≤ 16 }) (fun i => [(0, .sl 0 0 16 1 f), (1, .sl 1 0 16 1 g), (5, .sl 2 0 16 1 true), (6, .i (i.1 : Int))]) (fun i => [some (.ro ((dg u).map .u64)), some (.ro ((dg v).map .u64)), some (.row 81 ((fil 16 i.1 (fun j => (dg u).getD j 0 + (dg v).getD j 0) (fun _ => 0)).map .u64))]) (fun _ => 3) (fun i => 16 - i.1) ⟨0, by omega⟩ ?_ ?_
 ·
  have hz : fil 16 0 (fun j => (dg u).getD j 0 + (dg v).getD j 0) (fun _ => 0) = List.replicate 16 0 := fil_zero ..
  dsimp only
  rw [hz]
  refine Weak.sel [0, 1, 2] rfl rfl ?_ ?_ rfl rfl
  ·
   (repeat' (first | exact trivial | refine And.intro ?_ ?_ | fail)) <;> first | rfl | fail
  ·
   (repeat' (first | exact trivial | exact ren_z64 | refine And.intro ?_ ?_ | fail)) <;> first | rfl | exact ren_eq (by first | (simp; done) | fail) (by rfl) | fail
 ·
  rintro ⟨i, hi⟩
  have hfl := fil_len 16 i (fun j => (dg u).getD j 0 + (dg v).getD j 0) (fun _ => (0 : UInt64))
  dsimp only
  by_cases hi2 : i < 16
  ·
   have hlt : decide ((i : Int) < 16) = true := by simp; omega
   have hp1 : w64 ((i : Int) + 1) = ((i + 1 : Nat) : Int) := by simp only [w64_eq]; omega
   have hst := fil_setx (g := fun _ => (0 : UInt64)) (f := fun j => (dg u).getD j 0 + (dg v).getD j 0) hi2 rfl
   conv => whnf
   first | refine brT (by exact hlt) ?_ | fail
   conv => whnf
   repeat (first | (refine Exists.intro _ (And.intro (sput_m64 (i := i) (by first | rfl | omega | fail)) ?_); conv => whnf) | (refine Exists.intro _ (And.intro (sload_u64 (i := i) (by first | rfl | omega | fail) (by omega)) ?_); conv => whnf) | (refine Exists.intro _ (And.intro (idx_i (m := i) (by rfl)) ?_); conv => whnf) | (refine And.intro (by omega) ?_; conv => whnf) | (refine And.intro (by kernel_rfl) ?_; conv => whnf) | (refine And.intro ⟨by exact @rfl Nat _, by first | (simp only [hfl, hul, hvl, ti5_sz, ti81_sz, List.length_map, List.length_set]; omega) | fail⟩ ?_; conv => whnf) | fail)
   refine ⟨⟨i + 1, by omega⟩, by simp only; omega, ?_⟩
   refine Weak.sel [0, 1, 2] rfl rfl ?_ ?_ rfl rfl
   ·
    (repeat' (first | exact trivial | refine And.intro ?_ ?_ | fail)) <;> first | exact wk_i (by first | exact hp1 | exact hp1.symm | fail) | rfl | fail
   ·
    (repeat' (first | exact trivial | refine And.intro ?_ ?_ | fail)) <;> first | rfl | exact ren_eq (by first | rfl | (simp; done) | fail) (by rfl) | exact ren_m64 (by exact hst.symm) | fail
  ·
   obtain rfl : i = 16 := by omega
   rw [sumP_f]
   conv => whnf
   first | refine brF (by rfl) ?_ | fail
   conv => whnf
   refine ok1_callF [2] [false, true] false (h84) rfl rfl ⟨⟨rfl, by rfl⟩, by (repeat' (first | exact trivial | refine And.intro ?_ ?_)) <;> first | exact ren_eq (by first | (simp; done) | fail) (by rfl) | fail, by first | simp [plainHf, plainB], by rfl, ?_⟩
   conv => whnf
   refine ⟨[0, 1, 3], ?_, rfl, rfl, ?_, rfl⟩
   ·
    (repeat' (fail)) <;> first | rfl | fail
   ·
    (repeat' (first | exact trivial | refine And.intro ?_ ?_ | fail)) <;> first | rfl | exact ren_eq (by first | (simp; done) | fail) (by rfl) | fail
theorem f32 {u v : Nat} (hu : u < P25519) (hv : v < P25519) (f g : Bool) : SCall Tryz.prog 62 [.sl 0 0 16 1 f, .sl 1 0 16 1 g] [some (.ro ((dg u).map .u64)), some (.ro ((dg v).map .u64))] (.sl 2 0 16 1 true) [some (.ro ((dg u).map .u64)), some (.ro ((dg v).map .u64)), some (.row 81 ((dg (u * v % P25519)).map .u64))] := by
 obtain ⟨W, w1, w2, w3⟩ := mul_ok hu hv
 have h84 := f84 (mQL (dg u) (dg v) 16 0) (.inr (mQL_len ..)) W w1 w2 true
 rw [w3] at h84
 have hul := dg_len u
 have hvl := dg_len v
 rw [mQL_len] at h84
 refine scall_of ttOk (by kernel_rfl : Tryz.prog.funcs[62]? = some Tryz.f62) rfl rfl rfl ?_
 try simp only [List.length_cons, List.length_nil, Nat.zero_add, Nat.reduceAdd]
 refine sw_ok ttOk mixed (by kernel_rfl) ?_
 conv => whnf
 repeat (first | (refine And.intro ⟨by omega, by decide⟩ ?_; conv => whnf) | fail)
 refine loop_rule ttOk mixed (by kernel_rfl) (ι := { i : Nat // i ≤ 16 }) (fun i => [(0, .sl 0 0 16 1 f), (1, .sl 1 0 16 1 g), (5, .sl 2 0 32 1 true), (6, .i (i.1 : Int))]) (fun i => [some (.ro ((dg u).map .u64)), some (.ro ((dg v).map .u64)), some (.row 81 ((mQL (dg u) (dg v) i.1 0).map .u64))]) (fun _ => 3) (fun i => 16 - i.1) ⟨0, by omega⟩ ?_ ?_
 ·
  have hz := mQL_00 (dg u) (dg v)
  dsimp only
  rw [hz]
  refine Weak.sel [0, 1, 2] rfl rfl ?_ ?_ rfl rfl
  ·
   (repeat' (first | exact trivial | refine And.intro ?_ ?_ | fail)) <;> first | rfl | fail
  ·
   (repeat' (first | exact trivial | exact ren_z64 | refine And.intro ?_ ?_ | fail)) <;> first | rfl | exact ren_eq (by first | (simp; done) | fail) (by rfl) | fail
 ·
  rintro ⟨i, hi⟩
  dsimp only
  by_cases hi2 : i < 16
  ·
   have hlt : decide ((i : Int) < 16) = true := by simp; omega
   have hp1 : w64 ((i : Int) + 1) = ((i + 1 : Nat) : Int) := by simp only [w64_eq]; omega
   conv => whnf
   first | refine brT (by exact hlt) ?_ | fail
   conv => whnf
   refine loop_rule ttOk mixed (by kernel_rfl) (ι := { j : Nat // j ≤ 16 }) (fun j => [(0, .sl 0 0 16 1 f), (1, .sl 1 0 16 1 g), (5, .sl 2 0 32 1 true), (6, .i (i : Int)), (7, .i (j.1 : Int))]) (fun j => [some (.ro ((dg u).map .u64)), some (.ro ((dg v).map .u64)), some (.row 81 ((mQL (dg u) (dg v) i j.1).map .u64))]) (fun _ => 3) (fun j => 16 - j.1) ⟨0, by omega⟩ ?_ ?_
   ·
    refine Weak.sel [0, 1, 2] rfl rfl ?_ ?_ rfl rfl
    ·
     (repeat' (first | exact trivial | refine And.intro ?_ ?_ | fail)) <;> first | rfl | fail
    ·
     (repeat' (first | exact trivial | refine And.intro ?_ ?_ | fail)) <;> first | rfl | exact ren_eq (by first | (simp; done) | fail) (by rfl) | fail
   ·
    rintro ⟨j, hj⟩
    have hql := mQL_len (dg u) (dg v) i j
    dsimp only
    by_cases hj2 : j < 16
    ·
     have hlt2 : decide ((j : Int) < 16) = true := by simp; omega
     have hp2 : w64 ((j : Int) + 1) = ((j + 1 : Nat) : Int) := by simp only [w64_eq]; omega
     have hij : w64 ((i : Int) + (j : Int)) = ((i + j : Nat) : Int) := by simp only [w64_eq]; omega
     have hst := mQL_s (dg u) (dg v) i j hi2 hj2
     conv => whnf
     first | refine brT (by exact hlt2) ?_ | fail
     conv => whnf
     repeat (first | (refine Exists.intro _ (And.intro (sput_m64 (i := i + j) (by first | rfl | omega | fail)) ?_); conv => whnf) | (refine Exists.intro _ (And.intro (sload_u64 (i := i + j) (by first | rfl | omega | fail) (by omega)) ?_); conv => whnf) | (refine Exists.intro _ (And.intro (idx_i (m := i + j) (by first | rfl | omega | fail)) ?_); conv => whnf) | (refine Exists.intro _ (And.intro (sload_u64 (i := i) (by first | rfl | omega | fail) (by omega)) ?_); conv => whnf) | (refine Exists.intro _ (And.intro (idx_i (m := i) (by rfl)) ?_); conv => whnf) | (refine Exists.intro _ (And.intro (sload_u64 (i := j) (by first | rfl | omega | fail) (by omega)) ?_); conv => whnf) | (refine Exists.intro _ (And.intro (idx_i (m := j) (by rfl)) ?_); conv => whnf) | (refine And.intro (by first | omega | (simp; omega) | fail) ?_; conv => whnf) | (refine And.intro (by kernel_rfl) ?_; conv => whnf) | fail)
     refine ⟨⟨j + 1, by omega⟩, by simp only; omega, ?_⟩
     refine Weak.sel [0, 1, 2] rfl rfl ?_ ?_ rfl rfl
     ·
      (repeat' (first | exact trivial | refine And.intro ?_ ?_ | fail)) <;> first | exact wk_i (by first | exact hp2 | exact hp2.symm | fail) | rfl | fail
     ·
      (repeat' (first | exact trivial | refine And.intro ?_ ?_ | fail)) <;> first | rfl | exact ren_eq (by first | (simp; done) | fail) (by rfl) | exact ren_m64 (by exact hst.symm) | fail
    ·
     obtain rfl : j = 16 := by omega
     have h16 := mQL_16 (dg u) (dg v) i
     conv => whnf
     first | refine brF (by rfl) ?_ | fail
     conv => whnf
     refine ⟨⟨i + 1, by omega⟩, by simp only; omega, ?_⟩
     refine Weak.sel [0, 1, 2] rfl rfl ?_ ?_ rfl rfl
     ·
      (repeat' (first | exact trivial | refine And.intro ?_ ?_ | fail)) <;> first | exact wk_i (by first | exact hp1 | exact hp1.symm | fail) | rfl | fail
     ·
      (repeat' (first | exact trivial | refine And.intro ?_ ?_ | fail)) <;> first | rfl | exact ren_eq (by first | (simp; done) | fail) (by first | rfl | (simp [hp1, h16]; done) | fail) | fail
  ·
   obtain rfl : i = 16 := by omega
   conv => whnf
   first | refine brF (by rfl) ?_ | fail
   conv => whnf
   refine ok1_callF [2] [false, true] false (h84) rfl rfl ⟨⟨rfl, by rfl⟩, by (repeat' (first | exact trivial | refine And.intro ?_ ?_)) <;> first | exact ren_eq (by first | (simp; done) | fail) (by rfl) | fail, by first | simp [plainHf, plainB], by rfl, ?_⟩
   conv => whnf
   refine ⟨[0, 1, 3], ?_, rfl, rfl, ?_, rfl⟩
   ·
    (repeat' (fail)) <;> first | rfl | fail
   ·
    (repeat' (first | exact trivial | refine And.intro ?_ ?_ | fail)) <;> first | rfl | exact ren_eq (by first | (simp; done) | fail) (by rfl) | fail
end Go.Sh
namespace Go.Sh
open Go.Proofs
set_option maxHeartbeats 8000000
def bo (x y : List UInt64) : Nat → UInt64
 | 0 => 0
 | i + 1 => if 65536 + x.getD i 0 + pp.getD i 0 - y.getD i 0 - bo x y i < 65536 then 1 else 0
def bd (x y : List UInt64) (i : Nat) : UInt64 := 65536 + x.getD i 0 + pp.getD i 0 - y.getD i 0 - bo x y i
def bp (x y : List UInt64) (i : Nat) : UInt64 := bd x y i - 65536 * (1 - bo x y (i + 1))
theorem bo_0 (x y : List UInt64) : bo x y 0 = 0 := rfl
theorem bo_s (x y : List UInt64) (i : Nat) : bo x y (i + 1) = if bd x y i < 65536 then 1 else 0 := rfl
theorem bd_e (x y : List UInt64) (i : Nat) : bd x y i = 65536 + x.getD i 0 + pp.getD i 0 - y.getD i 0 - bo x y i := rfl
theorem bp_e (x y : List UInt64) (i : Nat) : bp x y i = bd x y i - 65536 * (1 - bo x y (i + 1)) := rfl
theorem bo_le (x y : List UInt64) : ∀ i, (bo x y i).toNat ≤ 1
 | 0 => by rw [bo_0]; decide
 | i + 1 => by rw [bo_s]; split <;> decide
theorem sub1 {x p y b : UInt64} (hx : x.toNat < 65536) (hp : p.toNat < 65536) (hy : y.toNat < 65536) (hb : b.toNat ≤ 1) : (65536 + x + p - y - b).toNat = 65536 + x.toNat + p.toNat - y.toNat - b.toNat := by
 have h1 : (65536 + x).toNat = 65536 + x.toNat := add_n 65536 x (by show 65536 + _ < _; omega)
 have h2 : (65536 + x + p).toNat = 65536 + x.toNat + p.toNat := by rw [add_n _ _ (by omega), h1]
 have h3 : (65536 + x + p - y).toNat = 65536 + x.toNat + p.toNat - y.toNat := by rw [sub_n _ _ (by omega), h2]
 rw [sub_n _ _ (by omega), h3]
theorem bd_n (u v i : Nat) : (bd (dg u) (dg v) i).toNat = 65536 + gn (dg u) i + gn pp i - gn (dg v) i - (bo (dg u) (dg v) i).toNat := by
 have h1 := gn_lt u i
 have h2 := gn_lt P25519 i
 have h3 := gn_lt v i
 exact sub1 h1 h2 h3 (bo_le _ _ i)
theorem bp_n (u v i : Nat) : (bp (dg u) (dg v) i).toNat + gn (dg v) i + (bo (dg u) (dg v) i).toNat = gn (dg u) i + gn pp i + 65536 * (bo (dg u) (dg v) (i + 1)).toNat ∧ ((bo (dg u) (dg v) (i + 1)).toNat = 1 → gn (dg u) i + gn pp i < gn (dg v) i + (bo (dg u) (dg v) i).toNat) ∧ (bp (dg u) (dg v) i).toNat < 262144 := by
 have h1 := gn_lt u i
 have h2 : gn pp i < 65536 := gn_lt P25519 i
 have h3 := gn_lt v i
 have hb := bo_le (dg u) (dg v) i
 have hd := bd_n u v i
 rw [bp_e, bo_s]
 by_cases hc : bd (dg u) (dg v) i < 65536
 ·
  rw [if_pos hc]
  have hc2 : (bd (dg u) (dg v) i).toNat < 65536 := UInt64.lt_iff_toNat_lt.1 hc
  have e : bd (dg u) (dg v) i - 65536 * (1 - 1) = bd (dg u) (dg v) i := by rw [show (65536 : UInt64) * (1 - 1) = 0 by decide, UInt64.sub_zero]
  rw [e, show (1 : UInt64).toNat = 1 from rfl]
  omega
 ·
  rw [if_neg hc]
  have hc2 : ¬ (bd (dg u) (dg v) i).toNat < 65536 := fun h => hc (UInt64.lt_iff_toNat_lt.2 h)
  have e : (bd (dg u) (dg v) i - 65536 * (1 - 0)).toNat = (bd (dg u) (dg v) i).toNat - 65536 := by
   rw [show (65536 : UInt64) * (1 - 0) = 65536 by decide, sub_n _ _ (by show 65536 ≤ _; omega)]; rfl
  rw [e, show (0 : UInt64).toNat = 0 from rfl]
  omega
theorem bp_sum (u v : Nat) : ∀ i, pv 65536 (fun i => (bp (dg u) (dg v) i).toNat) i + pv 65536 (gn (dg v)) i = pv 65536 (gn (dg u)) i + pv 65536 (gn pp) i + (bo (dg u) (dg v) i).toNat * 65536 ^ i
 | 0 => rfl
 | i + 1 => by
  have ih := bp_sum u v i
  obtain ⟨h, _, _⟩ := bp_n u v i
  show pv 65536 _ i + (bp (dg u) (dg v) i).toNat * 65536 ^ i + (pv 65536 _ i + gn (dg v) i * 65536 ^ i) = (pv 65536 _ i + gn (dg u) i * 65536 ^ i) + (pv 65536 _ i + gn pp i * 65536 ^ i) + (bo (dg u) (dg v) (i + 1)).toNat * 65536 ^ (i + 1)
  rw [Nat.pow_succ]
  generalize pv 65536 (fun i => (bp (dg u) (dg v) i).toNat) i = A at *
  generalize pv 65536 (gn (dg v)) i = B at *
  generalize pv 65536 (gn (dg u)) i = C at *
  generalize pv 65536 (gn pp) i = D at *
  generalize (bp (dg u) (dg v) i).toNat = a at *
  generalize gn (dg v) i = b at *
  generalize gn (dg u) i = c at *
  generalize gn pp i = d at *
  generalize (bo (dg u) (dg v) i).toNat = e at *
  generalize (bo (dg u) (dg v) (i + 1)).toNat = f at *
  generalize 65536 ^ i = q at *
  have := congrArg (fun z => z * q) h
  simp only [Nat.add_mul] at this
  grind
theorem pp_mid : ∀ i, i < 16 → 1 ≤ i → i < 15 → gn pp i = 65535 := by decide +kernel
theorem pp_15 : gn pp 15 = 32767 := by decide +kernel
theorem pv_s1 {B : Nat} (l : Nat → Nat) (n : Nat) : pv B l (n + 1) = pv B l n + l n * B ^ n := rfl
theorem bo_chain {u v : Nat} (hv : v < P25519) (i : Nat) : i < 16 → (bo (dg u) (dg v) (i + 1)).toNat = 1 → pv 65536 (gn (dg u)) (i + 1) + pv 65536 (gn pp) (i + 1) < pv 65536 (gn (dg v)) (i + 1) := by
 induction i with
 | zero =>
  intro _ h
  obtain ⟨_, h2, _⟩ := bp_n u v 0
  have h3 := h2 h
  rw [bo_0, show (0 : UInt64).toNat = 0 from rfl] at h3
  rw [pv_s1, pv_s1, pv_s1, Nat.pow_zero, Nat.mul_one, Nat.mul_one, Nat.mul_one, show pv 65536 (gn (dg u)) 0 = 0 from rfl, show pv 65536 (gn pp) 0 = 0 from rfl, show pv 65536 (gn (dg v)) 0 = 0 from rfl]
  clear h2 h
  omega
 | succ i ih =>
  intro hi h
  obtain ⟨_, h2, _⟩ := bp_n u v (i + 1)
  have h3 := h2 h
  have hb := bo_le (dg u) (dg v) (i + 1)
  have hle : gn (dg v) (i + 1) ≤ gn pp (i + 1) := by
   by_cases h15 : i + 1 = 15
   ·
    rw [h15, pp_15, gn_dg v 15 (by decide)]
    have : v / 65536 ^ 15 ≤ P25519 / 65536 ^ 15 := Nat.div_le_div_right (Nat.le_of_lt hv)
    rw [show P25519 / 65536 ^ 15 = 32767 by decide +kernel] at this
    exact Nat.le_trans (Nat.mod_le _ _) this
   ·
    rw [pp_mid (i + 1) hi (by omega) (by omega)]
    have := gn_lt v (i + 1); omega
  have hb1 : (bo (dg u) (dg v) (i + 1)).toNat = 1 := by omega
  have ih := ih (by omega) hb1
  have hx : gn (dg u) (i + 1) = 0 := by omega
  have hy : gn (dg v) (i + 1) = gn pp (i + 1) := by omega
  rw [pv_s1 _ (i + 1), pv_s1 _ (i + 1), pv_s1 _ (i + 1), hx, hy, Nat.zero_mul]
  generalize gn pp (i + 1) * 65536 ^ (i + 1) = z
  clear h2 h3 hle hx hy hb hb1 h
  omega
def difP (u v : Nat) : List UInt64 := (List.range 16).map (bp (dg u) (dg v))
theorem difP_len (u v : Nat) : (difP u v).length = 16 := rng_len
theorem difP_ok {u v : Nat} (hu : u < P25519) (hv : v < P25519) : ∃ W, W < 65536 ^ 16 ∧ rdN (xiL (difP u v) (difP u v).length) 4 = dg W ∧ W % P25519 = (u + (P25519 - v)) % P25519 := by
 have hg : ∀ i, i < 16 → gn (difP u v) i = (bp (dg u) (dg v) i).toNat := fun i hi => by unfold gn difP; rw [rng_getD hi]
 obtain ⟨W, h1, h2, h3⟩ := red16 (difP_len u v) (fun i hi => by rw [hg i hi]; exact Nat.lt_trans (bp_n u v i).2.2 (by decide))
 refine ⟨W, h1, h2, ?_⟩
 have hs := bp_sum u v 16
 have ex : pv 65536 (gn (dg u)) 16 = u := by rw [← rv_gn]; exact rv_dg u (P16 hu)
 have ey : pv 65536 (gn (dg v)) 16 = v := by rw [← rv_gn]; exact rv_dg v (P16 hv)
 have ep : pv 65536 (gn pp) 16 = P25519 := by rw [← rv_gn]; exact rv_dg P25519 P_lt
 have hb0 : (bo (dg u) (dg v) 16).toNat = 0 := by
  rcases Nat.eq_zero_or_pos (bo (dg u) (dg v) 16).toNat with e | e
  ·
   exact e
  ·
   have h1 := bo_le (dg u) (dg v) 16
   have := bo_chain (u := u) hv 15 (by decide) (show (bo (dg u) (dg v) (15 + 1)).toNat = 1 from Nat.le_antisymm h1 e)
   rw [show 15 + 1 = 16 from rfl, ex, ey, ep] at this
   omega
 rw [ex, ey, ep, hb0, Nat.zero_mul, Nat.add_zero] at hs
 rw [h3, rv_gn, pv_congr (m := fun i => (bp (dg u) (dg v) i).toNat) 16 hg]
 have he : pv 65536 (fun i => (bp (dg u) (dg v) i).toNat) 16 = u + (P25519 - v) := by
  generalize pv 65536 (fun i => (bp (dg u) (dg v) i).toNat) 16 = A at hs
  clear ex ey ep hb0 h1 h2 h3
  omega
 rw [he]
theorem pw_lt (x : Nat) : ∀ k, pw x k < P25519 := fun k => by rw [pw_eq]; exact mod_lt_P _
theorem pw_s (x k : Nat) : pw x (k + 1) = if k = 250 ∨ k = 252 then pw x k * pw x k % P25519 else pw x k * pw x k % P25519 * x % P25519 := rfl
theorem pw_0 (x : Nat) : pw x (255 - 255) = (1 : UInt32).toNat := rfl
attribute [local irreducible] dg bo bd bp difP pp pw
theorem f33 {x : Nat} (hx : x < P25519) (f : Bool) : SCall Tryz.prog 63 [.sl 0 0 16 1 f] [some (.ro ((dg x).map .u64))] (.sl 1 0 16 1 true) [some (.ro ((dg x).map .u64)), some (.row 81 ((dg (invN x)).map .u64))] := by
 have h24 := f24 1
 refine scall_of ttOk (by kernel_rfl : Tryz.prog.funcs[63]? = some Tryz.f63) rfl rfl rfl ?_
 try simp only [List.length_cons, List.length_nil, Nat.zero_add, Nat.reduceAdd]
 refine sw_ok ttOk mixed (by kernel_rfl) ?_
 conv => whnf
 refine ok1_callF [] [true] false (h24) rfl rfl ⟨⟨rfl, by rfl⟩, trivial, by first | simp [plainHf, plainB], by rfl, ?_⟩
 conv => whnf
 refine loop_rule ttOk mixed (by kernel_rfl) (ι := { m : Nat // m ≤ 255 }) (fun m => [(0, .sl 0 0 16 1 f), (3, .sl 1 0 16 1 true), (4, .i ((m.1 : Int) - 1))]) (fun m => [some (.ro ((dg x).map .u64)), some (.row 81 ((dg (pw x (255 - m.1))).map .u64))]) (fun _ => 2) (fun m => m.1) ⟨255, by omega⟩ ?_ ?_
 ·
  have hz : pw x (255 - 255) = (1 : UInt32).toNat := pw_0 x
  dsimp only
  rw [hz]
  refine Weak.sel [0, 1] rfl rfl ?_ ?_ rfl rfl
  ·
   (repeat' (first | exact trivial | refine And.intro ?_ ?_ | fail)) <;> first | rfl | fail
  ·
   (repeat' (first | exact trivial | refine And.intro ?_ ?_ | fail)) <;> first | rfl | exact ren_eq (by first | (simp; done) | fail) (by rfl) | fail
 ·
  rintro ⟨m, hm⟩
  dsimp only
  by_cases hm0 : 0 < m
  ·
   obtain ⟨k, rfl⟩ : ∃ k, m = k + 1 := ⟨m - 1, by omega⟩
   have hlt : decide ((((k + 1 : Nat) : Int) - 1) ≥ 0) = true := by simp
   have hp1 : w64 (((k + 1 : Nat) : Int) - 1 - 1) = (k : Int) - 1 := by simp only [w64_eq]; omega
   have hs := pw_s x (255 - (k + 1))
   rw [show 255 - (k + 1) + 1 = 255 - k by omega] at hs
   have ho := pw_lt x (255 - (k + 1))
   obtain ⟨o, hoo⟩ : ∃ o, o = pw x (255 - (k + 1)) := ⟨_, rfl⟩
   rw [← hoo] at hs ho ⊢
   have h32 := f32 ho ho true true
   have h32b := f32 (mod_lt_P (o * o)) hx true f
   by_cases h4 : k = 4 ∨ k = 2
   ·
    rw [if_pos (by omega)] at hs
    rcases h4 with rfl | rfl
    ·
     conv => whnf
     first | refine brT (by rfl) ?_ | fail
     conv => whnf
     refine ok1_callF [1, 1] [false, false, true] false (h32) rfl rfl ⟨⟨rfl, by rfl⟩, by (repeat' (first | exact trivial | refine And.intro ?_ ?_)) <;> first | exact ren_eq (by first | (simp; done) | fail) (by rfl) | fail, by first | simp [plainHf, plainB], by rfl, ?_⟩
     conv => whnf
     repeat (first | (refine brT rfl ?_; conv => whnf) | (refine brF rfl ?_; conv => whnf) | (refine Exists.intro _ (And.intro rfl ?_); conv => whnf) | fail)
     refine ⟨⟨_, Nat.le_of_succ_le hm⟩, Nat.lt_succ_self _, ?_⟩
     dsimp only
     rw [hs]
     refine Weak.sel [0, 2] rfl rfl ?_ ?_ rfl rfl
     ·
      (repeat' (first | exact trivial | refine And.intro ?_ ?_ | fail)) <;> first | exact wk_i (by exact hp1) | rfl | fail
     ·
      (repeat' (first | exact trivial | refine And.intro ?_ ?_ | fail)) <;> first | rfl | exact ren_eq (by first | (simp; done) | fail) (by rfl) | fail
    ·
     conv => whnf
     first | refine brT (by rfl) ?_ | fail
     conv => whnf
     refine ok1_callF [1, 1] [false, false, true] false (h32) rfl rfl ⟨⟨rfl, by rfl⟩, by (repeat' (first | exact trivial | refine And.intro ?_ ?_)) <;> first | exact ren_eq (by first | (simp; done) | fail) (by rfl) | fail, by first | simp [plainHf, plainB], by rfl, ?_⟩
     conv => whnf
     repeat (first | (refine brF rfl ?_; conv => whnf) | (refine Exists.intro _ (And.intro rfl ?_); conv => whnf) | fail)
     refine ⟨⟨_, Nat.le_of_succ_le hm⟩, Nat.lt_succ_self _, ?_⟩
     dsimp only
     rw [hs]
     refine Weak.sel [0, 2] rfl rfl ?_ ?_ rfl rfl
     ·
      (repeat' (first | exact trivial | refine And.intro ?_ ?_ | fail)) <;> first | exact wk_i (by exact hp1) | rfl | fail
     ·
      (repeat' (first | exact trivial | refine And.intro ?_ ?_ | fail)) <;> first | rfl | exact ren_eq (by first | (simp; done) | fail) (by rfl) | fail
   ·
    rw [if_neg (by omega)] at hs
    have g4 : (((k + 1 : Nat) : Int) - 1 != 4) = true := by simp; omega
    have g2 : (((k + 1 : Nat) : Int) - 1 != 2) = true := by simp; omega
    conv => whnf
    first | refine brT (by exact hlt) ?_ | fail
    conv => whnf
    refine ok1_callF [1, 1] [false, false, true] false (h32) rfl rfl ⟨⟨rfl, by rfl⟩, by (repeat' (first | exact trivial | refine And.intro ?_ ?_)) <;> first | exact ren_eq (by first | (simp; done) | fail) (by rfl) | fail, by first | simp [plainHf, plainB], by rfl, ?_⟩
    conv => whnf
    repeat (first | (refine gdT g2 ?_; conv => whnf) | (refine pkT g2 ?_; conv => whnf) | (refine gdT g4 ?_; conv => whnf) | fail)
    refine ok1_callF [2, 0] [false, false, true] false (h32b) rfl rfl ⟨⟨rfl, by rfl⟩, by (repeat' (first | exact trivial | refine And.intro ?_ ?_)) <;> first | exact ren_eq (by first | (simp; done) | fail) (by rfl) | fail, by first | simp [plainHf, plainB], by rfl, ?_⟩
    conv => whnf
    refine ⟨⟨k, by omega⟩, by simp only; omega, ?_⟩
    dsimp only
    rw [hs]
    refine Weak.sel [0, 3] rfl rfl ?_ ?_ rfl rfl
    ·
     (repeat' (first | exact trivial | refine And.intro ?_ ?_ | fail)) <;> first | exact wk_i (by first | exact hp1 | exact hp1.symm | fail) | rfl | fail
    ·
     (repeat' (first | exact trivial | refine And.intro ?_ ?_ | fail)) <;> first | rfl | exact ren_eq (by first | (simp; done) | fail) (by rfl) | fail
  ·
   obtain rfl : m = 0 := by omega
   have hfin : pw x (255 - 0) = invN x := rfl
   rw [hfin]
   conv => whnf
   first | refine brF (by rfl) ?_ | fail
   conv => whnf
   refine ⟨[0, 1], ?_, rfl, rfl, ?_, rfl⟩
   ·
    (repeat' (fail)) <;> first | rfl | fail
   ·
    (repeat' (first | exact trivial | refine And.intro ?_ ?_ | fail)) <;> first | rfl | exact ren_eq (by first | (simp; done) | fail) (by rfl) | fail
end Go.Sh
namespace Go.Sh
open Go.Proofs
set_option maxHeartbeats 8000000
theorem difP_f (u v : Nat) : fil 16 16 (bp (dg u) (dg v)) (fun _ => 0) = difP u v := by unfold difP; exact fil_full ..
def b2 (v i : Nat) : List UInt8 := [((dg v).getD i 0 % 256).toUInt8, ((dg v).getD i 0 / 256).toUInt8]
theorem le32_2 (v i : Nat) (hi : i < 16) : (le32 v).take (2 * i) ++ b2 v i = (le32 v).take (2 * (i + 1)) := by
 have hl := le32_len v
 have hg := dg_get v i hi
 have e1 : ∀ k, k < 32 → (le32 v)[k]? = some (UInt8.ofNat (v / 256 ^ k % 256)) := fun k hk => by
  unfold le32; rw [List.getElem?_map, List.getElem?_range hk]; rfl
 have p16 : (65536 : Nat) ^ i = 256 ^ (2 * i) := by rw [Nat.pow_mul]
 have h0 : ((dg v).getD i 0 % 256).toUInt8 = UInt8.ofNat (v / 256 ^ (2 * i) % 256) := by
  apply UInt8.toNat_inj.mp
  rw [UInt64.toNat_toUInt8, UInt64.toNat_mod, hg, UInt8.toNat_ofNat', p16]
  generalize v / 256 ^ (2 * i) = z
  show z % 65536 % 256 % 2 ^ 8 = _
  omega
 have h1 : ((dg v).getD i 0 / 256).toUInt8 = UInt8.ofNat (v / 256 ^ (2 * i + 1) % 256) := by
  apply UInt8.toNat_inj.mp
  rw [UInt64.toNat_toUInt8, UInt64.toNat_div, hg, UInt8.toNat_ofNat', p16, show (256 : Nat) ^ (2 * i + 1) = 256 ^ (2 * i) * 256 from Nat.pow_succ _ _, ← Nat.div_div_eq_div_mul]
  generalize v / 256 ^ (2 * i) = z
  show z % 65536 / 256 % 2 ^ 8 = _
  omega
 apply List.ext_getElem?
 intro k
 have hlt : ((le32 v).take (2 * i)).length = 2 * i := by rw [List.length_take]; omega
 by_cases hk : k < 2 * i
 ·
  rw [List.getElem?_append_left (by omega), List.getElem?_take_of_lt hk, List.getElem?_take_of_lt (by omega)]
 ·
  rw [List.getElem?_append_right (by omega), hlt]
  by_cases hk2 : k < 2 * (i + 1)
  ·
   rw [List.getElem?_take_of_lt hk2]
   have : k = 2 * i ∨ k = 2 * i + 1 := by omega
   unfold b2
   rcases this with rfl | rfl
   ·
    rw [Nat.sub_self, e1 _ (by omega), h0]; rfl
   ·
    rw [show 2 * i + 1 - 2 * i = 1 by omega, e1 _ (by omega), ← h1]; rfl
  ·
   rw [List.getElem?_eq_none (by unfold b2; simp; omega), List.getElem?_eq_none (by simp; omega)]
def cB (b : List UInt8) (i : Nat) : UInt64 := if i % 2 = 1 then 256 * (if i = 31 then (b.getD i 0).toUInt64 % 128 else (b.getD i 0).toUInt64) else (b.getD i 0).toUInt64
def oP (b : List UInt8) : Nat → Nat → UInt64
 | 0, _ => 0
 | i + 1, k => if i / 2 = k then oP b i k + cB b i else oP b i k
def oPL (b : List UInt8) (i : Nat) : List UInt64 := (List.range 16).map (oP b i)
theorem oPL_len (b : List UInt8) (i : Nat) : (oPL b i).length = 16 := rng_len
theorem oPL_0 (b : List UInt8) : oPL b 0 = List.replicate 16 0 := rfl
theorem oPL_s (b : List UInt8) (i : Nat) (hi : i < 32) {z : UInt64} (hz : z = cB b i) : (oPL b i).set (i / 2) ((oPL b i).getD (i / 2) 0 + z) = oPL b (i + 1) := by
 subst hz
 unfold oPL
 rw [rng_getD (by omega)]
 apply List.ext_getElem?
 intro k
 rw [List.getElem?_set]
 by_cases hk : k < 16
 ·
  rw [List.getElem?_map, List.getElem?_range hk, List.getElem?_map, List.getElem?_range hk]
  simp only [Option.map_some, List.length_map, List.length_range]
  by_cases he : i / 2 = k
  ·
   subst he
   rw [if_pos rfl, if_pos (by omega)]
   show some _ = some (if i / 2 = i / 2 then _ else _)
   rw [if_pos rfl]
  ·
   rw [if_neg he]
   show some _ = some (if i / 2 = k then _ else _)
   rw [if_neg he]
 ·
  have h1 : ((List.range 16).map (oP b i)).length = 16 := rng_len
  have h2 : ((List.range 16).map (oP b (i + 1))).length = 16 := rng_len
  rw [if_neg (by omega), List.getElem?_eq_none (by omega), List.getElem?_eq_none (by omega)]
def byM (b : List UInt8) (i : Nat) : Nat := if i = 31 then byN b i % 128 else byN b i
theorem cB_n (b : List UInt8) (i : Nat) : (cB b i).toNat = if i % 2 = 1 then 256 * byM b i else byN b i := by
 have hb := byN_lt b i
 unfold cB byM
 by_cases h : i % 2 = 1
 ·
  rw [if_pos h, if_pos h]
  by_cases h31 : i = 31
  ·
   rw [if_pos h31, if_pos h31]
   have e : ((b.getD i 0).toUInt64 % 128).toNat = byN b i % 128 := by rw [UInt64.toNat_mod, UInt8.toNat_toUInt64]; rfl
   rw [mul_n 256 _ (by rw [e]; show 256 * _ < _; omega), e]; rfl
  ·
   rw [if_neg h31, if_neg h31]
   have e : ((b.getD i 0).toUInt64).toNat = byN b i := by rw [UInt8.toNat_toUInt64]; rfl
   rw [mul_n 256 _ (by rw [e]; show 256 * _ < _; omega), e]; rfl
 ·
  rw [if_neg h, if_neg h, UInt8.toNat_toUInt64]; rfl
theorem oP_n (b : List UInt8) (k : Nat) (hk : k < 16) : ∀ i, i ≤ 32 → (oP b i k).toNat = (if 2 * k < i then byN b (2 * k) else 0) + (if 2 * k + 1 < i then 256 * byM b (2 * k + 1) else 0)
 | 0, _ => by simp [oP]
 | i + 1, h => by
  have ih := oP_n b k hk i (by omega)
  have hc := cB_n b i
  show (if i / 2 = k then oP b i k + cB b i else oP b i k).toNat = _
  by_cases he : i / 2 = k
  ·
   rw [if_pos he]
   by_cases hp : i % 2 = 1
   ·
    have hi : i = 2 * k + 1 := by omega
    subst hi
    rw [if_pos (by omega), if_neg (by omega)] at ih
    rw [if_pos hp] at hc
    rw [if_pos (by omega), if_pos (by omega)]
    have h1 := byN_lt b (2 * k)
    have h2 : byM b (2 * k + 1) < 256 := by
     have := byN_lt b (2 * k + 1)
     unfold byM; split <;> omega
    rw [add_n _ _ (by rw [ih, hc]; omega), ih, hc]; omega
   ·
    have hi : i = 2 * k := by omega
    subst hi
    rw [if_neg (by omega), if_neg (by omega)] at ih
    rw [if_neg hp] at hc
    rw [if_pos (by omega), if_neg (by omega)]
    have h1 := byN_lt b (2 * k)
    rw [add_n _ _ (by rw [ih, hc]; omega), ih, hc]; omega
  ·
   rw [if_neg he, ih]
   congr 1
   ·
    by_cases h1 : 2 * k < i
    ·
     rw [if_pos h1, if_pos (by omega)]
    ·
     rw [if_neg h1, if_neg (by omega)]
   ·
    by_cases h1 : 2 * k + 1 < i
    ·
     rw [if_pos h1, if_pos (by omega)]
    ·
     rw [if_neg h1, if_neg (by omega)]
theorem pv_pair (l : Nat → Nat) : ∀ n, pv 65536 (fun k => l (2 * k) + 256 * l (2 * k + 1)) n = pv 256 l (2 * n)
 | 0 => rfl
 | n + 1 => by
  rw [show 2 * (n + 1) = 2 * n + 1 + 1 by omega, pv_s1, pv_s1, pv_s1, pv_pair l n, Nat.pow_succ, show (65536 : Nat) ^ n = 256 ^ (2 * n) by rw [Nat.pow_mul], Nat.add_mul, Nat.add_assoc, Nat.mul_assoc, Nat.mul_comm 256 (l _ * _), Nat.mul_assoc]
theorem bn_M (b : List UInt8) : bn b = pv 256 (byM b) 32 := by
 unfold bn bv
 have hc : pv 256 (byM b) 31 = pv 256 (byN b) 31 := pv_congr 31 (fun i hi => by unfold byM; rw [if_neg (by omega)])
 have hlt := pv_lt (B := 256) (by decide) (byN_lt b) 31
 have h31 : byM b 31 = byN b 31 % 128 := by unfold byM; rw [if_pos rfl]
 show pv 256 (byN b) (31 + 1) % _ = pv 256 (byM b) (31 + 1)
 rw [pv_s1 (byN b) 31, pv_s1 (byM b) 31, hc, h31]
 clear hc h31
 generalize pv 256 (byN b) 31 = a at *
 generalize byN b 31 = c at *
 rw [show (256 : Nat) ^ 31 = 452312848583266388373324160190187140051835877600158453279131187530910662656 by decide] at *
 omega
theorem oPL_ok (b : List UInt8) : ∃ W, W < 65536 ^ 16 ∧ rdN (xiL (oPL b 32) (oPL b 32).length) 4 = dg W ∧ W % P25519 = br b := by
 have hg : ∀ k, k < 16 → gn (oPL b 32) k = byM b (2 * k) + 256 * byM b (2 * k + 1) := fun k hk => by
  unfold gn oPL
  rw [rng_getD hk, oP_n b k hk 32 (by omega), if_pos (by omega), if_pos (by omega)]
  congr 1
  unfold byM; rw [if_neg (by omega)]
 obtain ⟨W, h1, h2, h3⟩ := red16 (oPL_len b 32) (fun i hi => by
  rw [hg i hi]
  have h : ∀ j, byM b j < 256 := fun j => by have := byN_lt b j; unfold byM; split <;> omega
  have := h (2 * i); have := h (2 * i + 1); omega)
 refine ⟨W, h1, h2, ?_⟩
 rw [h3, rv_gn, pv_congr (m := fun k => byM b (2 * k) + 256 * byM b (2 * k + 1)) 16 hg, pv_pair]
 unfold br
 rw [bn_M]
end Go.Sh
namespace Go.Sh
open Go.Proofs
set_option maxHeartbeats 8000000
attribute [local irreducible] dg bo bd bp difP pp le32 oPL sumP
theorem f31 {u v : Nat} (hu : u < P25519) (hv : v < P25519) (f g : Bool) : SCall Tryz.prog 76 [.sl 0 0 16 1 f, .sl 1 0 16 1 g] [some (.ro ((dg u).map .u64)), some (.ro ((dg v).map .u64))] (.sl 2 0 16 1 true) [some (.ro ((dg u).map .u64)), some (.ro ((dg v).map .u64)), some (.row 81 ((dg ((u + (P25519 - v)) % P25519)).map .u64))] := by
 obtain ⟨W, w1, w2, w3⟩ := difP_ok hu hv
 have h84 := f84 (difP u v) (.inl (difP_len u v)) W w1 w2 true
 rw [w3, difP_len u v] at h84
 have hul := dg_len u
 have hvl := dg_len v
 have hpl := pp_len
 refine scall_of ttOk (by kernel_rfl : Tryz.prog.funcs[76]? = some Tryz.f76) rfl rfl rfl ?_
 try simp only [List.length_cons, List.length_nil, Nat.zero_add, Nat.reduceAdd]
 refine sw_ok ttOk mixed (by kernel_rfl) ?_
 conv => whnf
 refine ok1_callF [] [true] false (f89) rfl rfl ⟨⟨rfl, by rfl⟩, trivial, by first | simp [plainHf, plainB], by rfl, ?_⟩
 conv => whnf
 repeat (first | (refine And.intro ⟨by omega, by decide⟩ ?_; conv => whnf) | fail)
 refine loop_rule ttOk mixed (by kernel_rfl) (ι := { i : Nat // i ≤ 16 }) (fun i => [(0, .sl 0 0 16 1 f), (1, .sl 1 0 16 1 g), (5, .sl 2 0 16 1 true), (6, .sl 3 0 16 1 true), (7, .u64 (bo (dg u) (dg v) i.1)), (8, .i (i.1 : Int))]) (fun i => [some (.ro ((dg u).map .u64)), some (.ro ((dg v).map .u64)), some (.row 81 (pp.map .u64)), some (.row 81 ((fil 16 i.1 (bp (dg u) (dg v)) (fun _ => 0)).map .u64))]) (fun _ => 4) (fun i => 16 - i.1) ⟨0, by omega⟩ ?_ ?_
 ·
  have hz : fil 16 0 (bp (dg u) (dg v)) (fun _ => 0) = List.replicate 16 0 := fil_zero ..
  have hz2 := bo_0 (dg u) (dg v)
  dsimp only
  rw [hz]
  refine Weak.sel [0, 1, 2, 3] rfl rfl ?_ ?_ rfl rfl
  ·
   (repeat' (first | exact trivial | refine And.intro ?_ ?_ | fail)) <;> first | exact wk_u64 (by exact hz2) | rfl | fail
  ·
   (repeat' (first | exact trivial | exact ren_z64 | refine And.intro ?_ ?_ | fail)) <;> first | rfl | exact ren_eq (by first | (simp; done) | fail) (by rfl) | fail
 ·
  rintro ⟨i, hi⟩
  have hfl := fil_len 16 i (bp (dg u) (dg v)) (fun _ => (0 : UInt64))
  dsimp only
  by_cases hi2 : i < 16
  ·
   have hlt : decide ((i : Int) < 16) = true := by simp; omega
   have hp1 : w64 ((i : Int) + 1) = ((i + 1 : Nat) : Int) := by simp only [w64_eq]; omega
   have hbd := bd_e (dg u) (dg v) i
   have hbp := bp_e (dg u) (dg v) i
   have hbs := bo_s (dg u) (dg v) i
   by_cases hc : bd (dg u) (dg v) i < 65536
   ·
    rw [if_pos hc] at hbs
    have hg : decide (65536 + (dg u).getD i 0 + pp.getD i 0 - (dg v).getD i 0 - bo (dg u) (dg v) i < 65536) = true := by rw [← hbd]; exact decide_eq_true hc
    have hst := fil_setx (g := fun _ => (0 : UInt64)) (f := bp (dg u) (dg v)) (x := 65536 + (dg u).getD i 0 + pp.getD i 0 - (dg v).getD i 0 - bo (dg u) (dg v) i - 65536 * (1 - 1)) hi2 (by rw [hbp, hbd, hbs])
    conv => whnf
    first | refine brT (by exact hlt) ?_ | fail
    conv => whnf
    repeat (first | (refine Exists.intro _ (And.intro (sput_m64 (i := i) (by first | rfl | omega | fail)) ?_); conv => whnf) | (refine Exists.intro _ (And.intro (sload_u64 (i := i) (by first | rfl | omega | fail) (by omega)) ?_); conv => whnf) | (refine Exists.intro _ (And.intro (idx_i (m := i) (by rfl)) ?_); conv => whnf) | (refine gdT hg ?_; conv => whnf) | (refine And.intro (by first | omega | (simp; omega) | fail) ?_; conv => whnf) | (refine And.intro (by kernel_rfl) ?_; conv => whnf) | fail)
    refine ⟨⟨i + 1, by omega⟩, by simp only; omega, ?_⟩
    refine Weak.sel [0, 1, 2, 3] rfl rfl ?_ ?_ rfl rfl
    ·
     (repeat' (first | exact trivial | refine And.intro ?_ ?_ | fail)) <;> first | exact wk_i (by first | exact hp1 | exact hp1.symm | fail) | exact wk_u64 (by exact hbs) | rfl | fail
    ·
     (repeat' (first | exact trivial | refine And.intro ?_ ?_ | fail)) <;> first | rfl | exact ren_eq (by first | rfl | (simp; done) | fail) (by rfl) | exact ren_m64 (by exact hst.symm) | fail
   ·
    rw [if_neg hc] at hbs
    have hg : decide (65536 + (dg u).getD i 0 + pp.getD i 0 - (dg v).getD i 0 - bo (dg u) (dg v) i < 65536) = false := by rw [← hbd]; exact decide_eq_false hc
    have hst := fil_setx (g := fun _ => (0 : UInt64)) (f := bp (dg u) (dg v)) (x := 65536 + (dg u).getD i 0 + pp.getD i 0 - (dg v).getD i 0 - bo (dg u) (dg v) i - 65536 * (1 - 0)) hi2 (by rw [hbp, hbd, hbs])
    conv => whnf
    first | refine brT (by exact hlt) ?_ | fail
    conv => whnf
    repeat (first | (refine Exists.intro _ (And.intro (sput_m64 (i := i) (by first | rfl | omega | fail)) ?_); conv => whnf) | (refine Exists.intro _ (And.intro (sload_u64 (i := i) (by first | rfl | omega | fail) (by omega)) ?_); conv => whnf) | (refine Exists.intro _ (And.intro (idx_i (m := i) (by rfl)) ?_); conv => whnf) | (refine gdF hg ?_; conv => whnf) | (refine And.intro (by first | omega | (simp; omega) | fail) ?_; conv => whnf) | (refine And.intro (by kernel_rfl) ?_; conv => whnf) | fail)
    refine ⟨⟨i + 1, by omega⟩, by simp only; omega, ?_⟩
    refine Weak.sel [0, 1, 2, 3] rfl rfl ?_ ?_ rfl rfl
    ·
     (repeat' (first | exact trivial | refine And.intro ?_ ?_ | fail)) <;> first | exact wk_i (by first | exact hp1 | exact hp1.symm | fail) | exact wk_u64 (by exact hbs) | rfl | fail
    ·
     (repeat' (first | exact trivial | refine And.intro ?_ ?_ | fail)) <;> first | rfl | exact ren_eq (by first | rfl | (simp; done) | fail) (by rfl) | exact ren_m64 (by exact hst.symm) | fail
  ·
   obtain rfl : i = 16 := by omega
   rw [difP_f]
   conv => whnf
   first | refine brF (by rfl) ?_ | fail
   conv => whnf
   refine ok1_callF [3] [false, true] false (h84) rfl rfl ⟨⟨rfl, by rfl⟩, by (repeat' (first | exact trivial | refine And.intro ?_ ?_)) <;> first | exact ren_eq (by first | (simp; done) | fail) (by rfl) | fail, by first | simp [plainHf, plainB], by rfl, ?_⟩
   conv => whnf
   refine ⟨[0, 1, 4], ?_, rfl, rfl, ?_, rfl⟩
   ·
    (repeat' (fail)) <;> first | rfl | fail
   ·
    (repeat' (first | exact trivial | refine And.intro ?_ ?_ | fail)) <;> first | rfl | exact ren_eq (by first | (simp; done) | fail) (by rfl) | fail
end Go.Sh
namespace Go.Sh
open Go.Proofs
set_option maxHeartbeats 8000000
theorem tk_len (v i : Nat) (h : i ≤ 16) : ((le32 v).take (2 * i)).length = 2 * i := by rw [List.length_take, le32_len]; omega
theorem ap2 {l : List UInt8} {n : Nat} {a b : UInt8} (h : l.length = n) : List.take (n * 1) (List.drop 0 (l.map SV.u8)) ++ List.take (2 * 1) (List.drop 0 [SV.u8 a, SV.u8 b]) = (l ++ [a, b]).map SV.u8 := by
 rw [List.drop_zero, List.take_of_length_le (by simp; omega)]; simp
theorem b2_e (v i : Nat) : b2 v i = [((dg v).getD i 0 % 256).toUInt8, ((dg v).getD i 0 / 256).toUInt8] := rfl
attribute [local irreducible] dg le32 oPL cB b2
theorem f34 (v : Nat) (f : Bool) : SCall Tryz.prog 64 [.sl 0 0 16 1 f] [some (.ro ((dg v).map .u64))] (.sl 1 0 32 1 false) [some (.ro ((dg v).map .u64)), some (.row 5 ((le32 v).map .u8))] := by
 have hdl := dg_len v
 refine scall_of ttOk (by kernel_rfl : Tryz.prog.funcs[64]? = some Tryz.f64) rfl rfl rfl ?_
 try simp only [List.length_cons, List.length_nil, Nat.zero_add, Nat.reduceAdd]
 refine sw_ok ttOk mixed (by kernel_rfl) ?_
 conv => whnf
 refine SWp.weak (Weak.virt 3 5 1 rfl) ?_
 refine loop_rule ttOk mixed (by kernel_rfl) (ι := { i : Nat // i ≤ 16 }) (fun i => [(0, .sl 0 0 16 1 f), (3, .sl 1 0 (2 * i.1) 1 false), (4, .i (i.1 : Int))]) (fun i => [some (.ro ((dg v).map .u64)), some (.row 5 (((le32 v).take (2 * i.1)).map .u8))]) (fun _ => 2) (fun i => 16 - i.1) ⟨0, by omega⟩ ?_ ?_
 ·
  have hz : (le32 v).take (2 * 0) = [] := rfl
  dsimp only
  rw [hz]
  refine Weak.sel [0, 1] rfl rfl ?_ ?_ rfl rfl
  ·
   (repeat' (first | exact trivial | refine And.intro ?_ ?_ | fail)) <;> first | rfl | fail
  ·
   (repeat' (first | exact trivial | refine And.intro ?_ ?_ | fail)) <;> first | rfl | exact ren_eq (by first | (simp; done) | fail) (by rfl) | fail
 ·
  rintro ⟨i, hi⟩
  have htl := tk_len v i hi
  dsimp only
  by_cases hi2 : i < 16
  ·
   have hlt : decide ((i : Int) < 16) = true := by simp; omega
   have hp1 : w64 ((i : Int) + 1) = ((i + 1 : Nat) : Int) := by simp only [w64_eq]; omega
   have h2 := le32_2 v i hi2
   rw [b2_e] at h2
   obtain ⟨Y, hY⟩ : ∃ Y, Y = (le32 v).take (2 * i) := ⟨_, rfl⟩
   rw [← hY] at h2 htl ⊢
   have hap : ((le32 v).take (2 * (i + 1))).map SV.u8 = List.take (2 * i * 1) (List.drop 0 (Y.map SV.u8)) ++ List.take (2 * 1) (List.drop 0 [SV.u8 ((dg v).getD i 0 % 256).toUInt8, SV.u8 ((dg v).getD i 0 / 256).toUInt8]) := by rw [ap2 htl, h2]
   have hn : 2 * (i + 1) = 2 * i + 2 := by omega
   conv => whnf
   first | refine brT (by exact hlt) ?_ | fail
   conv => whnf
   repeat (first | (refine Exists.intro _ (And.intro (sload_u64 (i := i) (by first | rfl | omega | fail) (by omega)) ?_); conv => whnf) | (refine Exists.intro _ (And.intro (idx_i (m := i) (by rfl)) ?_); conv => whnf) | (refine Exists.intro _ (And.intro rfl ?_); conv => whnf) | (refine And.intro (by first | omega | (simp [ti5]; omega)) ?_; conv => whnf) | (refine And.intro (by kernel_rfl) ?_; conv => whnf) | fail)
   refine ⟨⟨i + 1, by omega⟩, by simp only; omega, ?_⟩
   refine Weak.sel [0, 3] rfl rfl ?_ ?_ rfl rfl
   ·
    (repeat' (first | exact trivial | refine And.intro ?_ ?_ | fail)) <;> first | exact wk_i (by first | exact hp1 | exact hp1.symm | fail) | rfl | fail
   ·
    (repeat' (first | exact trivial | exact ren_eq (plainL_u8 _) hap | refine And.intro ?_ ?_ | fail)) <;> first | rfl | exact ren_eq (by first | (simp; done) | fail) (by rfl) | fail
  ·
   obtain rfl : i = 16 := by omega
   have hfin : (le32 v).take (2 * 16) = le32 v := List.take_of_length_le (by rw [le32_len]; omega)
   rw [hfin]
   conv => whnf
   first | refine brF (by rfl) ?_ | fail
   conv => whnf
   refine ⟨[0, 1], ?_, rfl, rfl, ?_, rfl⟩
   ·
    (repeat' (fail)) <;> first | rfl | fail
   ·
    (repeat' (first | exact trivial | refine And.intro ?_ ?_ | fail)) <;> first | rfl | exact ren_eq (by first | (simp; done) | fail) (by rfl) | fail
theorem cB_o31 (b : List UInt8) : cB b 31 = 256 * ((b.getD 31 0).toUInt64 % 128) := by unfold cB; rfl
theorem cB_o (b : List UInt8) (i : Nat) (h : i % 2 = 1) (h2 : i ≠ 31) : cB b i = 256 * (b.getD i 0).toUInt64 := by unfold cB; rw [if_pos h, if_neg h2]
theorem cB_e (b : List UInt8) (i : Nat) (h : ¬ i % 2 = 1) : cB b i = (b.getD i 0).toUInt64 := by unfold cB; rw [if_neg h]
theorem t2 (i : Nat) (h : i < 32) : (i : Int).tmod 2 = ((i % 2 : Nat) : Int) ∧ w64 ((i : Int).tdiv 2) = ((i / 2 : Nat) : Int) := by
 have : ∀ i : Nat, i < 32 → (i : Int).tmod 2 = ((i % 2 : Nat) : Int) ∧ w64 ((i : Int).tdiv 2) = ((i / 2 : Nat) : Int) := by decide +kernel
 exact this i h
theorem f23 (b : List UInt8) (hb : b.length = 32) (f : Bool) : SCall Tryz.prog 73 [.sl 0 0 32 1 f] [some (.ro (b.map .u8))] (.sl 1 0 16 1 true) [some (.ro (b.map .u8)), some (.row 81 ((dg (br b)).map .u64))] := by
 obtain ⟨W, w1, w2, w3⟩ := oPL_ok b
 have h84 := f84 (oPL b 32) (.inl (oPL_len b 32)) W w1 w2 true
 rw [w3, oPL_len b 32] at h84
 refine scall_of ttOk (by kernel_rfl : Tryz.prog.funcs[73]? = some Tryz.f73) rfl rfl rfl ?_
 try simp only [List.length_cons, List.length_nil, Nat.zero_add, Nat.reduceAdd]
 refine sw_ok ttOk mixed (by kernel_rfl) ?_
 conv => whnf
 repeat (first | (refine And.intro ⟨by omega, by decide⟩ ?_; conv => whnf) | fail)
 refine loop_rule ttOk mixed (by kernel_rfl) (ι := { i : Nat // i ≤ 32 }) (fun i => [(0, .sl 0 0 32 1 f), (3, .sl 1 0 16 1 true), (4, .i (i.1 : Int))]) (fun i => [some (.ro (b.map .u8)), some (.row 81 ((oPL b i.1).map .u64))]) (fun _ => 2) (fun i => 32 - i.1) ⟨0, by omega⟩ ?_ ?_
 ·
  have hz := oPL_0 b
  dsimp only
  rw [hz]
  refine Weak.sel [0, 1] rfl rfl ?_ ?_ rfl rfl
  ·
   (repeat' (first | exact trivial | refine And.intro ?_ ?_ | fail)) <;> first | rfl | fail
  ·
   (repeat' (first | exact trivial | exact ren_z64 | refine And.intro ?_ ?_ | fail)) <;> first | rfl | exact ren_eq (by first | (simp; done) | fail) (by rfl) | fail
 ·
  rintro ⟨i, hi⟩
  have hol := oPL_len b i
  dsimp only
  by_cases hi2 : i < 32
  ·
   have hlt : decide ((i : Int) < 32) = true := by simp; omega
   have hp1 : w64 ((i : Int) + 1) = ((i + 1 : Nat) : Int) := by simp only [w64_eq]; omega
   obtain ⟨hm, hd⟩ := t2 i hi2
   by_cases h31 : i = 31
   ·
    subst h31
    have hst := oPL_s b 31 hi2 (cB_o31 b).symm
    conv => whnf
    first | refine brT (by exact hlt) ?_ | fail
    conv => whnf
    repeat (first | (refine brT rfl ?_; conv => whnf) | (refine Exists.intro _ (And.intro (sload_u8 (i := 31) (by rfl) (by omega)) ?_); conv => whnf) | (refine Exists.intro _ (And.intro (idx_i (m := 31) (by rfl)) ?_); conv => whnf) | (refine Exists.intro _ (And.intro (sput_m64 (i := 15) (by rfl)) ?_); conv => whnf) | (refine Exists.intro _ (And.intro (sload_u64 (i := 15) (by rfl) (by omega)) ?_); conv => whnf) | (refine Exists.intro _ (And.intro (idx_i (m := 15) (by rfl)) ?_); conv => whnf) | (refine Exists.intro _ (And.intro rfl ?_); conv => whnf) | (refine And.intro (by first | omega | (simp; omega) | fail) ?_; conv => whnf) | fail)
    refine ⟨⟨32, by omega⟩, by simp only; omega, ?_⟩
    refine Weak.sel [0, 1] rfl rfl ?_ ?_ rfl rfl
    ·
     (repeat' (first | exact trivial | refine And.intro ?_ ?_ | fail)) <;> first | exact wk_i (by exact hp1) | rfl | fail
    ·
     (repeat' (first | exact trivial | refine And.intro ?_ ?_ | fail)) <;> first | rfl | exact ren_eq (by first | (simp; done) | fail) (by rfl) | exact ren_m64 (by exact hst.symm) | fail
   ·
    have g1 : ((i : Int) == 31) = false := by simp; omega
    by_cases hp : i % 2 = 1
    ·
     have g2 : ((i : Int).tmod 2 == 1) = true := by rw [hm, hp]; rfl
     have hst := oPL_s b i hi2 (cB_o b i hp h31).symm
     conv => whnf
     first | refine brT (by exact hlt) ?_ | fail
     conv => whnf
     repeat (first | (refine Exists.intro _ (And.intro (sload_u8 (i := i) (by first | rfl | omega | fail) (by omega)) ?_); conv => whnf) | (refine Exists.intro _ (And.intro (idx_i (m := i) (by rfl)) ?_); conv => whnf) | (refine Exists.intro _ (And.intro (sput_m64 (i := i / 2) (by first | rfl | omega | fail)) ?_); conv => whnf) | (refine Exists.intro _ (And.intro (sload_u64 (i := i / 2) (by first | rfl | omega | fail) (by omega)) ?_); conv => whnf) | (refine Exists.intro _ (And.intro (idx_i (m := i / 2) (by first | rfl | omega | fail)) ?_); conv => whnf) | (refine gdF g1 ?_; conv => whnf) | (refine gdT g2 ?_; conv => whnf) | (refine Exists.intro _ (And.intro rfl ?_); conv => whnf) | (refine And.intro (by first | omega | (simp; omega) | fail) ?_; conv => whnf) | fail)
     refine ⟨⟨i + 1, by omega⟩, by simp only; omega, ?_⟩
     refine Weak.sel [0, 1] rfl rfl ?_ ?_ rfl rfl
     ·
      (repeat' (first | exact trivial | refine And.intro ?_ ?_ | fail)) <;> first | exact wk_i (by first | exact hp1 | exact hp1.symm | fail) | rfl | fail
     ·
      (repeat' (first | exact trivial | refine And.intro ?_ ?_ | fail)) <;> first | rfl | exact ren_eq (by first | (simp; done) | fail) (by rfl) | exact ren_m64 (by exact hst.symm) | fail
    ·
     have g2 : ((i : Int).tmod 2 == 1) = false := by rw [hm]; simp; omega
     have hst := oPL_s b i hi2 (cB_e b i hp).symm
     conv => whnf
     first | refine brT (by exact hlt) ?_ | fail
     conv => whnf
     repeat (first | (refine Exists.intro _ (And.intro (sload_u8 (i := i) (by first | rfl | omega | fail) (by omega)) ?_); conv => whnf) | (refine Exists.intro _ (And.intro (idx_i (m := i) (by rfl)) ?_); conv => whnf) | (refine Exists.intro _ (And.intro (sput_m64 (i := i / 2) (by first | rfl | omega | fail)) ?_); conv => whnf) | (refine Exists.intro _ (And.intro (sload_u64 (i := i / 2) (by first | rfl | omega | fail) (by omega)) ?_); conv => whnf) | (refine Exists.intro _ (And.intro (idx_i (m := i / 2) (by first | rfl | omega | fail)) ?_); conv => whnf) | (refine gdF g1 ?_; conv => whnf) | (refine gdF g2 ?_; conv => whnf) | (refine Exists.intro _ (And.intro rfl ?_); conv => whnf) | (refine And.intro (by first | omega | (simp; omega) | fail) ?_; conv => whnf) | fail)
     refine ⟨⟨i + 1, by omega⟩, by simp only; omega, ?_⟩
     refine Weak.sel [0, 1] rfl rfl ?_ ?_ rfl rfl
     ·
      (repeat' (first | exact trivial | refine And.intro ?_ ?_ | fail)) <;> first | exact wk_i (by first | exact hp1 | exact hp1.symm | fail) | rfl | fail
     ·
      (repeat' (first | exact trivial | refine And.intro ?_ ?_ | fail)) <;> first | rfl | exact ren_eq (by first | (simp; done) | fail) (by rfl) | exact ren_m64 (by exact hst.symm) | fail
  ·
   obtain rfl : i = 32 := by omega
   conv => whnf
   first | refine brF (by rfl) ?_ | fail
   conv => whnf
   refine ok1_callF [1] [false, true] false (h84) rfl rfl ⟨⟨rfl, by rfl⟩, by (repeat' (first | exact trivial | refine And.intro ?_ ?_)) <;> first | exact ren_eq (by first | (simp; done) | fail) (by rfl) | fail, by first | simp [plainHf, plainB], by rfl, ?_⟩
   conv => whnf
   refine ⟨[0, 2], ?_, rfl, rfl, ?_, rfl⟩
   ·
    (repeat' (fail)) <;> first | rfl | fail
   ·
    (repeat' (first | exact trivial | refine And.intro ?_ ?_ | fail)) <;> first | rfl | exact ren_eq (by first | (simp; done) | fail) (by rfl) | fail
end Go.Sh
namespace Go.Sh
open Go.Proofs
set_option maxHeartbeats 8000000
def lad (u x2 z2 x3 z3 : Nat) : Nat × Nat × Nat × Nat :=
 let A := (x2 + z2) % P25519
 let B := (x2 + (P25519 - z2)) % P25519
 let D := (x3 + (P25519 - z3)) % P25519
 let DA := D * A % P25519
 let C := (x3 + z3) % P25519
 let CB := C * B % P25519
 let AA := A * A % P25519
 let BB := B * B % P25519
 let E := (AA + (P25519 - BB)) % P25519
 let T := (DA + CB) % P25519
 let S := (DA + (P25519 - CB)) % P25519
 let EK := E * 121665 % P25519
 let F := (AA + EK) % P25519
 let SS := S * S % P25519
 (AA * BB % P25519, E * F % P25519, T * T % P25519, u * SS % P25519)
attribute [local irreducible] dg
theorem f132 {u x2 z2 x3 z3 : Nat} (hu : u < P25519) (h2 : x2 < P25519) (k2 : z2 < P25519) (h3 : x3 < P25519) (k3 : z3 < P25519) : SCall Tryz.prog 61 [.sl 0 0 16 1 true, .sl 1 0 4 1 true]
  [some (.ro ((dg u).map .u64)), some (.ro [.sl 2 0 16 1 true, .sl 3 0 16 1 true, .sl 4 0 16 1 true, .sl 5 0 16 1 true]), some (.ro ((dg x2).map .u64)), some (.ro ((dg z2).map .u64)), some (.ro ((dg x3).map .u64)), some (.ro ((dg z3).map .u64))]
  (.sl 6 0 4 1 true)
  [some (.ro ((dg u).map .u64)), some (.ro [.sl 2 0 16 1 true, .sl 3 0 16 1 true, .sl 4 0 16 1 true, .sl 5 0 16 1 true]), some (.ro ((dg x2).map .u64)), some (.ro ((dg z2).map .u64)), some (.ro ((dg x3).map .u64)), some (.ro ((dg z3).map .u64)), some (.row 103 [.sl 7 0 16 1 true, .sl 8 0 16 1 true, .sl 9 0 16 1 true, .sl 10 0 16 1 true]), some (.row 81 ((dg (lad u x2 z2 x3 z3).1).map .u64)), some (.row 81 ((dg (lad u x2 z2 x3 z3).2.1).map .u64)), some (.row 81 ((dg (lad u x2 z2 x3 z3).2.2.1).map .u64)), some (.row 81 ((dg (lad u x2 z2 x3 z3).2.2.2).map .u64))] := by
 have lK : 121665 < P25519 := by decide
 have qK := f24 121665
 have eK : (121665 : UInt32).toNat = 121665 := rfl
 rw [eK] at qK
 have qA := f30 h2 k2 true true
 obtain ⟨A, eA⟩ : ∃ A, A = (x2 + z2) % P25519 := ⟨_, rfl⟩
 rw [← eA] at qA
 have lA : A < P25519 := by rw [eA]; exact mod_lt_P _
 have qB := f31 h2 k2 true true
 obtain ⟨B, eB⟩ : ∃ B, B = (x2 + (P25519 - z2)) % P25519 := ⟨_, rfl⟩
 rw [← eB] at qB
 have lB : B < P25519 := by rw [eB]; exact mod_lt_P _
 have qD := f31 h3 k3 true true
 obtain ⟨D, eD⟩ : ∃ D, D = (x3 + (P25519 - z3)) % P25519 := ⟨_, rfl⟩
 rw [← eD] at qD
 have lD : D < P25519 := by rw [eD]; exact mod_lt_P _
 have qDA := f32 lD lA true true
 obtain ⟨DA, eDA⟩ : ∃ DA, DA = D * A % P25519 := ⟨_, rfl⟩
 rw [← eDA] at qDA
 have lDA : DA < P25519 := by rw [eDA]; exact mod_lt_P _
 have qC := f30 h3 k3 true true
 obtain ⟨C, eC⟩ : ∃ C, C = (x3 + z3) % P25519 := ⟨_, rfl⟩
 rw [← eC] at qC
 have lC : C < P25519 := by rw [eC]; exact mod_lt_P _
 have qCB := f32 lC lB true true
 obtain ⟨CB, eCB⟩ : ∃ CB, CB = C * B % P25519 := ⟨_, rfl⟩
 rw [← eCB] at qCB
 have lCB : CB < P25519 := by rw [eCB]; exact mod_lt_P _
 have qAA := f32 lA lA true true
 obtain ⟨AA, eAA⟩ : ∃ AA, AA = A * A % P25519 := ⟨_, rfl⟩
 rw [← eAA] at qAA
 have lAA : AA < P25519 := by rw [eAA]; exact mod_lt_P _
 have qBB := f32 lB lB true true
 obtain ⟨BB, eBB⟩ : ∃ BB, BB = B * B % P25519 := ⟨_, rfl⟩
 rw [← eBB] at qBB
 have lBB : BB < P25519 := by rw [eBB]; exact mod_lt_P _
 have qE := f31 lAA lBB true true
 obtain ⟨E, eE⟩ : ∃ E, E = (AA + (P25519 - BB)) % P25519 := ⟨_, rfl⟩
 rw [← eE] at qE
 have lE : E < P25519 := by rw [eE]; exact mod_lt_P _
 have qT := f30 lDA lCB true true
 obtain ⟨T, eT⟩ : ∃ T, T = (DA + CB) % P25519 := ⟨_, rfl⟩
 rw [← eT] at qT
 have lT : T < P25519 := by rw [eT]; exact mod_lt_P _
 have qS := f31 lDA lCB true true
 obtain ⟨S, eS⟩ : ∃ S, S = (DA + (P25519 - CB)) % P25519 := ⟨_, rfl⟩
 rw [← eS] at qS
 have lS : S < P25519 := by rw [eS]; exact mod_lt_P _
 have qEK := f32 lE lK true true
 obtain ⟨EK, eEK⟩ : ∃ EK, EK = E * 121665 % P25519 := ⟨_, rfl⟩
 rw [← eEK] at qEK
 have lEK : EK < P25519 := by rw [eEK]; exact mod_lt_P _
 have qF := f30 lAA lEK true true
 obtain ⟨F, eF⟩ : ∃ F, F = (AA + EK) % P25519 := ⟨_, rfl⟩
 rw [← eF] at qF
 have lF : F < P25519 := by rw [eF]; exact mod_lt_P _
 have qR1 := f32 lAA lBB true true
 obtain ⟨R1, eR1⟩ : ∃ R1, R1 = AA * BB % P25519 := ⟨_, rfl⟩
 rw [← eR1] at qR1
 have lR1 : R1 < P25519 := by rw [eR1]; exact mod_lt_P _
 have qR2 := f32 lE lF true true
 obtain ⟨R2, eR2⟩ : ∃ R2, R2 = E * F % P25519 := ⟨_, rfl⟩
 rw [← eR2] at qR2
 have lR2 : R2 < P25519 := by rw [eR2]; exact mod_lt_P _
 have qR3 := f32 lT lT true true
 obtain ⟨R3, eR3⟩ : ∃ R3, R3 = T * T % P25519 := ⟨_, rfl⟩
 rw [← eR3] at qR3
 have lR3 : R3 < P25519 := by rw [eR3]; exact mod_lt_P _
 have qSS := f32 lS lS true true
 obtain ⟨SS, eSS⟩ : ∃ SS, SS = S * S % P25519 := ⟨_, rfl⟩
 rw [← eSS] at qSS
 have lSS : SS < P25519 := by rw [eSS]; exact mod_lt_P _
 have qR4 := f32 hu lSS true true
 obtain ⟨R4, eR4⟩ : ∃ R4, R4 = u * SS % P25519 := ⟨_, rfl⟩
 rw [← eR4] at qR4
 have lR4 : R4 < P25519 := by rw [eR4]; exact mod_lt_P _
 have hl : lad u x2 z2 x3 z3 = (R1, R2, R3, R4) := by
  subst eR4
  subst eSS
  subst eR3
  subst eR2
  subst eR1
  subst eF
  subst eEK
  subst eS
  subst eT
  subst eE
  subst eBB
  subst eAA
  subst eCB
  subst eC
  subst eDA
  subst eD
  subst eB
  subst eA
  rfl
 rw [hl]
 dsimp only
 clear hl eR4 eSS eR3 eR2 eR1 eF eEK eK eS eT eE eBB eAA eCB eC eDA eD eB eA
 refine scall_of ttOk (by kernel_rfl : Tryz.prog.funcs[61]? = some Tryz.f61) rfl rfl rfl ?_
 try simp only [List.length_cons, List.length_nil, Nat.zero_add, Nat.reduceAdd]
 refine sw_ok ttOk mixed (by kernel_rfl) ?_
 conv => whnf
 repeat (first | (refine Exists.intro _ (And.intro rfl ?_); conv => whnf) | (refine And.intro (by omega) ?_; conv => whnf) | fail)
 refine ok1_callF [2, 3] [false, false, true] false (qA) rfl rfl ⟨⟨rfl, by rfl⟩, by (repeat' (first | exact trivial | refine And.intro ?_ ?_)) <;> first | exact ren_eq (by first | (simp; done) | fail) (by rfl) | fail, by first | simp [plainHf, plainB], by rfl, ?_⟩
 conv => whnf
 repeat (first | (refine Exists.intro _ (And.intro rfl ?_); conv => whnf) | (refine And.intro (by omega) ?_; conv => whnf) | (refine And.intro (by kernel_rfl) ?_; conv => whnf) | fail)
 refine ok1_callF [2, 3] [false, false, true] false (qB) rfl rfl ⟨⟨rfl, by rfl⟩, by (repeat' (first | exact trivial | refine And.intro ?_ ?_)) <;> first | exact ren_eq (by first | (simp; done) | fail) (by rfl) | fail, by first | simp [plainHf, plainB], by rfl, ?_⟩
 conv => whnf
 repeat (first | (refine Exists.intro _ (And.intro rfl ?_); conv => whnf) | (refine And.intro (by omega) ?_; conv => whnf) | (refine And.intro (by kernel_rfl) ?_; conv => whnf) | fail)
 refine ok1_callF [4, 5] [false, false, true] false (qD) rfl rfl ⟨⟨rfl, by rfl⟩, by (repeat' (first | exact trivial | refine And.intro ?_ ?_)) <;> first | exact ren_eq (by first | (simp; done) | fail) (by rfl) | fail, by first | simp [plainHf, plainB], by rfl, ?_⟩
 conv => whnf
 refine ok1_callF [8, 6] [false, false, true] false (qDA) rfl rfl ⟨⟨rfl, by rfl⟩, by (repeat' (first | exact trivial | refine And.intro ?_ ?_)) <;> first | exact ren_eq (by first | (simp; done) | fail) (by rfl) | fail, by first | simp [plainHf, plainB], by rfl, ?_⟩
 conv => whnf
 repeat (first | (refine Exists.intro _ (And.intro rfl ?_); conv => whnf) | (refine And.intro (by omega) ?_; conv => whnf) | (refine And.intro (by kernel_rfl) ?_; conv => whnf) | fail)
 refine ok1_callF [4, 5] [false, false, true] false (qC) rfl rfl ⟨⟨rfl, by rfl⟩, by (repeat' (first | exact trivial | refine And.intro ?_ ?_)) <;> first | exact ren_eq (by first | (simp; done) | fail) (by rfl) | fail, by first | simp [plainHf, plainB], by rfl, ?_⟩
 conv => whnf
 refine ok1_callF [10, 7] [false, false, true] false (qCB) rfl rfl ⟨⟨rfl, by rfl⟩, by (repeat' (first | exact trivial | refine And.intro ?_ ?_)) <;> first | exact ren_eq (by first | (simp; done) | fail) (by rfl) | fail, by first | simp [plainHf, plainB], by rfl, ?_⟩
 conv => whnf
 repeat (first | (refine And.intro (by kernel_rfl) ?_; conv => whnf) | fail)
 refine ok1_callF [6, 6] [false, false, true] false (qAA) rfl rfl ⟨⟨rfl, by rfl⟩, by (repeat' (first | exact trivial | refine And.intro ?_ ?_)) <;> first | exact ren_eq (by first | (simp; done) | fail) (by rfl) | fail, by first | simp [plainHf, plainB], by rfl, ?_⟩
 conv => whnf
 refine ok1_callF [7, 7] [false, false, true] false (qBB) rfl rfl ⟨⟨rfl, by rfl⟩, by (repeat' (first | exact trivial | refine And.intro ?_ ?_)) <;> first | exact ren_eq (by first | (simp; done) | fail) (by rfl) | fail, by first | simp [plainHf, plainB], by rfl, ?_⟩
 conv => whnf
 refine ok1_callF [12, 13] [false, false, true] false (qE) rfl rfl ⟨⟨rfl, by rfl⟩, by (repeat' (first | exact trivial | refine And.intro ?_ ?_)) <;> first | exact ren_eq (by first | (simp; done) | fail) (by rfl) | fail, by first | simp [plainHf, plainB], by rfl, ?_⟩
 conv => whnf
 refine ok1_callF [9, 11] [false, false, true] false (qT) rfl rfl ⟨⟨rfl, by rfl⟩, by (repeat' (first | exact trivial | refine And.intro ?_ ?_)) <;> first | exact ren_eq (by first | (simp; done) | fail) (by rfl) | fail, by first | simp [plainHf, plainB], by rfl, ?_⟩
 conv => whnf
 refine ok1_callF [9, 11] [false, false, true] false (qS) rfl rfl ⟨⟨rfl, by rfl⟩, by (repeat' (first | exact trivial | refine And.intro ?_ ?_)) <;> first | exact ren_eq (by first | (simp; done) | fail) (by rfl) | fail, by first | simp [plainHf, plainB], by rfl, ?_⟩
 conv => whnf
 refine ok1_callF [] [true] false (qK) rfl rfl ⟨⟨rfl, by rfl⟩, trivial, by first | simp [plainHf, plainB], by rfl, ?_⟩
 conv => whnf
 refine ok1_callF [14, 17] [false, false, true] false (qEK) rfl rfl ⟨⟨rfl, by rfl⟩, by (repeat' (first | exact trivial | refine And.intro ?_ ?_)) <;> first | exact ren_eq (by first | (simp; done) | fail) (by rfl) | fail, by first | simp [plainHf, plainB], by rfl, ?_⟩
 conv => whnf
 refine ok1_callF [12, 18] [false, false, true] false (qF) rfl rfl ⟨⟨rfl, by rfl⟩, by (repeat' (first | exact trivial | refine And.intro ?_ ?_)) <;> first | exact ren_eq (by first | (simp; done) | fail) (by rfl) | fail, by first | simp [plainHf, plainB], by rfl, ?_⟩
 conv => whnf
 refine ok1_callF [12, 13] [false, false, true] false (qR1) rfl rfl ⟨⟨rfl, by rfl⟩, by (repeat' (first | exact trivial | refine And.intro ?_ ?_)) <;> first | exact ren_eq (by first | (simp; done) | fail) (by rfl) | fail, by first | simp [plainHf, plainB], by rfl, ?_⟩
 conv => whnf
 refine ok1_callF [14, 19] [false, false, true] false (qR2) rfl rfl ⟨⟨rfl, by rfl⟩, by (repeat' (first | exact trivial | refine And.intro ?_ ?_)) <;> first | exact ren_eq (by first | (simp; done) | fail) (by rfl) | fail, by first | simp [plainHf, plainB], by rfl, ?_⟩
 conv => whnf
 refine ok1_callF [15, 15] [false, false, true] false (qR3) rfl rfl ⟨⟨rfl, by rfl⟩, by (repeat' (first | exact trivial | refine And.intro ?_ ?_)) <;> first | exact ren_eq (by first | (simp; done) | fail) (by rfl) | fail, by first | simp [plainHf, plainB], by rfl, ?_⟩
 conv => whnf
 refine ok1_callF [16, 16] [false, false, true] false (qSS) rfl rfl ⟨⟨rfl, by rfl⟩, by (repeat' (first | exact trivial | refine And.intro ?_ ?_)) <;> first | exact ren_eq (by first | (simp; done) | fail) (by rfl) | fail, by first | simp [plainHf, plainB], by rfl, ?_⟩
 conv => whnf
 refine ok1_callF [0, 23] [false, false, true] false (qR4) rfl rfl ⟨⟨rfl, by rfl⟩, by (repeat' (first | exact trivial | refine And.intro ?_ ?_)) <;> first | exact ren_eq (by first | (simp; done) | fail) (by rfl) | fail, by first | simp [plainHf, plainB], by rfl, ?_⟩
 conv => whnf
 repeat (first | (refine Exists.intro _ (And.intro rfl ?_); conv => whnf) | fail)
 refine ⟨[0, 1, 2, 3, 4, 5, 25, 20, 21, 22, 24], ?_, rfl, rfl, ?_, rfl⟩
 ·
  (repeat' (fail)) <;> first | rfl | fail
 ·
  (repeat' (first | exact trivial | refine And.intro ?_ ?_ | (refine wk_cons ?_ ?_))) <;> first | rfl | exact ren_eq (by first | (simp; done) | fail) (by rfl) | fail
end Go.Sh
namespace Go.Sh
open Go.Proofs
set_option maxHeartbeats 8000000
def ladL (u x2 z2 x3 z3 : List UInt64) : List UInt64 × List UInt64 × List UInt64 × List UInt64 :=
 let A := addL x2 z2
 let B := subL x2 z2
 let C := addL x3 z3
 let D := subL x3 z3
 let AA := mulL A A
 let BB := mulL B B
 let DA := mulL D A
 let CB := mulL C B
 let E := subL AA BB
 let T := addL DA CB
 let S := subL DA CB
 let SS := mulL S S
 let K := smallL 121665
 let EK := mulL E K
 let F := addL AA EK
 (mulL AA BB, mulL E F, mulL T T, mulL u SS)
theorem ladL_ok {u x2 z2 x3 z3 : List UInt64} (hu : Nm u) (h2 : Nm x2) (k2 : Nm z2) (h3 : Nm x3) (k3 : Nm z3) : Nm (ladL u x2 z2 x3 z3).1 ∧ Nm (ladL u x2 z2 x3 z3).2.1 ∧ Nm (ladL u x2 z2 x3 z3).2.2.1 ∧ Nm (ladL u x2 z2 x3 z3).2.2.2 ∧
  lad (nr u) (nr x2) (nr z2) (nr x3) (nr z3) = (nr (ladL u x2 z2 x3 z3).1, nr (ladL u x2 z2 x3 z3).2.1, nr (ladL u x2 z2 x3 z3).2.2.1, nr (ladL u x2 z2 x3 z3).2.2.2) := by
 obtain ⟨nA, vA⟩ := addL_ok h2 k2
 obtain ⟨A, eA⟩ : ∃ A, A = addL x2 z2 := ⟨_, rfl⟩
 rw [← eA] at nA vA
 obtain ⟨nB, vB⟩ := subL_ok h2 k2
 obtain ⟨B, eB⟩ : ∃ B, B = subL x2 z2 := ⟨_, rfl⟩
 rw [← eB] at nB vB
 obtain ⟨nC, vC⟩ := addL_ok h3 k3
 obtain ⟨C, eC⟩ : ∃ C, C = addL x3 z3 := ⟨_, rfl⟩
 rw [← eC] at nC vC
 obtain ⟨nD, vD⟩ := subL_ok h3 k3
 obtain ⟨D, eD⟩ : ∃ D, D = subL x3 z3 := ⟨_, rfl⟩
 rw [← eD] at nD vD
 obtain ⟨nAA, vAA⟩ := mulL_ok nA nA
 obtain ⟨AA, eAA⟩ : ∃ AA, AA = mulL A A := ⟨_, rfl⟩
 rw [← eAA] at nAA vAA
 obtain ⟨nBB, vBB⟩ := mulL_ok nB nB
 obtain ⟨BB, eBB⟩ : ∃ BB, BB = mulL B B := ⟨_, rfl⟩
 rw [← eBB] at nBB vBB
 obtain ⟨nDA, vDA⟩ := mulL_ok nD nA
 obtain ⟨DA, eDA⟩ : ∃ DA, DA = mulL D A := ⟨_, rfl⟩
 rw [← eDA] at nDA vDA
 obtain ⟨nCB, vCB⟩ := mulL_ok nC nB
 obtain ⟨CB, eCB⟩ : ∃ CB, CB = mulL C B := ⟨_, rfl⟩
 rw [← eCB] at nCB vCB
 obtain ⟨nE, vE⟩ := subL_ok nAA nBB
 obtain ⟨E, eE⟩ : ∃ E, E = subL AA BB := ⟨_, rfl⟩
 rw [← eE] at nE vE
 obtain ⟨nT, vT⟩ := addL_ok nDA nCB
 obtain ⟨T, eT⟩ : ∃ T, T = addL DA CB := ⟨_, rfl⟩
 rw [← eT] at nT vT
 obtain ⟨nS, vS⟩ := subL_ok nDA nCB
 obtain ⟨S, eS⟩ : ∃ S, S = subL DA CB := ⟨_, rfl⟩
 rw [← eS] at nS vS
 obtain ⟨nR3, vR3⟩ := mulL_ok nT nT
 obtain ⟨R3, eR3⟩ : ∃ R3, R3 = mulL T T := ⟨_, rfl⟩
 rw [← eR3] at nR3 vR3
 obtain ⟨nSS, vSS⟩ := mulL_ok nS nS
 obtain ⟨SS, eSS⟩ : ∃ SS, SS = mulL S S := ⟨_, rfl⟩
 rw [← eSS] at nSS vSS
 obtain ⟨nR4, vR4⟩ := mulL_ok hu nSS
 obtain ⟨R4, eR4⟩ : ∃ R4, R4 = mulL u SS := ⟨_, rfl⟩
 rw [← eR4] at nR4 vR4
 obtain ⟨nR1, vR1⟩ := mulL_ok nAA nBB
 obtain ⟨R1, eR1⟩ : ∃ R1, R1 = mulL AA BB := ⟨_, rfl⟩
 rw [← eR1] at nR1 vR1
 obtain ⟨nK, vK⟩ := Nm_small 121665
 have eK : (121665 : UInt32).toNat = 121665 := rfl
 rw [eK] at vK
 obtain ⟨K, eK2⟩ : ∃ K, K = smallL 121665 := ⟨_, rfl⟩
 rw [← eK2] at nK vK
 obtain ⟨nEK, vEK⟩ := mulL_ok nE nK
 obtain ⟨EK, eEK⟩ : ∃ EK, EK = mulL E K := ⟨_, rfl⟩
 rw [← eEK] at nEK vEK
 obtain ⟨nF, vF⟩ := addL_ok nAA nEK
 obtain ⟨F, eF⟩ : ∃ F, F = addL AA EK := ⟨_, rfl⟩
 rw [← eF] at nF vF
 obtain ⟨nR2, vR2⟩ := mulL_ok nE nF
 obtain ⟨R2, eR2⟩ : ∃ R2, R2 = mulL E F := ⟨_, rfl⟩
 rw [← eR2] at nR2 vR2
 have hl : ladL u x2 z2 x3 z3 = (R1, R2, R3, R4) := by
  subst eR2
  subst eF
  subst eEK
  subst eK2
  subst eR1
  subst eR4
  subst eSS
  subst eR3
  subst eS
  subst eT
  subst eE
  subst eCB
  subst eDA
  subst eBB
  subst eAA
  subst eD
  subst eC
  subst eB
  subst eA
  rfl
 rw [hl]
 refine ⟨nR1, nR2, nR3, nR4, ?_⟩
 dsimp only
 rw [vR1, vR2, vR3, vR4, vSS, vF, vEK, vK, vS, vT, vE, vBB, vAA, vCB, vC, vDA, vD, vB, vA]
 rfl
theorem fill2 {X Y : List UInt64} (hX : X.length = 5) (hY : Y.length = 5) : sfill (fun i => (List.map (fun f => (f.fst, f.snd.snd)) [(0, 28, 5), (5, 28, 5)])[i]?) (SV.agg (List.replicate 10 (SV.u64 0))).cells [(0, SV.agg (X.map .u64)), (1, SV.agg (Y.map .u64))] = some (X.map .u64 ++ Y.map .u64) := by
 obtain ⟨a0, a1, a2, a3, a4, rfl⟩ := ex5 hX
 obtain ⟨b0, b1, b2, b3, b4, rfl⟩ := ex5 hY
 rfl
attribute [local irreducible] addL subL mulL smallL
theorem f130 {u x2 z2 x3 z3 : List UInt64} (hu : u.length = 5) (h2 : x2.length = 5) (k2 : z2.length = 5) (h3 : x3.length = 5) (k3 : z3.length = 5) : SCall Tryz.prog 46 [.agg (u.map .u64), .p 0 0, .p 1 0] [some (.box (x2.map .u64 ++ z2.map .u64)), some (.box (x3.map .u64 ++ z3.map .u64))] (.tup []) [some (.box ((ladL u x2 z2 x3 z3).1.map .u64 ++ (ladL u x2 z2 x3 z3).2.1.map .u64)), some (.box ((ladL u x2 z2 x3 z3).2.2.1.map .u64 ++ (ladL u x2 z2 x3 z3).2.2.2.map .u64))] := by
 have qA := f26 h2 k2
 have lA := addL_len x2 z2
 obtain ⟨A, eA⟩ : ∃ A, A = addL x2 z2 := ⟨_, rfl⟩
 rw [← eA] at qA lA
 have qB := f27 h2 k2
 have lB := subL_len x2 z2
 obtain ⟨B, eB⟩ : ∃ B, B = subL x2 z2 := ⟨_, rfl⟩
 rw [← eB] at qB lB
 have qC := f26 h3 k3
 have lC := addL_len x3 z3
 obtain ⟨C, eC⟩ : ∃ C, C = addL x3 z3 := ⟨_, rfl⟩
 rw [← eC] at qC lC
 have qD := f27 h3 k3
 have lD := subL_len x3 z3
 obtain ⟨D, eD⟩ : ∃ D, D = subL x3 z3 := ⟨_, rfl⟩
 rw [← eD] at qD lD
 have qAA := f28 lA lA
 have lAA := mulL_len A A
 obtain ⟨AA, eAA⟩ : ∃ AA, AA = mulL A A := ⟨_, rfl⟩
 rw [← eAA] at qAA lAA
 have qBB := f28 lB lB
 have lBB := mulL_len B B
 obtain ⟨BB, eBB⟩ : ∃ BB, BB = mulL B B := ⟨_, rfl⟩
 rw [← eBB] at qBB lBB
 have qDA := f28 lD lA
 have lDA := mulL_len D A
 obtain ⟨DA, eDA⟩ : ∃ DA, DA = mulL D A := ⟨_, rfl⟩
 rw [← eDA] at qDA lDA
 have qCB := f28 lC lB
 have lCB := mulL_len C B
 obtain ⟨CB, eCB⟩ : ∃ CB, CB = mulL C B := ⟨_, rfl⟩
 rw [← eCB] at qCB lCB
 have qE := f27 lAA lBB
 have lE := subL_len AA BB
 obtain ⟨E, eE⟩ : ∃ E, E = subL AA BB := ⟨_, rfl⟩
 rw [← eE] at qE lE
 have qT := f26 lDA lCB
 have lT := addL_len DA CB
 obtain ⟨T, eT⟩ : ∃ T, T = addL DA CB := ⟨_, rfl⟩
 rw [← eT] at qT lT
 have qS := f27 lDA lCB
 have lS := subL_len DA CB
 obtain ⟨S, eS⟩ : ∃ S, S = subL DA CB := ⟨_, rfl⟩
 rw [← eS] at qS lS
 have qR3 := f28 lT lT
 have lR3 := mulL_len T T
 obtain ⟨R3, eR3⟩ : ∃ R3, R3 = mulL T T := ⟨_, rfl⟩
 rw [← eR3] at qR3 lR3
 have qSS := f28 lS lS
 have lSS := mulL_len S S
 obtain ⟨SS, eSS⟩ : ∃ SS, SS = mulL S S := ⟨_, rfl⟩
 rw [← eSS] at qSS lSS
 have qR4 := f28 hu lSS
 have lR4 := mulL_len u SS
 obtain ⟨R4, eR4⟩ : ∃ R4, R4 = mulL u SS := ⟨_, rfl⟩
 rw [← eR4] at qR4 lR4
 have qR1 := f28 lAA lBB
 have lR1 := mulL_len AA BB
 obtain ⟨R1, eR1⟩ : ∃ R1, R1 = mulL AA BB := ⟨_, rfl⟩
 rw [← eR1] at qR1 lR1
 have qK := f22 121665
 have lK := smallL_len 121665
 obtain ⟨K, eK2⟩ : ∃ K, K = smallL 121665 := ⟨_, rfl⟩
 rw [← eK2] at qK lK
 have qEK := f28 lE lK
 have lEK := mulL_len E K
 obtain ⟨EK, eEK⟩ : ∃ EK, EK = mulL E K := ⟨_, rfl⟩
 rw [← eEK] at qEK lEK
 have qF := f26 lAA lEK
 have lF := addL_len AA EK
 obtain ⟨F, eF⟩ : ∃ F, F = addL AA EK := ⟨_, rfl⟩
 rw [← eF] at qF lF
 have qR2 := f28 lE lF
 have lR2 := mulL_len E F
 obtain ⟨R2, eR2⟩ : ∃ R2, R2 = mulL E F := ⟨_, rfl⟩
 rw [← eR2] at qR2 lR2
 have hl : ladL u x2 z2 x3 z3 = (R1, R2, R3, R4) := by
  subst eR2
  subst eF
  subst eEK
  subst eK2
  subst eR1
  subst eR4
  subst eSS
  subst eR3
  subst eS
  subst eT
  subst eE
  subst eCB
  subst eDA
  subst eBB
  subst eAA
  subst eD
  subst eC
  subst eB
  subst eA
  rfl
 rw [hl]
 dsimp only
 clear hl eR2 eF eEK eK2 eR1 eR4 eSS eR3 eS eT eE eCB eDA eBB eAA eD eC eB eA
 obtain ⟨a0, a1, a2, a3, a4, rfl⟩ := ex5 h2
 obtain ⟨b0, b1, b2, b3, b4, rfl⟩ := ex5 k2
 obtain ⟨c0, c1, c2, c3, c4, rfl⟩ := ex5 h3
 obtain ⟨d0, d1, d2, d3, d4, rfl⟩ := ex5 k3
 refine scall_of ttOk (by kernel_rfl : Tryz.prog.funcs[46]? = some Tryz.f46) rfl rfl rfl ?_
 try simp only [List.length_cons, List.length_nil, Nat.zero_add, Nat.reduceAdd]
 refine sw_ok ttOk mixed (by kernel_rfl) ?_
 conv => whnf
 repeat (first | (refine Exists.intro _ (And.intro rfl ?_); conv => whnf) | fail)
 refine ok1_callF [] [] true (qA) rfl rfl ⟨⟨rfl, by rfl⟩, trivial, by rfl, by first | simp [plainRf, plainR, plainT, plainW], ?_⟩
 conv => whnf
 repeat (first | (refine Exists.intro _ (And.intro rfl ?_); conv => whnf) | fail)
 refine ok1_callF [] [] true (qB) rfl rfl ⟨⟨rfl, by rfl⟩, trivial, by rfl, by first | simp [plainRf, plainR, plainT, plainW], ?_⟩
 conv => whnf
 repeat (first | (refine Exists.intro _ (And.intro rfl ?_); conv => whnf) | fail)
 refine ok1_callF [] [] true (qC) rfl rfl ⟨⟨rfl, by rfl⟩, trivial, by rfl, by first | simp [plainRf, plainR, plainT, plainW], ?_⟩
 conv => whnf
 repeat (first | (refine Exists.intro _ (And.intro rfl ?_); conv => whnf) | fail)
 refine ok1_callF [] [] true (qD) rfl rfl ⟨⟨rfl, by rfl⟩, trivial, by rfl, by first | simp [plainRf, plainR, plainT, plainW], ?_⟩
 conv => whnf
 repeat (first | (refine Exists.intro _ (And.intro (sload_all rfl (by first | rfl | (simp [hu, lA, lB, lC, lD]; done) | fail)) ?_); conv => whnf) | (refine Exists.intro _ (And.intro (sput_all rfl (by first | rfl | (simp [hu, lA, lB, lC, lD]; done) | fail)) ?_); conv => whnf) | (refine And.intro (by first | omega | (simp; omega) | fail) ?_; conv => whnf) | (refine And.intro (by kernel_rfl) ?_; conv => whnf) | fail)
 refine ok1_callF [] [] true (qAA) rfl rfl ⟨⟨rfl, by first | ((repeat' (first | exact wk_nil | exact ren_m64 rfl | (refine wk_agg ?_) | (refine wk_cons ?_ ?_))); done) | fail⟩, trivial, by rfl, by first | simp [plainRf, plainR, plainT, plainW], ?_⟩
 conv => whnf
 repeat (first | (refine Exists.intro _ (And.intro (sload_all rfl (by first | rfl | (simp [hu, lA, lB, lC, lD, lAA]; done) | fail)) ?_); conv => whnf) | fail)
 refine ok1_callF [] [] true (qBB) rfl rfl ⟨⟨rfl, by first | ((repeat' (first | exact wk_nil | exact ren_m64 rfl | (refine wk_agg ?_) | (refine wk_cons ?_ ?_))); done) | fail⟩, trivial, by rfl, by first | simp [plainRf, plainR, plainT, plainW], ?_⟩
 conv => whnf
 repeat (first | (refine Exists.intro _ (And.intro (sload_all rfl (by first | rfl | (simp [hu, lA, lB, lC, lD, lAA, lBB]; done) | fail)) ?_); conv => whnf) | fail)
 refine ok1_callF [] [] true (qDA) rfl rfl ⟨⟨rfl, by first | ((repeat' (first | exact wk_nil | exact ren_m64 rfl | (refine wk_agg ?_) | (refine wk_cons ?_ ?_))); done) | fail⟩, trivial, by rfl, by first | simp [plainRf, plainR, plainT, plainW], ?_⟩
 conv => whnf
 repeat (first | (refine Exists.intro _ (And.intro (sload_all rfl (by first | rfl | (simp [hu, lA, lB, lC, lD, lAA, lBB, lDA]; done) | fail)) ?_); conv => whnf) | fail)
 refine ok1_callF [] [] true (qCB) rfl rfl ⟨⟨rfl, by first | ((repeat' (first | exact wk_nil | exact ren_m64 rfl | (refine wk_agg ?_) | (refine wk_cons ?_ ?_))); done) | fail⟩, trivial, by rfl, by first | simp [plainRf, plainR, plainT, plainW], ?_⟩
 conv => whnf
 repeat (first | (refine Exists.intro _ (And.intro (sload_all rfl (by first | rfl | (simp [hu, lA, lB, lC, lD, lAA, lBB, lDA, lCB]; done) | fail)) ?_); conv => whnf) | (refine Exists.intro _ (And.intro (sput_all rfl (by first | rfl | (simp [hu, lA, lB, lC, lD, lAA, lBB, lDA, lCB]; done) | fail)) ?_); conv => whnf) | (refine And.intro (by first | omega | (simp; omega) | fail) ?_; conv => whnf) | (refine And.intro (by kernel_rfl) ?_; conv => whnf) | fail)
 refine ok1_callF [] [] true (qE) rfl rfl ⟨⟨rfl, by first | ((repeat' (first | exact wk_nil | exact ren_m64 rfl | (refine wk_agg ?_) | (refine wk_cons ?_ ?_))); done) | fail⟩, trivial, by rfl, by first | simp [plainRf, plainR, plainT, plainW], ?_⟩
 conv => whnf
 repeat (first | (refine Exists.intro _ (And.intro (sload_all rfl (by first | rfl | (simp [hu, lA, lB, lC, lD, lAA, lBB, lDA, lCB, lE]; done) | fail)) ?_); conv => whnf) | (refine Exists.intro _ (And.intro (sput_all rfl (by first | rfl | (simp [hu, lA, lB, lC, lD, lAA, lBB, lDA, lCB, lE]; done) | fail)) ?_); conv => whnf) | (refine And.intro (by first | omega | (simp; omega) | fail) ?_; conv => whnf) | fail)
 refine ok1_callF [] [] true (qT) rfl rfl ⟨⟨rfl, by first | ((repeat' (first | exact wk_nil | exact ren_m64 rfl | (refine wk_agg ?_) | (refine wk_cons ?_ ?_))); done) | fail⟩, trivial, by rfl, by first | simp [plainRf, plainR, plainT, plainW], ?_⟩
 conv => whnf
 repeat (first | (refine Exists.intro _ (And.intro (sload_all rfl (by first | rfl | (simp [hu, lA, lB, lC, lD, lAA, lBB, lDA, lCB, lE, lT]; done) | fail)) ?_); conv => whnf) | fail)
 refine ok1_callF [] [] true (qS) rfl rfl ⟨⟨rfl, by first | ((repeat' (first | exact wk_nil | exact ren_m64 rfl | (refine wk_agg ?_) | (refine wk_cons ?_ ?_))); done) | fail⟩, trivial, by rfl, by first | simp [plainRf, plainR, plainT, plainW], ?_⟩
 conv => whnf
 repeat (first | (refine Exists.intro _ (And.intro (sload_all rfl (by first | rfl | (simp [hu, lA, lB, lC, lD, lAA, lBB, lDA, lCB, lE, lT, lS]; done) | fail)) ?_); conv => whnf) | (refine Exists.intro _ (And.intro (sput_all rfl (by first | rfl | (simp [hu, lA, lB, lC, lD, lAA, lBB, lDA, lCB, lE, lT, lS]; done) | fail)) ?_); conv => whnf) | (refine And.intro (by first | omega | (simp; omega) | fail) ?_; conv => whnf) | (refine And.intro (by kernel_rfl) ?_; conv => whnf) | fail)
 refine ok1_callF [] [] true (qR3) rfl rfl ⟨⟨rfl, by first | ((repeat' (first | exact wk_nil | exact ren_m64 rfl | (refine wk_agg ?_) | (refine wk_cons ?_ ?_))); done) | fail⟩, trivial, by rfl, by first | simp [plainRf, plainR, plainT, plainW], ?_⟩
 conv => whnf
 repeat (first | (refine Exists.intro _ (And.intro (sload_all rfl (by first | rfl | (simp [hu, lA, lB, lC, lD, lAA, lBB, lDA, lCB, lE, lT, lS, lR3]; done) | fail)) ?_); conv => whnf) | fail)
 refine ok1_callF [] [] true (qSS) rfl rfl ⟨⟨rfl, by first | ((repeat' (first | exact wk_nil | exact ren_m64 rfl | (refine wk_agg ?_) | (refine wk_cons ?_ ?_))); done) | fail⟩, trivial, by rfl, by first | simp [plainRf, plainR, plainT, plainW], ?_⟩
 conv => whnf
 refine ok1_callF [] [] true (qR4) rfl rfl ⟨⟨rfl, by first | ((repeat' (first | exact wk_nil | exact ren_m64 rfl | (refine wk_agg ?_) | (refine wk_cons ?_ ?_))); done) | fail⟩, trivial, by rfl, by first | simp [plainRf, plainR, plainT, plainW], ?_⟩
 conv => whnf
 refine ⟨_, fill2 lR3 lR4, ?_⟩
 conv => whnf
 repeat (first | (refine Exists.intro _ (And.intro (sload_all rfl (by first | rfl | (simp [hu, lA, lB, lC, lD, lAA, lBB, lDA, lCB, lE, lT, lS, lR3, lSS, lR4]; done) | fail)) ?_); conv => whnf) | (refine Exists.intro _ (And.intro (sput_all rfl (by first | rfl | (simp [hu, lA, lB, lC, lD, lAA, lBB, lDA, lCB, lE, lT, lS, lR3, lSS, lR4]; done) | fail)) ?_); conv => whnf) | (refine And.intro (by first | omega | (simp; omega) | fail) ?_; conv => whnf) | (refine And.intro (by kernel_rfl) ?_; conv => whnf) | fail)
 refine ok1_callF [] [] true (qR1) rfl rfl ⟨⟨rfl, by first | ((repeat' (first | exact wk_nil | exact ren_m64 rfl | (refine wk_agg ?_) | (refine wk_cons ?_ ?_))); done) | fail⟩, trivial, by rfl, by first | simp [plainRf, plainR, plainT, plainW], ?_⟩
 conv => whnf
 repeat (first | (refine Exists.intro _ (And.intro (sload_all rfl (by first | rfl | (simp [hu, lA, lB, lC, lD, lAA, lBB, lDA, lCB, lE, lT, lS, lR3, lSS, lR4, lR1]; done) | fail)) ?_); conv => whnf) | fail)
 refine ok1_callF [] [] true (qK) rfl rfl ⟨⟨rfl, by rfl⟩, trivial, by rfl, by first | simp [plainRf, plainR, plainT, plainW], ?_⟩
 conv => whnf
 refine ok1_callF [] [] true (qEK) rfl rfl ⟨⟨rfl, by first | ((repeat' (first | exact wk_nil | exact ren_m64 rfl | (refine wk_agg ?_) | (refine wk_cons ?_ ?_))); done) | fail⟩, trivial, by rfl, by first | simp [plainRf, plainR, plainT, plainW], ?_⟩
 conv => whnf
 refine ok1_callF [] [] true (qF) rfl rfl ⟨⟨rfl, by first | ((repeat' (first | exact wk_nil | exact ren_m64 rfl | (refine wk_agg ?_) | (refine wk_cons ?_ ?_))); done) | fail⟩, trivial, by rfl, by first | simp [plainRf, plainR, plainT, plainW], ?_⟩
 conv => whnf
 refine ok1_callF [] [] true (qR2) rfl rfl ⟨⟨rfl, by first | ((repeat' (first | exact wk_nil | exact ren_m64 rfl | (refine wk_agg ?_) | (refine wk_cons ?_ ?_))); done) | fail⟩, trivial, by rfl, by first | simp [plainRf, plainR, plainT, plainW], ?_⟩
 conv => whnf
 refine ⟨_, fill2 lR1 lR2, ?_⟩
 conv => whnf
 repeat (first | (refine Exists.intro _ (And.intro (sput_all rfl (by first | rfl | (simp [hu, lA, lB, lC, lD, lAA, lBB, lDA, lCB, lE, lT, lS, lR3, lSS, lR4, lR1, lK, lEK, lF, lR2]; done) | fail)) ?_); conv => whnf) | (refine And.intro (by first | omega | (simp; omega) | fail) ?_; conv => whnf) | (refine And.intro (by kernel_rfl) ?_; conv => whnf) | fail)
 refine ⟨[0, 1], ?_, rfl, rfl, ?_, rfl⟩
 ·
  (repeat' (first | (refine wk_tup ?_) | fail)) <;> first | rfl | fail
 ·
  (repeat' (first | exact trivial | refine And.intro ?_ ?_ | fail)) <;> first | exact ren_eq (by first | (simp; done) | fail) (by rfl) | fail
end Go.Sh
namespace Go.Sh
open Go.Proofs
set_option maxHeartbeats 8000000
def bitN (b : List UInt8) (i : Nat) : Nat := (b.getD (i / 8) 0).toNat / 2 ^ (i % 8) % 2
theorem t8 (i : Nat) (h : i < 256) : (i : Int).tmod 8 = ((i % 8 : Nat) : Int) ∧ w64 ((i : Int).tdiv 8) = ((i / 8 : Nat) : Int) ∧ (i : Int).tmod 2 = ((i % 2 : Nat) : Int) ∧ w64 ((i : Int).tdiv 2) = ((i / 2 : Nat) : Int) := by
 have : ∀ i : Nat, i < 256 → (i : Int).tmod 8 = ((i % 8 : Nat) : Int) ∧ w64 ((i : Int).tdiv 8) = ((i / 8 : Nat) : Int) ∧ (i : Int).tmod 2 = ((i % 2 : Nat) : Int) ∧ w64 ((i : Int).tdiv 2) = ((i / 2 : Nat) : Int) := by decide +kernel
 exact this i h
theorem f131 (b : List UInt8) (hb : b.length = 32) (i : Nat) (hi : i < 256) (f : Bool) : SCall Tryz.prog 60 [.sl 0 0 32 1 f, .i (i : Int)] [some (.ro (b.map .u8))] (.i (bitN b i : Nat)) [some (.ro (b.map .u8))] := by
 obtain ⟨h1, h2, -, -⟩ := t8 i hi
 have hi8 : i / 8 < 32 := by omega
 obtain ⟨r0, hr0⟩ : ∃ r, r = (b.getD (i / 8) 0).toNat := ⟨_, rfl⟩
 have hr : r0 < 256 := by rw [hr0]; exact UInt8.toNat_lt _
 have hbit : bitN b i = r0 / 2 ^ (i % 8) % 2 := by rw [hr0]; rfl
 rw [hbit]
 refine scall_of ttOk (by kernel_rfl : Tryz.prog.funcs[60]? = some Tryz.f60) rfl rfl rfl ?_
 try simp only [List.length_cons, List.length_nil, Nat.zero_add, Nat.reduceAdd]
 refine sw_ok ttOk mixed (by kernel_rfl) ?_
 conv => whnf
 repeat (first | (refine Exists.intro _ (And.intro (sload_u8 (i := i / 8) (by first | rfl | omega | fail) (by omega)) ?_); conv => whnf) | (refine Exists.intro _ (And.intro (idx_i (m := i / 8) (by first | rfl | omega | fail)) ?_); conv => whnf) | (refine Exists.intro _ (And.intro rfl ?_); conv => whnf) | (refine And.intro (by omega) ?_; conv => whnf) | fail)
 refine loop_rule ttOk mixed (by kernel_rfl) (ι := { j : Nat // j ≤ i % 8 }) (fun j => [(1, .i (i : Int)), (5, .i ((r0 / 2 ^ j.1 : Nat) : Int)), (6, .i (j.1 : Int))]) (fun j => [some (.ro (b.map .u8))]) (fun _ => 1) (fun j => i % 8 - j.1) ⟨0, Nat.zero_le _⟩ ?_ ?_
 ·
  have hz : r0 / 2 ^ 0 = r0 := by rw [Nat.pow_zero, Nat.div_one]
  dsimp only
  rw [hz, hr0]
  refine Weak.sel [0] rfl rfl ?_ ?_ rfl rfl
  ·
   (repeat' (first | exact trivial | refine And.intro ?_ ?_ | fail)) <;> first | rfl | fail
  ·
   (repeat' (first | exact trivial | refine And.intro ?_ ?_ | fail)) <;> first | exact ren_eq (by first | (simp; done) | fail) (by rfl) | fail
 ·
  rintro ⟨j, hj⟩
  dsimp only
  have hrj : r0 / 2 ^ j < 256 := Nat.lt_of_le_of_lt (Nat.div_le_self _ _) hr
  have hs : r0 / 2 ^ (j + 1) = r0 / 2 ^ j / 2 := by rw [Nat.pow_succ, Nat.div_div_eq_div_mul]
  have hp1 : w64 ((j : Int) + 1) = ((j + 1 : Nat) : Int) := by simp only [w64_eq]; omega
  by_cases hj2 : j < i % 8
  ·
   have hlt : decide ((j : Int) < (i : Int).tmod 8) = true := by rw [h1]; simp; omega
   obtain ⟨r, er⟩ : ∃ r, r = r0 / 2 ^ j := ⟨_, rfl⟩
   rw [← er] at hs hrj ⊢
   obtain ⟨-, -, h3, h4⟩ := t8 r hrj
   repeat (first | (refine Exists.intro _ (And.intro rfl ?_); conv => whnf) | fail)
   first | refine brT (by exact hlt) ?_ | fail
   conv => whnf
   repeat (first | (refine Exists.intro _ (And.intro rfl ?_); conv => whnf) | fail)
   refine ⟨⟨j + 1, by omega⟩, by simp only; omega, ?_⟩
   dsimp only
   rw [hs]
   refine Weak.sel [0] rfl rfl ?_ ?_ rfl rfl
   ·
    (repeat' (first | exact trivial | refine And.intro ?_ ?_ | fail)) <;> first | exact wk_i (by first | exact hp1.symm | exact h4.symm | fail) | rfl | fail
   ·
    (repeat' (first | exact trivial | refine And.intro ?_ ?_ | fail)) <;> first | exact ren_eq (by first | (simp; done) | fail) (by rfl) | fail
  ·
   obtain rfl : j = i % 8 := by omega
   have hlt : decide (((i % 8 : Nat) : Int) < (i : Int).tmod 8) = false := by rw [h1]; simp
   obtain ⟨r, er⟩ : ∃ r, r = r0 / 2 ^ (i % 8) := ⟨_, rfl⟩
   rw [← er] at hrj ⊢
   obtain ⟨-, -, h3, h4⟩ := t8 r hrj
   rw [← h3]
   repeat (first | (refine Exists.intro _ (And.intro rfl ?_); conv => whnf) | (refine And.intro (by first | omega | (simp; omega) | fail) ?_; conv => whnf) | fail)
   first | intro _
   conv => whnf
   repeat (first | (refine Exists.intro _ (And.intro rfl ?_); conv => whnf) | fail)
   refine ⟨[0], ?_, rfl, rfl, ?_, rfl⟩
   ·
    (repeat' (fail)) <;> first | rfl | fail
   ·
    (repeat' (first | exact trivial | refine And.intro ?_ ?_ | fail)) <;> first | exact ren_eq (by first | (simp; done) | fail) (by rfl) | fail
end Go.Sh
namespace Go.Sh
open Go.Proofs
set_option maxHeartbeats 8000000
def clampL (b : List UInt8) : List UInt8 := (b.set 0 (b.getD 0 0 &&& 248)).set 31 ((b.getD 31 0 &&& 127) ||| 64)
theorem clamp_len (b : List UInt8) : (clampL b).length = b.length := by unfold clampL; simp
theorem cl_8 (x : UInt8) : x / 8 * 8 = x &&& 248 := by
 have : ∀ n : Fin 256, (UInt8.ofNat n.1) / 8 * 8 = UInt8.ofNat n.1 &&& 248 := by decide +kernel
 have h := this ⟨x.toNat, UInt8.toNat_lt x⟩
 simpa using h
theorem cl_64 (x : UInt8) : x % 64 + 64 = (x &&& 127) ||| 64 := by
 have : ∀ n : Fin 256, (UInt8.ofNat n.1) % 64 + 64 = (UInt8.ofNat n.1 &&& 127) ||| 64 := by decide +kernel
 have h := this ⟨x.toNat, UInt8.toNat_lt x⟩
 simpa using h
theorem clamp_p (b : List UInt8) : clampL b = (b.set 0 (b.getD 0 0 &&& 248)).set 31 ((b.set 0 (b.getD 0 0 &&& 248)).getD 31 0 &&& 127 ||| 64) := by
 have hg : (b.set 0 (b.getD 0 0 &&& 248)).getD 31 0 = b.getD 31 0 := by simp
 rw [hg]; rfl
theorem clamp_r (b : List UInt8) : clampL b = (b.set 0 (b.getD 0 0 / 8 * 8)).set 31 ((b.set 0 (b.getD 0 0 / 8 * 8)).getD 31 0 % 64 + 64) := by
 have hg : (b.set 0 (b.getD 0 0 / 8 * 8)).getD 31 0 = b.getD 31 0 := by simp
 rw [hg, cl_8, cl_64]; rfl
theorem f39 (b : List UInt8) (hb : b.length = 32) : SCall Tryz.prog 29 [.agg (b.map .u8)] [] (.agg ((clampL b).map .u8)) [] := by
 have hl : (b.set 0 (b.getD 0 0 &&& 248)).length = 32 := by simp [hb]
 rw [clamp_p]
 refine scall_of ttOk (by kernel_rfl : Tryz.prog.funcs[29]? = some Tryz.f29) rfl rfl rfl ?_
 try simp only [List.length_cons, List.length_nil, Nat.zero_add, Nat.reduceAdd]
 refine sw_ok ttOk mixed (by kernel_rfl) ?_
 conv => whnf
 repeat (first | (refine Exists.intro _ (And.intro (sload_all rfl (by first | rfl | (simp [hb, hl]; done) | fail)) ?_); conv => whnf) | (refine Exists.intro _ (And.intro (sput_all rfl (by first | rfl | (simp [hb, hl]; done) | fail)) ?_); conv => whnf) | (refine Exists.intro _ (And.intro (sput_m8 (i := 0) (by rfl)) ?_); conv => whnf) | (refine Exists.intro _ (And.intro (sload_u8 (i := 0) (by rfl) (by omega)) ?_); conv => whnf) | (refine Exists.intro _ (And.intro (idx_i (m := 0) (by rfl)) ?_); conv => whnf) | (refine Exists.intro _ (And.intro (sput_m8 (i := 31) (by rfl)) ?_); conv => whnf) | (refine Exists.intro _ (And.intro (sload_u8 (i := 31) (by rfl) (by first | (simp [hb, hl]; done) | fail)) ?_); conv => whnf) | (refine Exists.intro _ (And.intro (idx_i (m := 31) (by rfl)) ?_); conv => whnf) | (refine And.intro (by first | omega | (simp; omega) | fail) ?_; conv => whnf) | fail)
 refine ⟨[], ?_, rfl, rfl, ?_, rfl⟩
 ·
  (repeat' (first | (refine wk_agg ?_) | fail)) <;> first | exact ren_m8 (by rfl) | fail
 ·
  (repeat' (first | exact trivial | fail)) <;> fail
theorem idx_r {b : List UInt8} {e k : Nat} (h : k < b.length) : (SB.row e (b.map .u8)).cells[k]? = some (.u8 (b.getD k 0)) := by
 show (b.map SV.u8)[k]? = _
 rw [List.getElem?_map, List.getElem?_eq_getElem h, List.getD_eq_getElem?_getD, List.getElem?_eq_getElem h]; rfl
theorem f42 (b : List UInt8) (hb : b.length = 32) (f : Bool) : SCall Tryz.prog 59 [.sl 0 0 32 1 f] [some (.ro (b.map .u8))] (.sl 1 0 32 1 false) [some (.ro (b.map .u8)), some (.row 5 ((clampL b).map .u8))] := by
 have hl : (b.set 0 (b.getD 0 0 / 8 * 8)).length = 32 := by simp [hb]
 have hap : List.take (0 * ti5.sz) (List.drop 0 (reps 0 (SV.u8 0).cells)) ++ List.take (32 * ti5.sz) (List.drop 0 (SB.ro (List.map SV.u8 b)).cells) = b.map SV.u8 := by
  show ([] : List SV) ++ List.take 32 (b.map SV.u8) = _
  rw [List.take_of_length_le (by simp [hb])]; rfl
 rw [clamp_r]
 refine scall_of ttOk (by kernel_rfl : Tryz.prog.funcs[59]? = some Tryz.f59) rfl rfl rfl ?_
 try simp only [List.length_cons, List.length_nil, Nat.zero_add, Nat.reduceAdd]
 refine sw_ok ttOk mixed (by kernel_rfl) ?_
 conv => whnf
 repeat (first | (refine Exists.intro _ (And.intro (idx_i (m := 0) (by rfl)) ?_); conv => whnf) | (refine Exists.intro _ (And.intro rfl ?_); conv => whnf) | (refine pkF rfl ?_; conv => whnf) | (refine And.intro (by first | omega | (simp [ti5]; omega)) ?_; conv => whnf) | fail)
 rw [hap]
 have hz0 : (SB.row 5 (List.map SV.u8 b)).cells[0 + 0 * ti5.sz]? = some (.u8 (b.getD 0 0)) := idx_r (k := 0) (by omega)
 rw [hz0]
 repeat (first | (refine Exists.intro _ (And.intro (sput_m8 (i := 0) (by rfl)) ?_); conv => whnf) | (refine Exists.intro _ (And.intro (idx_i (m := 0) (by rfl)) ?_); conv => whnf) | (refine Exists.intro _ (And.intro (sput_m8 (i := 31) (by rfl)) ?_); conv => whnf) | (refine Exists.intro _ (And.intro (sload_u8 (i := 31) (by rfl) (by first | (simp [hb, hl]; done) | fail)) ?_); conv => whnf) | (refine Exists.intro _ (And.intro (idx_i (m := 31) (by rfl)) ?_); conv => whnf) | (refine Exists.intro _ (And.intro rfl ?_); conv => whnf) | (refine And.intro (by first | omega | (simp; omega) | fail) ?_; conv => whnf) | fail)
 refine ⟨[0, 2], ?_, rfl, rfl, ?_, rfl⟩
 ·
  (repeat' (fail)) <;> first | rfl | fail
 ·
  (repeat' (first | exact trivial | refine And.intro ?_ ?_ | fail)) <;> first | rfl | exact ren_eq (by first | (simp; done) | fail) (by rfl) | exact ren_m8 (by rfl) | fail
end Go.Sh
namespace Go.Sh
open Go.Proofs
set_option maxHeartbeats 8000000
theorem f128_0 {x2 z2 x3 z3 : List UInt64} (h2 : x2.length = 5) (k2 : z2.length = 5) (h3 : x3.length = 5) (k3 : z3.length = 5) : SCall Tryz.prog 43 [.u64 0, .p 0 0, .p 1 0] [some (.box (x2.map .u64 ++ z2.map .u64)), some (.box (x3.map .u64 ++ z3.map .u64))] (.tup []) [some (.box (x2.map .u64 ++ z2.map .u64)), some (.box (x3.map .u64 ++ z3.map .u64))] := by
 obtain ⟨a0, a1, a2, a3, a4, rfl⟩ := ex5 h2
 obtain ⟨b0, b1, b2, b3, b4, rfl⟩ := ex5 k2
 obtain ⟨c0, c1, c2, c3, c4, rfl⟩ := ex5 h3
 obtain ⟨d0, d1, d2, d3, d4, rfl⟩ := ex5 k3
 have q1 := f37x 0 a0 a1 a2 a3 a4 c0 c1 c2 c3 c4 b0 b1 b2 b3 b4 d0 d1 d2 d3 d4
 have q2 := f37z 0 b0 b1 b2 b3 b4 d0 d1 d2 d3 d4 a0 a1 a2 a3 a4 c0 c1 c2 c3 c4
 simp only [swX_0, swY_0] at q1 q2
 refine scall_of ttOk (by kernel_rfl : Tryz.prog.funcs[43]? = some Tryz.f43) rfl rfl rfl ?_
 try simp only [List.length_cons, List.length_nil, Nat.zero_add, Nat.reduceAdd]
 refine sw_ok ttOk mixed (by kernel_rfl) ?_
 conv => whnf
 refine ok1_callF [0, 1] [true, true] true (q1) rfl rfl ⟨⟨rfl, by rfl⟩, by (repeat' (first | exact trivial | refine And.intro ?_ ?_)) <;> first | rfl | fail, by rfl, by rfl, ?_⟩
 conv => whnf
 refine ok1_callF [0, 1] [true, true] true (q2) rfl rfl ⟨⟨rfl, by rfl⟩, by (repeat' (first | exact trivial | refine And.intro ?_ ?_)) <;> first | rfl | fail, by rfl, by rfl, ?_⟩
 conv => whnf
 refine ⟨[0, 1], ?_, rfl, rfl, ?_, rfl⟩
 ·
  (repeat' (first | (refine wk_tup ?_) | fail)) <;> first | rfl | fail
 ·
  (repeat' (first | exact trivial | refine And.intro ?_ ?_ | (refine wk_cons ?_ ?_))) <;> first | rfl | fail
theorem f128_1 {x2 z2 x3 z3 : List UInt64} (h2 : x2.length = 5) (k2 : z2.length = 5) (h3 : x3.length = 5) (k3 : z3.length = 5) : SCall Tryz.prog 43 [.u64 1, .p 0 0, .p 1 0] [some (.box (x2.map .u64 ++ z2.map .u64)), some (.box (x3.map .u64 ++ z3.map .u64))] (.tup []) [some (.box (x3.map .u64 ++ z3.map .u64)), some (.box (x2.map .u64 ++ z2.map .u64))] := by
 obtain ⟨a0, a1, a2, a3, a4, rfl⟩ := ex5 h2
 obtain ⟨b0, b1, b2, b3, b4, rfl⟩ := ex5 k2
 obtain ⟨c0, c1, c2, c3, c4, rfl⟩ := ex5 h3
 obtain ⟨d0, d1, d2, d3, d4, rfl⟩ := ex5 k3
 have q1 := f37x 1 a0 a1 a2 a3 a4 c0 c1 c2 c3 c4 b0 b1 b2 b3 b4 d0 d1 d2 d3 d4
 have q2 := f37z 1 b0 b1 b2 b3 b4 d0 d1 d2 d3 d4 c0 c1 c2 c3 c4 a0 a1 a2 a3 a4
 simp only [swX_1, swY_1] at q1 q2
 refine scall_of ttOk (by kernel_rfl : Tryz.prog.funcs[43]? = some Tryz.f43) rfl rfl rfl ?_
 try simp only [List.length_cons, List.length_nil, Nat.zero_add, Nat.reduceAdd]
 refine sw_ok ttOk mixed (by kernel_rfl) ?_
 conv => whnf
 refine ok1_callF [0, 1] [true, true] true (q1) rfl rfl ⟨⟨rfl, by rfl⟩, by (repeat' (first | exact trivial | refine And.intro ?_ ?_)) <;> first | rfl | fail, by rfl, by rfl, ?_⟩
 conv => whnf
 refine ok1_callF [0, 1] [true, true] true (q2) rfl rfl ⟨⟨rfl, by rfl⟩, by (repeat' (first | exact trivial | refine And.intro ?_ ?_)) <;> first | rfl | fail, by rfl, by rfl, ?_⟩
 conv => whnf
 refine ⟨[0, 1], ?_, rfl, rfl, ?_, rfl⟩
 ·
  (repeat' (first | (refine wk_tup ?_) | fail)) <;> first | rfl | fail
 ·
  (repeat' (first | exact trivial | refine And.intro ?_ ?_ | (refine wk_cons ?_ ?_))) <;> first | rfl | fail
end Go.Sh
namespace Go.Sh
open Go.Proofs
set_option maxHeartbeats 8000000
def sw4 {α : Type} (c : Nat) (s : α × α × α × α) : α × α × α × α := if c = 1 then (s.2.2.1, s.2.2.2, s.1, s.2.1) else s
theorem sw4_sw4 {α : Type} (c : Nat) (s : α × α × α × α) : sw4 c (sw4 c s) = s := by
 unfold sw4; by_cases h : c = 1 <;> simp [h]
def lad4 (u : Nat) (s : Nat × Nat × Nat × Nat) : Nat × Nat × Nat × Nat := lad u s.1 s.2.1 s.2.2.1 s.2.2.2
def lad4L (u : List UInt64) (s : List UInt64 × List UInt64 × List UInt64 × List UInt64) : List UInt64 × List UInt64 × List UInt64 × List UInt64 := ladL u s.1 s.2.1 s.2.2.1 s.2.2.2
def ldr (b : List UInt8) (u : Nat) : Nat → Nat × Nat × Nat × Nat
 | 0 => (1, 0, u, 1)
 | t + 1 => sw4 (bitN b (254 - t)) (lad4 u (sw4 (bitN b (254 - t)) (ldr b u t)))
def ldrL (b : List UInt8) (u : List UInt64) : Nat → List UInt64 × List UInt64 × List UInt64 × List UInt64
 | 0 => (smallL 1, smallL 0, u, smallL 1)
 | t + 1 => sw4 (bitN b (254 - t)) (lad4L u (sw4 (bitN b (254 - t)) (ldrL b u t)))
def Nm4 (s : List UInt64 × List UInt64 × List UInt64 × List UInt64) : Prop := Nm s.1 ∧ Nm s.2.1 ∧ Nm s.2.2.1 ∧ Nm s.2.2.2
def nr4 (s : List UInt64 × List UInt64 × List UInt64 × List UInt64) : Nat × Nat × Nat × Nat := (nr s.1, nr s.2.1, nr s.2.2.1, nr s.2.2.2)
theorem Nm4_sw {c : Nat} {s : List UInt64 × List UInt64 × List UInt64 × List UInt64} (h : Nm4 s) : Nm4 (sw4 c s) := by
 unfold sw4; split
 ·
  exact ⟨h.2.2.1, h.2.2.2, h.1, h.2.1⟩
 ·
  exact h
theorem nr4_sw (c : Nat) (s : List UInt64 × List UInt64 × List UInt64 × List UInt64) : nr4 (sw4 c s) = sw4 c (nr4 s) := by
 unfold sw4; split <;> rfl
theorem lad4L_ok {u : List UInt64} {s : List UInt64 × List UInt64 × List UInt64 × List UInt64} (hu : Nm u) (h : Nm4 s) : Nm4 (lad4L u s) ∧ nr4 (lad4L u s) = lad4 (nr u) (nr4 s) := by
 obtain ⟨g1, g2, g3, g4, g⟩ := ladL_ok hu h.1 h.2.1 h.2.2.1 h.2.2.2
 exact ⟨⟨g1, g2, g3, g4⟩, g.symm⟩
theorem ldrL_ok {b : List UInt8} {u : List UInt64} (hu : Nm u) : ∀ t, Nm4 (ldrL b u t) ∧ nr4 (ldrL b u t) = ldr b (nr u) t
 | 0 => by
  obtain ⟨n1, v1⟩ := Nm_small 1
  obtain ⟨n0, v0⟩ := Nm_small 0
  refine ⟨⟨n1, n0, hu, n1⟩, ?_⟩
  show (nr (smallL 1), nr (smallL 0), nr u, nr (smallL 1)) = (1, 0, nr u, 1)
  rw [v1, v0]; rfl
 | t + 1 => by
  obtain ⟨h, e⟩ := ldrL_ok (b := b) hu t
  obtain ⟨h2, e2⟩ := lad4L_ok hu (Nm4_sw (c := bitN b (254 - t)) h)
  refine ⟨Nm4_sw h2, ?_⟩
  show nr4 (sw4 _ (lad4L u (sw4 _ (ldrL b u t)))) = sw4 _ (lad4 (nr u) (sw4 _ (ldr b (nr u) t)))
  rw [nr4_sw, e2, nr4_sw, e]
def timesN (b : List UInt8) (u : Nat) : Nat := (ldr b u 255).1 * invN (ldr b u 255).2.1 % P25519
def timesL (b : List UInt8) (u : List UInt64) : List UInt64 := mulL (ldrL b u 255).1 (invL (ldrL b u 255).2.1)
theorem timesL_ok {b : List UInt8} {u : List UInt64} (hu : Nm u) : Nm (timesL b u) ∧ nr (timesL b u) = timesN b (nr u) := by
 obtain ⟨h, e⟩ := ldrL_ok (b := b) hu 255
 obtain ⟨n1, v1⟩ := invL_ok h.2.1
 obtain ⟨n2, v2⟩ := mulL_ok h.1 n1
 refine ⟨n2, ?_⟩
 unfold timesL timesN
 rw [v2, v1, ← e]; rfl
end Go.Sh
namespace Go.Sh
open Go.Proofs
set_option maxHeartbeats 8000000
theorem u8_all {p : UInt8 → Prop} (h : ∀ n : Fin 256, p (UInt8.ofNat n.1)) (x : UInt8) : p x := by
 have := h ⟨x.toNat, UInt8.toNat_lt x⟩
 simpa using this
end Go.Sh
namespace Go.Sh
open Go.Proofs
set_option maxHeartbeats 8000000
theorem f129 (b : List UInt8) (hb : b.length = 32) : SCall Tryz.prog 45 [.agg (b.map .u8)] [] (.fn 65 [.p 0 0]) [some (.box (b.map .u8))] := by
 refine scall_of ttOk (by kernel_rfl : Tryz.prog.funcs[45]? = some Tryz.f45) rfl rfl rfl ?_
 try simp only [List.length_cons, List.length_nil, Nat.zero_add, Nat.reduceAdd]
 refine sw_ok ttOk mixed (by kernel_rfl) ?_
 conv => whnf
 refine ⟨[0], ?_, rfl, rfl, ?_, rfl⟩
 ·
  (repeat' (fail)) <;> first | rfl | fail
 ·
  (repeat' (first | exact trivial | refine And.intro ?_ ?_ | fail)) <;> first | exact ren_eq (by first | (simp; done) | fail) (by rfl) | fail
end Go.Sh
namespace Go.Sh
open Go.Proofs
set_option maxHeartbeats 8000000
def lastB (b : List UInt8) : Nat → Nat
 | 0 => 0
 | t + 1 => bitN b (254 - t)
theorem bitN_lt (b : List UInt8) (i : Nat) : bitN b i < 2 := by unfold bitN; exact Nat.mod_lt _ (by decide)
theorem lastB_lt (b : List UInt8) : ∀ t, lastB b t < 2
 | 0 => by show 0 < 2; decide
 | t + 1 => bitN_lt b _
def ladS (b : List UInt8) (u : List UInt64) (t : Nat) : List UInt64 × List UInt64 × List UInt64 × List UInt64 := sw4 (lastB b t) (ldrL b u t)
def len4 (s : List UInt64 × List UInt64 × List UInt64 × List UInt64) : Prop := s.1.length = 5 ∧ s.2.1.length = 5 ∧ s.2.2.1.length = 5 ∧ s.2.2.2.length = 5
theorem len4_sw {c : Nat} {s : List UInt64 × List UInt64 × List UInt64 × List UInt64} (h : len4 s) : len4 (sw4 c s) := by
 unfold sw4; split
 ·
  exact ⟨h.2.2.1, h.2.2.2, h.1, h.2.1⟩
 ·
  exact h
theorem len4_lad (u : List UInt64) (s : List UInt64 × List UInt64 × List UInt64 × List UInt64) : len4 (lad4L u s) := ⟨rfl, rfl, rfl, rfl⟩
theorem len4_ldr (b : List UInt8) {u : List UInt64} (hu : u.length = 5) : ∀ t, len4 (ldrL b u t)
 | 0 => ⟨rfl, rfl, hu, rfl⟩
 | t + 1 => len4_sw (len4_lad _ _)
theorem len4_ladS (b : List UInt8) {u : List UInt64} (hu : u.length = 5) (t : Nat) : len4 (ladS b u t) := len4_sw (len4_ldr b hu t)
theorem ladS_z (b : List UInt8) (u : List UInt64) : ladS b u 0 = (smallL 1, smallL 0, u, smallL 1) := rfl
theorem ladS_s (b : List UInt8) (u : List UInt64) (t : Nat) : ladS b u (t + 1) = lad4L u (sw4 (lastB b (t + 1)) (sw4 (lastB b t) (ladS b u t))) := by
 unfold ladS
 rw [sw4_sw4 (lastB b t)]
 show sw4 (bitN b (254 - t)) (sw4 (bitN b (254 - t)) _) = _
 rw [sw4_sw4]; rfl
theorem ladS_e (b : List UInt8) (u : List UInt64) : sw4 0 (sw4 (lastB b 255) (ladS b u 255)) = ldrL b u 255 := by
 unfold ladS; rw [sw4_sw4]; rfl
theorem f128_c {c d : Nat} (hc : c < 2) (hd : d < 2) (s : List UInt64 × List UInt64 × List UInt64 × List UInt64) (hs : len4 s) : SCall Tryz.prog 43 [.u64 (UInt64.ofNat c ^^^ UInt64.ofNat d), .p 0 0, .p 1 0] [some (.box (s.1.map .u64 ++ s.2.1.map .u64)), some (.box (s.2.2.1.map .u64 ++ s.2.2.2.map .u64))] (.tup []) [some (.box ((sw4 d (sw4 c s)).1.map .u64 ++ (sw4 d (sw4 c s)).2.1.map .u64)), some (.box ((sw4 d (sw4 c s)).2.2.1.map .u64 ++ (sw4 d (sw4 c s)).2.2.2.map .u64))] := by
 obtain ⟨h1, h2, h3, h4⟩ := hs
 have g0 := f128_0 h1 h2 h3 h4
 have g1 := f128_1 h1 h2 h3 h4
 have hc' : c = 0 ∨ c = 1 := by omega
 have hd' : d = 0 ∨ d = 1 := by omega
 rcases hc' with rfl | rfl <;> rcases hd' with rfl | rfl
 ·
  exact g0
 ·
  exact g1
 ·
  exact g1
 ·
  exact g0
theorem f128_z {c : Nat} (hc : c < 2) (s : List UInt64 × List UInt64 × List UInt64 × List UInt64) (hs : len4 s) : SCall Tryz.prog 43 [.u64 (UInt64.ofNat c), .p 0 0, .p 1 0] [some (.box (s.1.map .u64 ++ s.2.1.map .u64)), some (.box (s.2.2.1.map .u64 ++ s.2.2.2.map .u64))] (.tup []) [some (.box ((sw4 0 (sw4 c s)).1.map .u64 ++ (sw4 0 (sw4 c s)).2.1.map .u64)), some (.box ((sw4 0 (sw4 c s)).2.2.1.map .u64 ++ (sw4 0 (sw4 c s)).2.2.2.map .u64))] := by
 have h := f128_c hc (d := 0) (by decide) s hs
 have e : UInt64.ofNat c ^^^ UInt64.ofNat 0 = UInt64.ofNat c := by
  have hc' : c = 0 ∨ c = 1 := by omega
  rcases hc' with rfl | rfl <;> rfl
 rwa [e] at h
end Go.Sh
namespace Go.Sh
open Go.Proofs
set_option maxHeartbeats 8000000
theorem bit_p (x : UInt8) (n : Nat) (hn : n < 8) : (shr8 x n &&& 1).toUInt64 = UInt64.ofNat (x.toNat / 2 ^ n % 2) := by
 have : ∀ (m : Fin 256) (n : Fin 8), (shr8 (UInt8.ofNat m.1) n.1 &&& 1).toUInt64 = UInt64.ofNat ((UInt8.ofNat m.1).toNat / 2 ^ n.1 % 2) := by decide +kernel
 have h := this ⟨x.toNat, UInt8.toNat_lt x⟩ ⟨n, hn⟩
 simpa using h
attribute [local irreducible] mulL ladL invL smallL ldrL ladS lad4L
theorem f91 (b : List UInt8) (hb : b.length = 32) (u : List UInt64) (hu : u.length = 5) : SCall Tryz.prog 28 [.agg (b.map .u8), .agg (u.map .u64)] [] (.agg ((timesL b u).map .u64)) [] := by
 have q1 := f22 1
 have q0 := f22 0
 have h129 := f129 b hb
 have l1 : (smallL 1).length = 5 := by unfold smallL; rfl
 have l0 : (smallL 0).length = 5 := by unfold smallL; rfl
 refine scall_of ttOk (by kernel_rfl : Tryz.prog.funcs[28]? = some Tryz.f28) rfl rfl rfl ?_
 try simp only [List.length_cons, List.length_nil, Nat.zero_add, Nat.reduceAdd]
 refine sw_ok ttOk mixed (by kernel_rfl) ?_
 conv => whnf
 refine ok1_callF [] [] true (q1) rfl rfl ⟨⟨rfl, by rfl⟩, trivial, by rfl, by first | simp [plainRf, plainR, plainT, plainW], ?_⟩
 conv => whnf
 refine ok1_callF [] [] true (q0) rfl rfl ⟨⟨rfl, by rfl⟩, trivial, by rfl, by first | simp [plainRf, plainR, plainT, plainW], ?_⟩
 conv => whnf
 refine ⟨_, fill2 l1 l0, ?_⟩
 conv => whnf
 repeat (first | (refine Exists.intro _ (And.intro (sload_all rfl (by first | rfl | (simp [hb, hu, l1, l0]; done) | fail)) ?_); conv => whnf) | fail)
 refine ok1_callF [] [] true (q1) rfl rfl ⟨⟨rfl, by rfl⟩, trivial, by rfl, by first | simp [plainRf, plainR, plainT, plainW], ?_⟩
 conv => whnf
 refine ⟨_, fill2 hu l1, ?_⟩
 conv => whnf
 repeat (first | (refine Exists.intro _ (And.intro (sload_all rfl (by first | rfl | (simp [hb, hu, l1, l0]; done) | fail)) ?_); conv => whnf) | (refine Exists.intro _ (And.intro (sput_all rfl (by first | rfl | (simp [hb, hu, l1, l0]; done) | fail)) ?_); conv => whnf) | (refine Exists.intro _ (And.intro rfl ?_); conv => whnf) | (refine And.intro (by first | omega | (simp; done) | (simp; omega) | fail) ?_; conv => whnf) | (refine And.intro ⟨rfl, Nat.le_of_ble_eq_true rfl⟩ ?_; conv => whnf) | (refine And.intro (by kernel_rfl) ?_; conv => whnf) | fail)
 refine ok1_callF [] [true] false (h129) rfl rfl ⟨⟨rfl, by first | ((repeat' (first | exact wk_nil | exact ren_m8 rfl | (refine wk_agg ?_) | (refine wk_cons ?_ ?_))); done) | fail⟩, trivial, by first | simp [plainHf, plainB], by rfl, ?_⟩
 conv => whnf
 refine SWp.weak (R0 := [(3, .p 1 0), (4, .p 2 0), (5, .p 3 0), (6, .p 4 0), (7, .p 5 0), (8, .p 6 0), (18, .fn 65 [.p 7 0])]) (H0 := [some (.box (b.map .u8)), some (.box (u.map .u64)), some (.box (List.replicate 5 (.u64 0))), some (.box ((ladS b u 0).1.map .u64 ++ (ladS b u 0).2.1.map .u64)), some (.box ((ladS b u 0).2.2.1.map .u64 ++ (ladS b u 0).2.2.2.map .u64)), some (.box [.u64 (UInt64.ofNat (lastB b 0))]), some (.box [.fn 43 [.p 3 0, .p 4 0]]), some (.box (b.map .u8))]) (L0 := 8) ?_ ?_
 ·
  have hz := ladS_z b u
  rw [hz]
  refine Weak.sel [0, 1, 2, 3, 4, 5, 6, 7] rfl rfl ?_ ?_ rfl rfl
  ·
   (repeat' (first | exact trivial | refine And.intro ?_ ?_ | fail)) <;> first | rfl | fail
  ·
   (repeat' (first | exact trivial | refine And.intro ?_ ?_ | (refine wk_cons ?_ ?_))) <;> first | rfl | exact ren_eq (by first | (simp; done) | fail) (by rfl) | fail
 refine range_named rfl rfl rfl (by kernel_rfl : Tryz.prog.funcs[65]? = some Tryz.f65) rfl rfl rfl rfl ?_
 intro asq bdq hasq hbdq
 refine sw_ok ttOk mixed (by kernel_rfl) ?_
 conv => whnf
 refine loop_rule ttOk mixed (by kernel_rfl) (ι := { m : Nat // m ≤ 255 }) (fun m => [(0, .yld 8), (1, .p 7 0), (3, .i ((m.1 : Int) - 1))]) (fun m => [some (.box (b.map .u8)), some (.box (u.map .u64)), some (.box (List.replicate 5 (.u64 0))), some (.box ((ladS b u (255 - m.1)).1.map .u64 ++ (ladS b u (255 - m.1)).2.1.map .u64)), some (.box ((ladS b u (255 - m.1)).2.2.1.map .u64 ++ (ladS b u (255 - m.1)).2.2.2.map .u64)), some (.box [.u64 (UInt64.ofNat (lastB b (255 - m.1)))]), some (.box [.fn 43 [.p 3 0, .p 4 0]]), some (.box (b.map .u8)), some (.obj (.loop [(3, .p 1 0), (4, .p 2 0), (5, .p 3 0), (6, .p 4 0), (7, .p 5 0), (8, .p 6 0)] Tryz.f28.ntmps [19] asq bdq))]) (fun _ => 9) (fun m => m.1) ⟨255, by omega⟩ ?_ ?_
 ·
  refine Weak.sel [0, 1, 2, 3, 4, 5, 6, 7, 8] rfl rfl ?_ ?_ rfl rfl
  ·
   (repeat' (first | exact trivial | refine And.intro ?_ ?_ | fail)) <;> first | rfl | fail
  ·
   (repeat' (first | exact trivial | refine And.intro ?_ ?_ | (refine wk_cons ?_ ?_))) <;> first | rfl | exact ren_eq (by first | (simp; done) | fail) (by rfl) | fail
 ·
  rintro ⟨m, hm⟩
  dsimp only
  by_cases hm0 : 0 < m
  ·
   obtain ⟨k, rfl⟩ : ∃ k, m = k + 1 := ⟨m - 1, by omega⟩
   have he : ((k + 1 : Nat) : Int) - 1 = (k : Int) := by omega
   rw [he]
   have hlt : decide ((k : Int) ≥ 0) = true := by simp
   obtain ⟨h1, h2, -, -⟩ := t8 k (by omega)
   have hs := ladS_s b u (255 - (k + 1))
   have hk8 : k / 8 < 32 := by omega
   have hbv : (shr8 (b.getD (k / 8) 0) ((k : Int).tmod 8).toNat &&& UInt8.ofNat (Int.toNat 1)).toUInt64 = UInt64.ofNat (bitN b k) := by
    rw [h1, Int.toNat_natCast]; exact bit_p _ _ (Nat.mod_lt _ (by decide))
   have hlb : lastB b (255 - (k + 1) + 1) = bitN b k := by
    show bitN b (254 - (255 - (k + 1))) = _
    rw [show 254 - (255 - (k + 1)) = k by omega]
   rw [hlb, show 255 - (k + 1) + 1 = 255 - k by omega] at hs
   have hlb2 : lastB b (255 - k) = bitN b k := by rw [show 255 - k = 255 - (k + 1) + 1 by omega]; exact hlb
   have hc := lastB_lt b (255 - (k + 1))
   have hd := bitN_lt b k
   have hS := len4_ladS b hu (255 - (k + 1))
   obtain ⟨S, eS⟩ : ∃ S, S = ladS b u (255 - (k + 1)) := ⟨_, rfl⟩
   obtain ⟨c, ec⟩ : ∃ c, c = lastB b (255 - (k + 1)) := ⟨_, rfl⟩
   obtain ⟨d, ed⟩ : ∃ d, d = bitN b k := ⟨_, rfl⟩
   rw [← eS, ← ec, ← ed] at hs
   rw [← ed] at hbv hlb2
   rw [← ec] at hc
   rw [← ed] at hd
   rw [← eS] at hS
   rw [← eS, ← ec]
   have q128 := f128_c hc hd S hS
   obtain ⟨T, eT⟩ : ∃ T, T = sw4 d (sw4 c S) := ⟨_, rfl⟩
   have hT : len4 T := by rw [eT]; exact len4_sw (len4_sw hS)
   rw [← eT] at q128 hs
   obtain ⟨hT1, hT2, hT3, hT4⟩ := hT
   have q130 := f130 hu hT1 hT2 hT3 hT4
   have hq : ladL u T.1 T.2.1 T.2.2.1 T.2.2.2 = ladS b u (255 - k) := by rw [hs]; unfold lad4L; rfl
   rw [hq] at q130
   conv => whnf
   first | refine brT (by exact hlt) ?_ | fail
   conv => whnf
   repeat (first | (refine Exists.intro _ (And.intro (sload_u8 (i := k / 8) (by first | rfl | (simp; done) | fail) (by omega)) ?_); conv => whnf) | (refine Exists.intro _ (And.intro (idx_i (m := k / 8) (by first | rfl | omega | fail)) ?_); conv => whnf) | (refine Exists.intro _ (And.intro rfl ?_); conv => whnf) | (refine And.intro (by omega) ?_; conv => whnf) | fail)
   rw [hbv]
   refine ok1_yield 8 [1, 2, 3, 4, 5, 6] [false, true, true, true, true, true, false] (syield_of (ps := [19]) (N := Tryz.f28.ntmps) (R0 := [(3, .p 1 0), (4, .p 2 0), (5, .p 3 0), (6, .p 4 0), (7, .p 5 0), (8, .p 6 0)]) (args0 := [.u64 (UInt64.ofNat d)]) (ex := .normal) (H0t := [some (.box (u.map .u64)), some (.box (List.replicate 5 (.u64 0))), some (.box (S.1.map .u64 ++ S.2.1.map .u64)), some (.box (S.2.2.1.map .u64 ++ S.2.2.2.map .u64)), some (.box [.u64 (UInt64.ofNat c)]), some (.box [.fn 43 [.p 3 0, .p 4 0]])]) (H1t := [some (.box (u.map .u64)), some (.box (List.replicate 5 (.u64 0))), some (.box ((ladS b u (255 - k)).1.map .u64 ++ (ladS b u (255 - k)).2.1.map .u64)), some (.box ((ladS b u (255 - k)).2.2.1.map .u64 ++ (ladS b u (255 - k)).2.2.2.map .u64)), some (.box [.u64 (UInt64.ofNat d)]), some (.box [.fn 43 [.p 3 0, .p 4 0]])]) (.inl rfl) rfl rfl rfl ?_) rfl rfl ⟨⟨rfl, by rfl⟩, by (repeat' (first | exact trivial | refine And.intro ?_ ?_)) <;> first | rfl | exact ren_eq (by first | (simp; done) | fail) (by rfl), by first | (simp [plainHf, plainB]; done) | fail, ?_⟩
   ·
    subst hasq
    subst hbdq
    refine sw_ok ttOk mixed (by kernel_rfl) ?_
    conv => whnf
    repeat (first | (refine And.intro (by first | omega | (simp; done) | fail) ?_; conv => whnf) | (refine And.intro (by kernel_rfl) ?_; conv => whnf) | fail)
    refine sw_ok ttOk mixed (by kernel_rfl) ?_
    conv => whnf
    repeat (first | (refine Exists.intro _ (And.intro rfl ?_); conv => whnf) | fail)
    refine ok1_callF [3, 4] [true, true] true (q128) rfl rfl ⟨⟨rfl, by rfl⟩, by (repeat' (first | exact trivial | refine And.intro ?_ ?_)) <;> first | exact ren_eq (by first | (simp; done) | fail) (by rfl) | fail, by first | simp [plainHf, plainB], by rfl, ?_⟩
    conv => whnf
    repeat (first | (refine Exists.intro _ (And.intro (sload_all rfl (by first | rfl | (simp [hu]; done) | fail)) ?_); conv => whnf) | (refine Exists.intro _ (And.intro rfl ?_); conv => whnf) | (refine And.intro (by first | omega | (simp; done) | fail) ?_; conv => whnf) | fail)
    refine ok1_callF [3, 4] [true, true] true (q130) rfl rfl ⟨⟨rfl, by first | ((repeat' (first | exact ren_m64 rfl | exact rfl | (refine wk_agg ?_) | (refine wk_cons ?_ ?_))); done) | fail⟩, by (repeat' (first | exact trivial | refine And.intro ?_ ?_)) <;> first | exact ren_eq (by first | (simp; done) | fail) (by rfl) | fail, by first | simp [plainHf, plainB], by rfl, ?_⟩
    conv => whnf
    repeat (first | (refine And.intro (by first | omega | (simp; done) | fail) ?_; conv => whnf) | (refine And.intro (by kernel_rfl) ?_; conv => whnf) | fail)
    exact ⟨[0, 1, 2, 3, 4, 5, 6], rfl, rfl, by (repeat' (first | exact trivial | refine And.intro ?_ ?_)) <;> first | rfl | exact ren_eq (by first | (simp; done) | fail) (by rfl) | fail, rfl⟩
   ·
    conv => whnf
    repeat (first | (refine brF rfl ?_; conv => whnf) | fail)
    refine ⟨⟨k, by omega⟩, by simp only; omega, ?_⟩
    dsimp only
    rw [hlb2]
    have hp1 : w64 ((k : Int) - 1) = (k : Int) - 1 := by simp only [w64_eq]; omega
    refine Weak.sel [0, 1, 2, 3, 4, 5, 6, 7, 8] rfl rfl ?_ ?_ rfl rfl
    ·
     (repeat' (first | exact trivial | refine And.intro ?_ ?_ | fail)) <;> first | exact wk_i (by first | exact hp1 | exact hp1.symm | fail) | rfl | fail
    ·
     (repeat' (first | exact trivial | refine And.intro ?_ ?_ | (refine wk_cons ?_ ?_))) <;> first | rfl | exact ren_eq (by first | (simp; done) | fail) (by rfl) | fail
  ·
   obtain rfl : m = 0 := by omega
   have hc := lastB_lt b 255
   have hS := len4_ladS b hu 255
   have hE := ladS_e b u
   have hL := len4_ldr b hu 255
   have q128 := f128_z hc _ hS
   rw [hE] at q128
   obtain ⟨⟨L1, L2, L3, L4⟩, eL⟩ : ∃ L, L = ldrL b u 255 := ⟨_, rfl⟩
   have hfin : timesL b u = mulL L1 (invL L2) := by unfold timesL; rw [← eL]
   rw [← eL] at q128 hL
   obtain ⟨hL1, hL2, hL3, hL4⟩ := hL
   dsimp only at hL1 hL2 hL3 hL4 q128
   have q29 := f29 hL2
   have hil := invL_len L2
   have q28 := f28 hL1 hil
   rw [← hfin] at q28
   have htl : (timesL b u).length = 5 := by rw [hfin]; exact mulL_len ..
   clear eL hfin hE
   obtain ⟨a0, a1, a2, a3, a4, rfl⟩ := ex5 hL1
   obtain ⟨b0, b1, b2, b3, b4, rfl⟩ := ex5 hL2
   rw [show 255 - 0 = 255 from rfl]
   obtain ⟨S, eS⟩ : ∃ S, S = ladS b u 255 := ⟨_, rfl⟩
   obtain ⟨c, ec⟩ : ∃ c, c = lastB b 255 := ⟨_, rfl⟩
   rw [← eS, ← ec] at q128 ⊢
   rw [← eS] at hS
   conv => whnf
   first | refine brF (by rfl) ?_ | fail
   conv => whnf
   repeat (first | (refine Exists.intro _ (And.intro rfl ?_); conv => whnf) | fail)
   refine ok1_callF [3, 4] [true, true] true (q128) rfl rfl ⟨⟨rfl, by rfl⟩, by (repeat' (first | exact trivial | refine And.intro ?_ ?_)) <;> first | exact ren_eq (by first | (simp; done) | fail) (by rfl) | fail, by first | simp [plainHf, plainB], by rfl, ?_⟩
   conv => whnf
   repeat (first | (refine Exists.intro _ (And.intro rfl ?_); conv => whnf) | fail)
   refine ok1_callF [] [] true (q29) rfl rfl ⟨⟨rfl, by rfl⟩, trivial, by rfl, by first | simp [plainRf, plainR, plainT, plainW], ?_⟩
   conv => whnf
   refine ok1_callF [] [] true (q28) rfl rfl ⟨⟨rfl, by first | ((repeat' (first | exact wk_nil | exact ren_m64 rfl | exact rfl | (refine wk_agg ?_) | (refine wk_cons ?_ ?_))); done) | fail⟩, trivial, by rfl, by first | simp [plainRf, plainR, plainT, plainW], ?_⟩
   conv => whnf
   repeat (first | (refine Exists.intro _ (And.intro (sload_all rfl (by first | rfl | (simp [hil, htl]; done) | fail)) ?_); conv => whnf) | (refine Exists.intro _ (And.intro (sput_all rfl (by first | rfl | (simp [hil, htl]; done) | fail)) ?_); conv => whnf) | (refine And.intro (by first | omega | (simp; omega) | fail) ?_; conv => whnf) | (refine And.intro (by kernel_rfl) ?_; conv => whnf) | fail)
   refine ⟨[], ?_, rfl, rfl, ?_, rfl⟩
   ·
    (repeat' (first | (refine wk_agg ?_) | fail)) <;> first | exact ren_eq (by first | (simp; done) | fail) (by rfl) | fail
   ·
    (repeat' (first | exact trivial | fail)) <;> fail
end Go.Sh
namespace Go.Sh
open Go.Proofs
set_option maxHeartbeats 8000000
def lt4 (s : Nat × Nat × Nat × Nat) : Prop := s.1 < P25519 ∧ s.2.1 < P25519 ∧ s.2.2.1 < P25519 ∧ s.2.2.2 < P25519
theorem lt4_sw {c : Nat} {s : Nat × Nat × Nat × Nat} (h : lt4 s) : lt4 (sw4 c s) := by
 unfold sw4; split
 ·
  exact ⟨h.2.2.1, h.2.2.2, h.1, h.2.1⟩
 ·
  exact h
theorem lt4_lad (u : Nat) (s : Nat × Nat × Nat × Nat) : lt4 (lad4 u s) := ⟨mod_lt_P _, mod_lt_P _, mod_lt_P _, mod_lt_P _⟩
theorem lt4_ldr (b : List UInt8) {u : Nat} (hu : u < P25519) : ∀ t, lt4 (ldr b u t)
 | 0 => ⟨(by decide : 1 < P25519), (by decide : 0 < P25519), hu, (by decide : 1 < P25519)⟩
 | t + 1 => lt4_sw (lt4_lad _ _)
theorem ldr_s (b : List UInt8) (u t : Nat) : ldr b u (t + 1) = sw4 (bitN b (254 - t)) (lad4 u (sw4 (bitN b (254 - t)) (ldr b u t))) := rfl
theorem ldr_z (b : List UInt8) (u : Nat) : ldr b u 0 = (1, 0, u, 1) := rfl
attribute [local irreducible] dg lad ldr lad4 invN le32 clampL bitN
theorem f92 (b : List UInt8) (hb : b.length = 32) {u : Nat} (hu : u < P25519) (f : Bool) : SCall Tryz.prog 41 [.sl 0 0 32 1 f, .sl 1 0 16 1 true] [some (.ro (b.map .u8)), some (.ro ((dg u).map .u64))] (.sl 2 0 32 1 false) [some (.ro (b.map .u8)), some (.ro ((dg u).map .u64)), some (.row 5 ((le32 (timesN (clampL b) u)).map .u8))] := by
 have q42 := f42 b hb f
 have q1 := f24 1
 have q0 := f24 0
 have e1 : (1 : UInt32).toNat = 1 := rfl
 have e0 : (0 : UInt32).toNat = 0 := rfl
 rw [e1] at q1
 rw [e0] at q0
 have hcl := clamp_len b
 rw [hb] at hcl
 obtain ⟨c, ec⟩ : ∃ c, c = clampL b := ⟨_, rfl⟩
 rw [← ec] at q42 hcl ⊢
 refine scall_of ttOk (by kernel_rfl : Tryz.prog.funcs[41]? = some Tryz.f41) rfl rfl rfl ?_
 try simp only [List.length_cons, List.length_nil, Nat.zero_add, Nat.reduceAdd]
 refine sw_ok ttOk mixed (by kernel_rfl) ?_
 conv => whnf
 refine ok1_callF [0] [false, true] false (q42) rfl rfl ⟨⟨rfl, by rfl⟩, by (repeat' (first | exact trivial | refine And.intro ?_ ?_)) <;> first | exact ren_eq (by first | (simp; done) | fail) (by rfl) | fail, by first | simp [plainHf, plainB], by rfl, ?_⟩
 conv => whnf
 refine ok1_callF [] [true] false (q1) rfl rfl ⟨⟨rfl, by rfl⟩, trivial, by first | simp [plainHf, plainB], by rfl, ?_⟩
 conv => whnf
 refine ok1_callF [] [true] false (q0) rfl rfl ⟨⟨rfl, by rfl⟩, trivial, by first | simp [plainHf, plainB], by rfl, ?_⟩
 conv => whnf
 refine ok1_callF [] [true] false (q1) rfl rfl ⟨⟨rfl, by rfl⟩, trivial, by first | simp [plainHf, plainB], by rfl, ?_⟩
 conv => whnf
 repeat (first | (refine Exists.intro _ (And.intro rfl ?_); conv => whnf) | fail)
 refine loop_rule ttOk mixed (by kernel_rfl) (ι := { m : Nat // m ≤ 255 }) (fun m => [(1, .sl 1 0 16 1 true), (5, .sl 2 0 32 1 false), (6, .sl 3 0 4 1 true), (7, .i ((m.1 : Int) - 1))]) (fun m => [some (.ro (b.map .u8)), some (.ro ((dg u).map .u64)), some (.ro (c.map .u8)), some (.ro [.sl 4 0 16 1 true, .sl 5 0 16 1 true, .sl 6 0 16 1 true, .sl 7 0 16 1 true]), some (.ro ((dg (ldr c u (255 - m.1)).1).map .u64)), some (.ro ((dg (ldr c u (255 - m.1)).2.1).map .u64)), some (.ro ((dg (ldr c u (255 - m.1)).2.2.1).map .u64)), some (.ro ((dg (ldr c u (255 - m.1)).2.2.2).map .u64))]) (fun _ => 8) (fun m => m.1) ⟨255, by omega⟩ ?_ ?_
 ·
  have hz := ldr_z c u
  dsimp only
  rw [show 255 - 255 = 0 from rfl, hz]
  refine Weak.sel [0, 1, 2, 6, 3, 4, 1, 5] rfl rfl ?_ ?_ rfl rfl
  ·
   (repeat' (first | exact trivial | refine And.intro ?_ ?_ | fail)) <;> first | rfl | fail
  ·
   (repeat' (first | exact trivial | refine And.intro ?_ ?_ | (refine wk_cons ?_ ?_))) <;> first | rfl | exact ren_eq (by first | (simp; done) | fail) (by rfl) | fail
 ·
  rintro ⟨m, hm⟩
  dsimp only
  by_cases hm0 : 0 < m
  ·
   obtain ⟨k, rfl⟩ : ∃ k, m = k + 1 := ⟨m - 1, by omega⟩
   have he : ((k + 1 : Nat) : Int) - 1 = (k : Int) := by omega
   rw [he]
   have hlt : decide ((k : Int) ≥ 0) = true := by simp
   have hs := ldr_s c u (255 - (k + 1))
   rw [show 254 - (255 - (k + 1)) = k by omega, show 255 - (k + 1) + 1 = 255 - k by omega] at hs
   have hd := bitN_lt c k
   have q131 := f131 c hcl k (by omega) false
   have hp1 : w64 ((k : Int) - 1) = (k : Int) - 1 := by simp only [w64_eq]; omega
   obtain ⟨d, ed⟩ : ∃ d, d = bitN c k := ⟨_, rfl⟩
   rw [← ed] at hs hd q131
   obtain ⟨hS1, hS2, hS3, hS4⟩ := lt4_ldr c hu (255 - (k + 1))
   obtain ⟨⟨x2, z2, x3, z3⟩, eS⟩ : ∃ S, S = ldr c u (255 - (k + 1)) := ⟨_, rfl⟩
   rw [← eS] at hS1 hS2 hS3 hS4 hs ⊢
   dsimp only at hS1 hS2 hS3 hS4 ⊢
   have hd' : d = 0 ∨ d = 1 := by omega
   rcases hd' with rfl | rfl
   ·
    have hs' : ldr c u (255 - k) = lad u x2 z2 x3 z3 := hs.trans (by unfold lad4; rfl)
    have q132 := f132 hu hS1 hS2 hS3 hS4
    rw [← hs'] at q132
    conv => whnf
    first | refine brT (by exact hlt) ?_ | fail
    conv => whnf
    refine ok1_callF [2] [false] true (q131) rfl rfl ⟨⟨rfl, by rfl⟩, by (repeat' (first | exact trivial | refine And.intro ?_ ?_)) <;> first | exact ren_eq (by first | (simp; done) | fail) (by rfl) | fail, by rfl, by rfl, ?_⟩
    conv => whnf
    repeat (first | (refine brF rfl ?_; conv => whnf) | fail)
    refine ok1_callF [1, 3, 4, 5, 6, 7] [false, false, false, false, false, false, false, true, true, true, true] false (q132) rfl rfl ⟨⟨rfl, by rfl⟩, by (repeat' (first | exact trivial | refine And.intro ?_ ?_)) <;> first | rfl | exact ren_eq (by first | (simp; done) | fail) (by rfl) | fail, by first | simp [plainHf, plainB], by rfl, ?_⟩
    conv => whnf
    refine ⟨⟨k, by omega⟩, by simp only; omega, ?_⟩
    refine Weak.sel [0, 1, 2, 8, 9, 10, 11, 12] rfl rfl ?_ ?_ rfl rfl
    ·
     (repeat' (first | exact trivial | refine And.intro ?_ ?_ | fail)) <;> first | exact wk_i (by first | exact hp1 | exact hp1.symm | fail) | rfl | fail
    ·
     (repeat' (first | exact trivial | refine And.intro ?_ ?_ | (refine wk_cons ?_ ?_))) <;> first | rfl | exact ren_eq (by first | (simp; done) | fail) (by rfl) | fail
   ·
    have hs' : ldr c u (255 - k) = ((lad u x3 z3 x2 z2).2.2.1, (lad u x3 z3 x2 z2).2.2.2, (lad u x3 z3 x2 z2).1, (lad u x3 z3 x2 z2).2.1) := hs.trans (by unfold lad4 sw4; rfl)
    have q132 := f132 hu hS3 hS4 hS1 hS2
    conv => whnf
    first | refine brT (by exact hlt) ?_ | fail
    conv => whnf
    refine ok1_callF [2] [false] true (q131) rfl rfl ⟨⟨rfl, by rfl⟩, by (repeat' (first | exact trivial | refine And.intro ?_ ?_)) <;> first | exact ren_eq (by first | (simp; done) | fail) (by rfl) | fail, by rfl, by rfl, ?_⟩
    conv => whnf
    repeat (first | (refine brT rfl ?_; conv => whnf) | (refine Exists.intro _ (And.intro rfl ?_); conv => whnf) | (refine And.intro (by omega) ?_; conv => whnf) | fail)
    refine ok1_callF [1, 8, 6, 7, 4, 5] [false, false, false, false, false, false, false, true, true, true, true] false (q132) rfl rfl ⟨⟨rfl, by rfl⟩, by (repeat' (first | exact trivial | refine And.intro ?_ ?_)) <;> first | rfl | exact ren_eq (by first | (simp; done) | fail) (by rfl) | fail, by first | simp [plainHf, plainB], by rfl, ?_⟩
    conv => whnf
    repeat (first | (refine Exists.intro _ (And.intro rfl ?_); conv => whnf) | (refine And.intro (by omega) ?_; conv => whnf) | (refine And.intro (by kernel_rfl) ?_; conv => whnf) | fail)
    refine ⟨⟨k, by omega⟩, by simp only; omega, ?_⟩
    dsimp only
    rw [hs']
    refine Weak.sel [0, 1, 2, 14, 12, 13, 10, 11] rfl rfl ?_ ?_ rfl rfl
    ·
     (repeat' (first | exact trivial | refine And.intro ?_ ?_ | fail)) <;> first | exact wk_i (by first | exact hp1 | exact hp1.symm | fail) | rfl | fail
    ·
     (repeat' (first | exact trivial | refine And.intro ?_ ?_ | (refine wk_cons ?_ ?_))) <;> first | rfl | exact ren_eq (by first | (simp; done) | fail) (by rfl) | fail
  ·
   obtain rfl : m = 0 := by omega
   obtain ⟨hS1, hS2, hS3, hS4⟩ := lt4_ldr c hu 255
   have q33 := f33 hS2 true
   have q32 := f32 (v := invN (ldr c u 255).2.1) hS1 (invN_lt _) true true
   have hfin : timesN c u = (ldr c u 255).1 * invN (ldr c u 255).2.1 % P25519 := rfl
   rw [← hfin] at q32
   have q34 := f34 (timesN c u) true
   rw [show 255 - 0 = 255 from rfl]
   conv => whnf
   first | refine brF (by rfl) ?_ | fail
   conv => whnf
   repeat (first | (refine Exists.intro _ (And.intro rfl ?_); conv => whnf) | (refine And.intro (by omega) ?_; conv => whnf) | fail)
   refine ok1_callF [5] [false, true] false (q33) rfl rfl ⟨⟨rfl, by rfl⟩, by (repeat' (first | exact trivial | refine And.intro ?_ ?_)) <;> first | exact ren_eq (by first | (simp; done) | fail) (by rfl) | fail, by first | simp [plainHf, plainB], by rfl, ?_⟩
   conv => whnf
   refine ok1_callF [4, 8] [false, false, true] false (q32) rfl rfl ⟨⟨rfl, by rfl⟩, by (repeat' (first | exact trivial | refine And.intro ?_ ?_)) <;> first | exact ren_eq (by first | (simp; done) | fail) (by rfl) | fail, by first | simp [plainHf, plainB], by rfl, ?_⟩
   conv => whnf
   refine ok1_callF [9] [false, true] false (q34) rfl rfl ⟨⟨rfl, by rfl⟩, by (repeat' (first | exact trivial | refine And.intro ?_ ?_)) <;> first | exact ren_eq (by first | (simp; done) | fail) (by rfl) | fail, by first | simp [plainHf, plainB], by rfl, ?_⟩
   conv => whnf
   repeat (first | (refine And.intro (by kernel_rfl) ?_; conv => whnf) | fail)
   refine ⟨[0, 1, 10], ?_, rfl, rfl, ?_, rfl⟩
   ·
    (repeat' (fail)) <;> first | rfl | fail
   ·
    (repeat' (first | exact trivial | refine And.intro ?_ ?_ | fail)) <;> first | rfl | exact ren_eq (by first | (simp; done) | fail) (by rfl) | fail
end Go.Sh
namespace Go.Sh
open Go.Proofs
set_option maxHeartbeats 8000000
def shN (k p : List UInt8) : List UInt8 := le32 (timesN (clampL k) (br p))
def pubN (k : List UInt8) : List UInt8 := le32 (timesN (clampL k) 9)
def zer : List UInt8 := List.replicate 32 0
theorem shN_len (k p : List UInt8) : (shN k p).length = 32 := le32_len _
theorem pubN_len (k : List UInt8) : (pubN k).length = 32 := le32_len _
attribute [local irreducible] timesL timesN ofB le32 clampL smallL shN pubN
theorem f40 (k p : List UInt8) (hk : k.length = 32) (hp : p.length = 32) : SCall Tryz.prog 32 [.agg (k.map .u8), .agg (p.map .u8)] [] (.tup [.agg ((shN k p).map .u8), .i (if shN k p = zer then 70 else 0)]) [] := by
 have hcl : (clampL k).length = 32 := by rw [clamp_len]; exact hk
 have q39 := f39 k hk
 have q21 := f21 p hp
 have hol : (ofB p).length = 5 := by unfold ofB; rfl
 have q91 := f91 (clampL k) hcl (ofB p) hol
 have hok := timesL_ok (b := clampL k) (ofB_ok p).1
 have q25 := f25 hok.1
 rw [hok.2, nr_of, show le32 (timesN (clampL k) (br p)) = shN k p by unfold shN; rfl] at q25
 have htl : (timesL (clampL k) (ofB p)).length = 5 := by unfold timesL; exact mulL_len ..
 have hsl := shN_len k p
 have hdec : eqcs ((shN k p).map SV.u8) (zer.map SV.u8) = decide (shN k p = zer) := eqcs_dec _ _ (by rw [hsl]; rfl)
 obtain ⟨W, eW⟩ : ∃ W, W = shN k p := ⟨_, rfl⟩
 rw [← eW] at q25 hsl hdec ⊢
 refine scall_of ttOk (by kernel_rfl : Tryz.prog.funcs[32]? = some Tryz.f32) rfl rfl rfl ?_
 try simp only [List.length_cons, List.length_nil, Nat.zero_add, Nat.reduceAdd]
 refine sw_ok ttOk mixed (by kernel_rfl) ?_
 conv => whnf
 repeat (first | (refine Exists.intro _ (And.intro (sload_all rfl (by first | rfl | (simp [hk, hp]; done) | fail)) ?_); conv => whnf) | fail)
 refine ok1_callF [] [] true (q39) rfl rfl ⟨⟨rfl, by first | ((repeat' (first | exact wk_nil | exact ren_m8 rfl | (refine wk_agg ?_) | (refine wk_cons ?_ ?_))); done) | fail⟩, trivial, by rfl, by first | simp [plainRf, plainR, plainT, plainW], ?_⟩
 conv => whnf
 repeat (first | (refine Exists.intro _ (And.intro (sload_all rfl (by first | rfl | (simp [hk, hp, hcl]; done) | fail)) ?_); conv => whnf) | fail)
 refine ok1_callF [] [] true (q21) rfl rfl ⟨⟨rfl, by first | ((repeat' (first | exact wk_nil | exact ren_m8 rfl | (refine wk_agg ?_) | (refine wk_cons ?_ ?_))); done) | fail⟩, trivial, by rfl, by first | simp [plainRf, plainR, plainT, plainW], ?_⟩
 conv => whnf
 refine ok1_callF [] [] true (q91) rfl rfl ⟨⟨rfl, by first | ((repeat' (first | exact wk_nil | exact ren_m8 rfl | exact ren_m64 rfl | (refine wk_agg ?_) | (refine wk_cons ?_ ?_))); done) | fail⟩, trivial, by rfl, by first | simp [plainRf, plainR, plainT, plainW], ?_⟩
 conv => whnf
 refine ok1_callF [] [] true (q25) rfl rfl ⟨⟨rfl, by first | ((repeat' (first | exact wk_nil | exact ren_m64 rfl | (refine wk_agg ?_) | (refine wk_cons ?_ ?_))); done) | fail⟩, trivial, by rfl, by first | simp [plainRf, plainR, plainT, plainW], ?_⟩
 conv => whnf
 repeat (first | (refine Exists.intro _ (And.intro (sload_all rfl (by first | rfl | (simp [hk, hp, hcl, hol, htl, hsl]; done) | fail)) ?_); conv => whnf) | (refine Exists.intro _ (And.intro (sput_all rfl (by first | rfl | (simp [hk, hp, hcl, hol, htl, hsl]; done) | fail)) ?_); conv => whnf) | (refine Exists.intro _ (And.intro rfl ?_); conv => whnf) | (refine And.intro (by first | (simp; omega) | fail) ?_; conv => whnf) | (refine And.intro (by kernel_rfl) ?_; conv => whnf) | fail)
 refine And.intro ⟨kd_u8n W hsl, kd_u8n zer rfl⟩ ?_
 conv => whnf
 by_cases hz : W = zer
 ·
  rw [if_pos hz]
  rw [decide_eq_true hz] at hdec
  first | refine brT (by exact hdec) ?_ | fail
  conv => whnf
  repeat (first | (refine Exists.intro _ (And.intro (sload_all rfl (by first | rfl | (simp [hsl]; done) | fail)) ?_); conv => whnf) | (refine Exists.intro _ (And.intro (sput_all rfl (by first | rfl | (simp [hsl]; done) | fail)) ?_); conv => whnf) | (refine And.intro (by first | omega | (simp; omega) | fail) ?_; conv => whnf) | fail)
  refine ⟨[], ?_, rfl, rfl, ?_, rfl⟩
  ·
   (repeat' (first | (refine wk_tup ?_) | (refine wk_agg ?_) | (refine wk_cons ?_ ?_))) <;> first | rfl | exact ren_eq (by first | (simp; done) | fail) (by rfl) | fail
  ·
   (repeat' (first | exact trivial | fail)) <;> fail
 ·
  rw [if_neg hz]
  rw [decide_eq_false hz] at hdec
  first | refine brF (by exact hdec) ?_ | fail
  conv => whnf
  repeat (first | (refine Exists.intro _ (And.intro (sload_all rfl (by first | rfl | (simp [hsl]; done) | fail)) ?_); conv => whnf) | (refine Exists.intro _ (And.intro (sput_all rfl (by first | rfl | (simp [hsl]; done) | fail)) ?_); conv => whnf) | (refine And.intro (by first | omega | (simp; omega) | fail) ?_; conv => whnf) | fail)
  refine ⟨[], ?_, rfl, rfl, ?_, rfl⟩
  ·
   (repeat' (first | (refine wk_tup ?_) | (refine wk_agg ?_) | (refine wk_cons ?_ ?_))) <;> first | rfl | exact ren_eq (by first | (simp; done) | fail) (by rfl) | fail
  ·
   (repeat' (first | exact trivial | fail)) <;> fail
theorem f41 (k : List UInt8) (hk : k.length = 32) : SCall Tryz.prog 15 [.agg (k.map .u8)] [] (.agg ((pubN k).map .u8)) [] := by
 have hcl : (clampL k).length = 32 := by rw [clamp_len]; exact hk
 have q39 := f39 k hk
 have q22 := f22 9
 have hol : (smallL 9).length = 5 := by unfold smallL; rfl
 have q91 := f91 (clampL k) hcl (smallL 9) hol
 have hok := timesL_ok (b := clampL k) (Nm_small 9).1
 have q25 := f25 hok.1
 rw [hok.2, (Nm_small 9).2, show le32 (timesN (clampL k) (9 : UInt32).toNat) = pubN k by unfold pubN; rfl] at q25
 have htl : (timesL (clampL k) (smallL 9)).length = 5 := by unfold timesL; exact mulL_len ..
 have hsl := pubN_len k
 obtain ⟨W, eW⟩ : ∃ W, W = pubN k := ⟨_, rfl⟩
 rw [← eW] at q25 hsl ⊢
 refine scall_of ttOk (by kernel_rfl : Tryz.prog.funcs[15]? = some Tryz.f15) rfl rfl rfl ?_
 try simp only [List.length_cons, List.length_nil, Nat.zero_add, Nat.reduceAdd]
 refine sw_ok ttOk mixed (by kernel_rfl) ?_
 conv => whnf
 repeat (first | (refine Exists.intro _ (And.intro (sload_all rfl (by first | rfl | (simp [hk]; done) | fail)) ?_); conv => whnf) | fail)
 refine ok1_callF [] [] true (q39) rfl rfl ⟨⟨rfl, by first | ((repeat' (first | exact wk_nil | exact ren_m8 rfl | (refine wk_agg ?_) | (refine wk_cons ?_ ?_))); done) | fail⟩, trivial, by rfl, by first | simp [plainRf, plainR, plainT, plainW], ?_⟩
 conv => whnf
 refine ok1_callF [] [] true (q22) rfl rfl ⟨⟨rfl, by rfl⟩, trivial, by rfl, by first | simp [plainRf, plainR, plainT, plainW], ?_⟩
 conv => whnf
 refine ok1_callF [] [] true (q91) rfl rfl ⟨⟨rfl, by first | ((repeat' (first | exact wk_nil | exact ren_m8 rfl | exact ren_m64 rfl | (refine wk_agg ?_) | (refine wk_cons ?_ ?_))); done) | fail⟩, trivial, by rfl, by first | simp [plainRf, plainR, plainT, plainW], ?_⟩
 conv => whnf
 refine ok1_callF [] [] true (q25) rfl rfl ⟨⟨rfl, by first | ((repeat' (first | exact wk_nil | exact ren_m64 rfl | (refine wk_agg ?_) | (refine wk_cons ?_ ?_))); done) | fail⟩, trivial, by rfl, by first | simp [plainRf, plainR, plainT, plainW], ?_⟩
 conv => whnf
 repeat (first | (refine Exists.intro _ (And.intro (sload_all rfl (by first | rfl | (simp [hk, hcl, hol, htl, hsl]; done) | fail)) ?_); conv => whnf) | (refine Exists.intro _ (And.intro (sput_all rfl (by first | rfl | (simp [hk, hcl, hol, htl, hsl]; done) | fail)) ?_); conv => whnf) | (refine And.intro (by first | omega | (simp; omega) | fail) ?_; conv => whnf) | fail)
 refine ⟨[], ?_, rfl, rfl, ?_, rfl⟩
 ·
  (repeat' (first | (refine wk_agg ?_) | fail)) <;> first | exact ren_eq (by first | (simp; done) | fail) (by rfl) | fail
 ·
  (repeat' (first | exact trivial | fail)) <;> fail
theorem f43 (k p : List UInt8) (hk : k.length = 32) (hp : p.length = 32) (f g : Bool) : SCall Tryz.prog 54 [.sl 0 0 32 1 f, .sl 1 0 32 1 g] [some (.ro (k.map .u8)), some (.ro (p.map .u8))] (.sl 2 0 32 1 false) [some (.ro (k.map .u8)), some (.ro (p.map .u8)), some (.row 5 ((shN k p).map .u8))] := by
 have q23 := f23 p hp g
 have q92 := f92 k hk (br_lt p) f
 rw [show le32 (timesN (clampL k) (br p)) = shN k p by unfold shN; rfl] at q92
 refine scall_of ttOk (by kernel_rfl : Tryz.prog.funcs[54]? = some Tryz.f54) rfl rfl rfl ?_
 try simp only [List.length_cons, List.length_nil, Nat.zero_add, Nat.reduceAdd]
 refine sw_ok ttOk mixed (by kernel_rfl) ?_
 conv => whnf
 refine ok1_callF [1] [false, true] false (q23) rfl rfl ⟨⟨rfl, by rfl⟩, by (repeat' (first | exact trivial | refine And.intro ?_ ?_)) <;> first | exact ren_eq (by first | (simp; done) | fail) (by rfl) | fail, by rfl, by rfl, ?_⟩
 conv => whnf
 refine ok1_callF [0, 2] [false, false, true] false (q92) rfl rfl ⟨⟨rfl, by rfl⟩, by (repeat' (first | exact trivial | refine And.intro ?_ ?_)) <;> first | rfl | exact ren_eq (by first | (simp; done) | fail) (by rfl) | fail, by first | simp [plainHf, plainB], by rfl, ?_⟩
 conv => whnf
 refine ⟨[0, 1, 3], ?_, rfl, rfl, ?_, rfl⟩
 ·
  (repeat' (fail)) <;> first | rfl | fail
 ·
  (repeat' (first | exact trivial | refine And.intro ?_ ?_ | fail)) <;> first | rfl | exact ren_eq (by first | (simp; done) | fail) (by rfl) | fail
theorem f44 (k : List UInt8) (hk : k.length = 32) (f : Bool) : SCall Tryz.prog 24 [.sl 0 0 32 1 f] [some (.ro (k.map .u8))] (.sl 1 0 32 1 false) [some (.ro (k.map .u8)), some (.row 5 ((pubN k).map .u8))] := by
 have q24 := f24 9
 rw [show (9 : UInt32).toNat = 9 from rfl] at q24
 have q92 := f92 k hk (by decide : 9 < P25519) f
 rw [show le32 (timesN (clampL k) 9) = pubN k by unfold pubN; rfl] at q92
 refine scall_of ttOk (by kernel_rfl : Tryz.prog.funcs[24]? = some Tryz.f24) rfl rfl rfl ?_
 try simp only [List.length_cons, List.length_nil, Nat.zero_add, Nat.reduceAdd]
 refine sw_ok ttOk mixed (by kernel_rfl) ?_
 conv => whnf
 refine ok1_callF [] [true] false (q24) rfl rfl ⟨⟨rfl, by rfl⟩, trivial, by rfl, by rfl, ?_⟩
 conv => whnf
 refine ok1_callF [0, 1] [false, false, true] false (q92) rfl rfl ⟨⟨rfl, by rfl⟩, by (repeat' (first | exact trivial | refine And.intro ?_ ?_)) <;> first | rfl | exact ren_eq (by first | (simp; done) | fail) (by rfl) | fail, by first | simp [plainHf, plainB], by rfl, ?_⟩
 conv => whnf
 refine ⟨[0, 2], ?_, rfl, rfl, ?_, rfl⟩
 ·
  (repeat' (fail)) <;> first | rfl | fail
 ·
  (repeat' (first | exact trivial | refine And.intro ?_ ?_ | fail)) <;> first | rfl | exact ren_eq (by first | (simp; done) | fail) (by rfl) | fail
end Go.Sh
namespace Go.Sh
theorem rels_same {ρ : Ren} {xs : List SV} {vs : List Value} {k : Nat} {x y : SV} (h : Rels ρ xs vs) (hk : xs[k]? = some x) (hy : ∀ v, Rel ρ x v → Rel ρ y v) : Rels ρ (xs.set k y) vs := by
 obtain ⟨v, hv, hr⟩ := h.get hk
 have h2 := h.set (k := k) (hy v hr)
 have e : vs.set k v = vs := by
  apply List.ext_getElem?
  intro j
  rw [List.getElem?_set]
  by_cases hj : k = j
  ·
   subst hj
   obtain ⟨hlt, e⟩ := List.getElem?_eq_some_iff.1 hv
   rw [if_pos rfl, if_pos hlt, hv]
  ·
   rw [if_neg hj]
 rwa [e] at h2
theorem atoms_set {xs : List SV} {k : Nat} {x : SV} (h : atoms xs = true) (hx : x.atom = true) : atoms (xs.set k x) = true := by
 unfold atoms at *
 rw [List.all_eq_true] at *
 intro y hy
 rcases List.mem_or_eq_of_mem_set hy with h2 | h2
 ·
  exact h y h2
 ·
  rw [h2]; exact hx
theorem Weak.cell {A : Nat} {R : RL} {H : HL} {L : Nat} (q k : Nat) (x y : SV) {l : List SV} (hq : hk H q = some (.box l)) (hx : l[k]? = some x) (ha : y.atom = true) (hL : H.length ≤ L)
  (hy : ∀ ρ w, HRel ρ (hg H) w → ∀ v, Rel ρ x v → Rel ρ y v) : Weak A R H L R (hupd H [(q, some (.box (l.set k y)))]) L := by
 intro N B ρ a w hs hl
 have hq0 := hq
 rw [hk_eq] at hq
 have hg2 : ∀ id, hg (hupd H [(q, some (.box (l.set k y)))]) id = if id = q then some (.box (l.set k y)) else hg H id := fun id => by
  rw [hg_hupd]
  by_cases h : id = q
  ·
   subst h; simp [updW]
  ·
   have : (id == q) = false := by simpa using h
   simp [updW, List.lookup_cons, this, h]
 have hf : ∀ rb kk o, foot rb (.box (l.set k y)) kk o ↔ foot rb (.box l) kk o := fun rb kk o => by simp only [foot, List.length_set]
 have hown : ∀ kk o, Owned ρ (hg (hupd H [(q, some (.box (l.set k y)))])) kk o → Owned ρ (hg H) kk o := by
  rintro kk o ⟨id, b, rb, h1, h2, h3, h4⟩
  rw [hg2] at h1
  by_cases h : id = q
  ·
   rw [if_pos h] at h1; cases h1; subst h; exact ⟨id, _, rb, hq, h2, rfl, (hf _ _ _).1 h4⟩
  ·
   rw [if_neg h] at h1; exact ⟨id, b, rb, h1, h2, h3, h4⟩
 refine ⟨ρ, ⟨hs.size, hs.regs, ?_, ?_, hs.fresh, hs.dfr⟩, ?_, ⟨fun id _ rb h => h, Fr.refl _ _, fun kk o h => .inl (hown kk o h)⟩⟩
 ·
  intro id b hb
  rw [hg2] at hb
  by_cases h : id = q
  ·
   rw [if_pos h] at hb; cases hb; subst h
   obtain ⟨rb, h1, ⟨c, t, fz, g1, g2, g3, g4, g5⟩, g6, g7⟩ := hs.heap id _ hq
   refine ⟨rb, h1, ⟨c, t, fz, g1, atoms_set g2 ha, ?_, g4, by rw [List.length_set]; exact g5⟩, by rw [List.length_set]; exact g6, g7⟩
   rw [List.length_set]
   exact rels_same g3 hx (hy ρ w hs.heap)
  ·
   rw [if_neg h] at hb; exact hs.heap id b hb
 ·
  intro i j bi bj ri rj hne hi hj hri hrj hb kk o ⟨hfi, hfj⟩
  rw [hg2] at hi hj
  by_cases h1 : i = q
  ·
   rw [if_pos h1] at hi; cases hi
   rw [if_neg (fun e => hne (by rw [h1, e]))] at hj
   subst h1
   exact hs.sep i j _ bj ri rj hne hq hj hri hrj rfl kk o ⟨(hf _ _ _).1 hfi, hfj⟩
  ·
   rw [if_neg h1] at hi
   by_cases h2 : j = q
   ·
    rw [if_pos h2] at hj; cases hj
    subst h2
    exact hs.sep i j bi _ ri rj hne hi hq hri hrj hb kk o ⟨hfi, (hf _ _ _).1 hfj⟩
   ·
    rw [if_neg h2] at hj
    exact hs.sep i j bi bj ri rj hne hi hj hri hrj hb kk o ⟨hfi, hfj⟩
 ·
  have := hk_lt hl hq0
  exact hupd_le hL (fun id ob hm => by simp at hm; omega)
theorem Weak.virt0 {A : Nat} {R : RL} {H : HL} {L : Nat} (ty : Nat) : Weak A R H L R (hupd H [(L, some (.row ty []))]) (L + 1) := by
 intro N B ρ a w hs hl
 have hc := Chg.virtual (ρ := ρ) (H := hg H) (w := w) (t := ty) (hs.fresh L (Nat.le_refl _))
 have hev := hc.evo (H := hg H) (fun _ _ _ => rfl) hs.heap hs.sep
 rw [← hg_hupd] at hev
 refine ⟨_, ⟨hs.size, fun t v hv => (hs.regs t v hv).ext hev.ext, hev.heap, hev.sep, ?_, hs.dfr⟩, ?_, hev.ev.toA⟩
 ·
  intro id hid
  rw [setR_other _ _ (by omega)]
  exact hs.fresh id (by omega)
 ·
  exact hupd_le (by omega) (fun id ob hm => by simp at hm; omega)
theorem Weak.virtB {A : Nat} {R : RL} {H : HL} {L : Nat} (q k ty sz : Nat) {l : List SV} {H2 : HL} (hH2 : hupd H [(L, some (.row ty []))] = H2) (hl2 : Nat.ble H2.length (L + 1) = true) (hL : hk H2 L = some (.row ty [])) (hq : hk H2 q = some (.box l)) (hx : l[k]? = some .slnil) : Weak A R H L R (hupd H2 [(q, some (.box (l.set k (.sl L 0 0 sz false))))]) (L + 1) := by
 subst hH2
 refine (Weak.virt0 ty).trans (Weak.cell q k .slnil _ hq hx rfl (Nat.le_of_ble_eq_true hl2) ?_)
 intro ρ w hH v hv
 simp only [Rel] at hv ⊢
 rw [hk_eq] at hL
 obtain ⟨rb, h1, _⟩ := hH L _ hL
 exact ⟨rb, none, 0, h1, hv, Nat.le_refl _, fun h => (by cases h), .inl rfl⟩
end Go.Sh
namespace Go.Sh
theorem Weak.short {A : Nat} {R : RL} {H : HL} {L : Nat} (q k : Nat) {t : Nat} {l : List SV} (hq : hk H q = some (.row t l)) (hL : Nat.ble H.length L = true) : Weak A R H L R (hupd H [(q, some (.row t (l.take k)))]) L := by
 intro N B ρ a w hs hl
 have hq0 := hq
 rw [hk_eq] at hq
 have hg2 : ∀ id, hg (hupd H [(q, some (.row t (l.take k)))]) id = if id = q then some (.row t (l.take k)) else hg H id := fun id => by
  rw [hg_hupd]
  by_cases h : id = q
  ·
   subst h; simp [updW]
  ·
   have : (id == q) = false := by simpa using h
   simp [updW, List.lookup_cons, this, h]
 have hf : ∀ rb kk o, foot rb (.row t (l.take k)) kk o ↔ foot rb (.row t l) kk o := fun rb kk o => Iff.rfl
 have hown : ∀ kk o, Owned ρ (hg (hupd H [(q, some (.row t (l.take k)))])) kk o → Owned ρ (hg H) kk o := by
  rintro kk o ⟨id, b, rb, h1, h2, h3, h4⟩
  rw [hg2] at h1
  by_cases h : id = q
  ·
   rw [if_pos h] at h1; cases h1; subst h; exact ⟨id, _, rb, hq, h2, rfl, (hf _ _ _).1 h4⟩
  ·
   rw [if_neg h] at h1; exact ⟨id, b, rb, h1, h2, h3, h4⟩
 refine ⟨ρ, ⟨hs.size, hs.regs, ?_, ?_, hs.fresh, hs.dfr⟩, ?_, ⟨fun id _ rb h => h, Fr.refl _ _, fun kk o h => .inl (hown kk o h)⟩⟩
 ·
  intro id b hb
  rw [hg2] at hb
  by_cases h : id = q
  ·
   rw [if_pos h] at hb; cases hb; subst h
   obtain ⟨rb, h1, h2⟩ := hs.heap id _ hq
   refine ⟨rb, h1, ?_⟩
   rcases h2 with ⟨g1, g2⟩ | ⟨g0, c, fz, g1, g2, g3, g4, g5, g6⟩
   ·
    exact .inl ⟨g1, by rw [g2]; simp⟩
   ·
    refine .inr ⟨g0, c, fz, g1, g2, g3, ?_, ?_, ?_⟩
    ·
     unfold atoms at g4 ⊢
     rw [List.all_eq_true] at g4 ⊢
     exact fun x hx => g4 x (List.mem_of_mem_take hx)
    ·
     have := g5.take k
     rw [List.take_take] at this
     rw [List.length_take]; exact this
    ·
     rw [List.length_take]; omega
  ·
   rw [if_neg h] at hb; exact hs.heap id b hb
 ·
  intro i j bi bj ri rj hne hi hj hri hrj hb kk o ⟨hfi, hfj⟩
  rw [hg2] at hi hj
  by_cases h1 : i = q
  ·
   rw [if_pos h1] at hi; cases hi
   rw [if_neg (fun e => hne (by rw [h1, e]))] at hj
   subst h1
   exact hs.sep i j _ bj ri rj hne hq hj hri hrj rfl kk o ⟨(hf _ _ _).1 hfi, hfj⟩
  ·
   rw [if_neg h1] at hi
   by_cases h2 : j = q
   ·
    rw [if_pos h2] at hj; cases hj
    subst h2
    exact hs.sep i j bi _ ri rj hne hi hq hri hrj hb kk o ⟨hfi, (hf _ _ _).1 hfj⟩
   ·
    rw [if_neg h2] at hj
    exact hs.sep i j bi bj ri rj hne hi hj hri hrj hb kk o ⟨hfi, hfj⟩
 ·
  have := hk_lt hl hq0
  exact hupd_le (Nat.le_of_ble_eq_true hL) (fun id ob hm => by simp at hm; omega)
end Go.Sh
namespace Go.Sh
open Go.Proofs
set_option maxHeartbeats 4000000
def oc (x : UInt32 × List UInt8) : List SV := .u32 x.1 :: x.2.map .u8
def ocs (K : List (UInt32 × List UInt8)) : List SV := K.flatMap oc
def OcOk (K : List (UInt32 × List UInt8)) : Prop := ∀ x ∈ K, x.2.length = 32
theorem OcOk.get {K : List (UInt32 × List UInt8)} (h : OcOk K) {i : Nat} (hi : i < K.length) : (K[i]).2.length = 32 := h _ (List.getElem_mem hi)
theorem oc_len {x : UInt32 × List UInt8} (h : x.2.length = 32) : (oc x).length = 33 := by simp [oc, h]
theorem ocs_len : ∀ {K : List (UInt32 × List UInt8)}, OcOk K → (ocs K).length = K.length * 33
 | [], _ => rfl
 | x :: K, h => by
  have h1 := ocs_len (K := K) fun y hy => h y (List.mem_cons_of_mem _ hy)
  show (oc x ++ ocs K).length = _
  rw [List.length_append, h1, oc_len (h x (List.mem_cons_self ..)), List.length_cons]; omega
theorem ocs_drop : ∀ {K : List (UInt32 × List UInt8)}, OcOk K → ∀ i, (ocs K).drop (i * 33) = ocs (K.drop i)
 | K, _, 0 => by rw [Nat.zero_mul, List.drop_zero, List.drop_zero]
 | [], _, _ + 1 => by rw [List.drop_nil]; exact List.drop_nil
 | x :: K, h, i + 1 => by
  have h1 := ocs_drop (K := K) (fun y hy => h y (List.mem_cons_of_mem _ hy)) i
  show (oc x ++ ocs K).drop _ = _
  have h2 := oc_len (h x (List.mem_cons_self ..))
  rw [show (i + 1) * 33 = (oc x).length + i * 33 by omega, List.drop_append]
  simp only [List.drop_eq_nil_of_le (Nat.le_add_right _ _), List.nil_append, Nat.add_sub_cancel_left, List.drop_succ_cons]
  exact h1
theorem ocs_at {K : List (UInt32 × List UInt8)} (h : OcOk K) {i : Nat} (hi : i < K.length) : ((ocs K).drop (0 + i * 33)).take 33 = oc K[i] := by
 rw [Nat.zero_add, ocs_drop h, List.drop_eq_getElem_cons hi]
 show (oc K[i] ++ ocs _).take 33 = _
 rw [← oc_len (h.get hi), List.take_left]
theorem sload_oc {K : List (UInt32 × List UInt8)} (h : OcOk K) {i : Nat} (hi : i < K.length) {x : UInt32} {k : List UInt8} (hx : K[i] = (x, k)) : sload true 33 (ocs K) (0 + i * 33) = some (.agg (.u32 x :: k.map .u8)) := by
 have h1 := ocs_at h hi
 rw [hx] at h1
 simp only [sload, if_true]
 rw [if_pos (by rw [ocs_len h]; omega), h1]; rfl
theorem plainL_append (a b : List SV) : plainL (a ++ b) = (plainL a && plainL b) := by simp [plainL]
@[simp] theorem plainL_oc (x : UInt32 × List UInt8) : plainL (oc x) = true := by
 simp [oc, plainL, plainV]
@[simp] theorem plainL_ocs : ∀ K : List (UInt32 × List UInt8), plainL (ocs K) = true
 | [] => rfl
 | x :: K => by
  show plainL (oc x ++ ocs K) = true
  rw [plainL_append, plainL_oc, plainL_ocs K]; rfl
def plc (K : List (UInt32 × List UInt8)) (id : UInt32) : Nat := K.findIdx (fun x => x.1 == id)
theorem plc_le (K : List (UInt32 × List UInt8)) (id : UInt32) : plc K id ≤ K.length := List.findIdx_le_length
def plcI (K : List (UInt32 × List UInt8)) (id : UInt32) : Int := if plc K id < K.length then (plc K id : Int) else -1
theorem s21 (x id : UInt32) (k : List UInt8) (hk : k.length = 32) : SCall Tryz.prog 40 [.agg (.u32 x :: k.map .u8), .p 0 0] [some (.ro [.u32 id])] (.b (x == id)) [some (.ro [.u32 id])] := by
 refine scall_of ttOk (by kernel_rfl : Tryz.prog.funcs[40]? = some Tryz.f40) rfl rfl rfl ?_
 try simp only [List.length_cons, List.length_nil, Nat.zero_add, Nat.reduceAdd]
 refine sw_ok ttOk mixed (by kernel_rfl) ?_
 conv => whnf
 repeat (first | (refine Exists.intro _ (And.intro rfl ?_); conv => whnf) | fail)
 refine ⟨[0], ?_, rfl, rfl, ?_, rfl⟩
 ·
  (repeat' (fail)) <;> first | rfl | fail
 ·
  (repeat' (first | exact trivial | refine And.intro ?_ ?_ | (refine wk_cons ?_ ?_))) <;> first | rfl | fail
theorem wp30 (i : Nat) (h : i < 1000000) : w64 ((i : Int) + 1) = ((i + 1 : Nat) : Int) := by simp only [w64_eq]; omega
theorem s30 (K : List (UInt32 × List UInt8)) (hK : OcOk K) (hn : K.length < 1000000) (id : UInt32) (f : Bool) : SCall Tryz.prog 58 [.sl 0 0 K.length 33 f, .fn 40 [.p 1 0]] [some (.ro (ocs K)), some (.ro [.u32 id])] (.i (plcI K id)) [some (.ro (ocs K)), some (.ro [.u32 id])] := by
 have hle := plc_le K id
 refine scall_of ttOk (by kernel_rfl : Tryz.prog.funcs[58]? = some Tryz.f58) rfl rfl rfl ?_
 try simp only [List.length_cons, List.length_nil, Nat.zero_add, Nat.reduceAdd]
 refine sw_ok ttOk mixed (by kernel_rfl) ?_
 conv => whnf
 refine loop_rule ttOk mixed (by kernel_rfl) (ι := { i : Nat // i ≤ plc K id }) (fun i => [(0, .sl 0 0 K.length 33 f), (1, .fn 40 [.p 1 0]), (7, .i (K.length : Int)), (8, .i (i.1 : Int))]) (fun _ => [some (.ro (ocs K)), some (.ro [.u32 id])]) (fun _ => 2) (fun i => K.length - i.1) ⟨0, by omega⟩ ?_ ?_
 ·
  refine Weak.sel [0, 1] rfl rfl ?_ ?_ rfl rfl
  ·
   (repeat' (first | exact trivial | refine And.intro ?_ ?_ | fail)) <;> first | rfl | fail
  ·
   (repeat' (first | exact trivial | refine And.intro ?_ ?_ | (refine wk_cons ?_ ?_))) <;> first | rfl | exact ren_eq (by first | (simp; done) | fail) (by rfl) | fail
 ·
  rintro ⟨i, hi⟩
  dsimp only
  by_cases hi2 : i < K.length
  ·
   have hlt : decide ((i : Int) < (K.length : Int)) = true := by simp; omega
   obtain ⟨x, k, hxk⟩ : ∃ x k, K[i] = (x, k) := ⟨_, _, rfl⟩
   have hk : k.length = 32 := by have := hK.get hi2; rw [hxk] at this; exact this
   have q := s21 x id k hk
   conv => whnf
   first | refine brT (by exact hlt) ?_ | fail
   conv => whnf
   repeat (first | (refine Exists.intro _ (And.intro (sload_oc hK hi2 hxk) ?_); conv => whnf) | (refine Exists.intro _ (And.intro rfl ?_); conv => whnf) | (refine And.intro (by omega) ?_; conv => whnf) | fail)
   refine ok1_callF [1] [true] true (q) rfl rfl ⟨⟨rfl, by first | ((repeat' (first | exact rfl | exact ren_eq (by first | (simp; done) | fail) rfl | (refine wk_agg ?_) | (refine wk_cons ?_ ?_))); done) | fail⟩, by (repeat' (first | exact trivial | refine And.intro ?_ ?_)) <;> first | rfl | fail, by rfl, by rfl, ?_⟩
   conv => whnf
   by_cases hx : x = id
   ·
    have he : (x == id) = true := by rw [hx]; exact beq_self_eq_true _
    have hp : plc K id = i := by
     apply Nat.le_antisymm _ hi
     unfold plc
     refine Nat.le_of_not_lt fun hlt2 => ?_
     have := List.not_of_lt_findIdx hlt2
     rw [hxk] at this
     simp [hx] at this
    have hpi : plcI K id = (i : Int) := by unfold plcI; rw [hp, if_pos hi2]
    rw [hpi]
    first | refine brT (by exact he) ?_ | fail
    conv => whnf
    refine ⟨[0, 1], ?_, rfl, rfl, ?_, rfl⟩
    ·
     (repeat' (fail)) <;> first | rfl | fail
    ·
     (repeat' (first | exact trivial | refine And.intro ?_ ?_ | (refine wk_cons ?_ ?_))) <;> first | rfl | exact ren_eq (by first | (simp; done) | fail) (by rfl) | fail
   ·
    have he : (x == id) = false := by simp [hx]
    have hp : i < plc K id := by
     rcases Nat.lt_or_ge i (plc K id) with h | h
     ·
      exact h
     ·
      have h2 : plc K id = i := by omega
      have h3 := List.findIdx_getElem (p := fun y : UInt32 × List UInt8 => y.1 == id) (xs := K) (w := by show plc K id < _; omega)
      have h4 : ∀ j (hj : j < K.length), j = i → K[j].1 = x := fun j hj hji => by subst hji; rw [hxk]
      rw [h4 (List.findIdx (fun y : UInt32 × List UInt8 => y.1 == id) K) _ h2, he] at h3
      cases h3
    have hp1 := wp30 i (by omega)
    first | refine brF (by exact he) ?_ | fail
    conv => whnf
    refine ⟨⟨i + 1, by omega⟩, by simp only; omega, ?_⟩
    dsimp only
    refine Weak.sel [0, 1] rfl rfl ?_ ?_ rfl rfl
    ·
     (repeat' (first | exact trivial | refine And.intro ?_ ?_ | fail)) <;> first | exact wk_i (by first | exact hp1 | exact hp1.symm | fail) | rfl | fail
    ·
     (repeat' (first | exact trivial | refine And.intro ?_ ?_ | (refine wk_cons ?_ ?_))) <;> first | rfl | exact ren_eq (by first | (simp; done) | fail) (by rfl) | fail
  ·
   obtain rfl : i = K.length := by omega
   have hpi : plcI K id = -1 := by unfold plcI; rw [if_neg (by omega)]
   rw [hpi]
   have hlt : decide ((K.length : Int) < (K.length : Int)) = false := by simp
   conv => whnf
   first | refine brF (by exact hlt) ?_ | fail
   conv => whnf
   refine ⟨[0, 1], ?_, rfl, rfl, ?_, rfl⟩
   ·
    (repeat' (fail)) <;> first | rfl | fail
   ·
    (repeat' (first | exact trivial | refine And.intro ?_ ?_ | (refine wk_cons ?_ ?_))) <;> first | rfl | exact ren_eq (by first | (simp; done) | fail) (by rfl) | fail
theorem s20 (K : List (UInt32 × List UInt8)) (hK : OcOk K) (hn : K.length < 1000000) (id : UInt32) (f : Bool) : SCall Tryz.prog 39 [.sl 0 0 K.length 33 f, .fn 40 [.p 1 0]] [some (.ro (ocs K)), some (.ro [.u32 id])] (.tup [.i (plcI K id), .b (decide (plcI K id ≥ 0))]) [some (.ro (ocs K)), some (.ro [.u32 id])] := by
 have q := s30 K hK hn id f
 refine scall_of ttOk (by kernel_rfl : Tryz.prog.funcs[39]? = some Tryz.f39) rfl rfl rfl ?_
 try simp only [List.length_cons, List.length_nil, Nat.zero_add, Nat.reduceAdd]
 refine sw_ok ttOk mixed (by kernel_rfl) ?_
 conv => whnf
 refine ok1_callF [0, 1] [true, true] true (q) rfl rfl ⟨⟨rfl, by rfl⟩, by (repeat' (first | exact trivial | refine And.intro ?_ ?_)) <;> first | rfl | exact ren_eq (by first | (simp; done) | fail) (by rfl) | fail, by first | simp [plainHf, plainB], by rfl, ?_⟩
 conv => whnf
 refine ⟨[0, 1], ?_, rfl, rfl, ?_, rfl⟩
 ·
  (repeat' (first | (refine wk_tup ?_) | (refine wk_cons ?_ ?_))) <;> first | rfl | fail
 ·
  (repeat' (first | exact trivial | refine And.intro ?_ ?_ | (refine wk_cons ?_ ?_))) <;> first | rfl | exact ren_eq (by first | (simp; done) | fail) (by rfl) | fail
theorem s12 (A C : List UInt8) (K : List (UInt32 × List UInt8)) (hK : OcOk K) (hA : A.length = 66) (hn : K.length < 1000000) (id : UInt32) (f : Bool) : SCall Tryz.prog 19 [.p 0 0, .u32 id] [some (.ro (A.map .u8 ++ [.sl 1 0 K.length 33 f])), some (.ro (ocs K))] (.tup [.i (plcI K id), .b (decide (plcI K id ≥ 0))]) [some (.ro (A.map .u8 ++ [.sl 1 0 K.length 33 f])), some (.ro (ocs K))] := by
 have q := s20 K hK hn id f
 have hm : (A.map SV.u8).length = 66 := by simp [hA]
 refine scall_of ttOk (by kernel_rfl : Tryz.prog.funcs[19]? = some Tryz.f19) rfl rfl rfl ?_
 try simp only [List.length_cons, List.length_nil, Nat.zero_add, Nat.reduceAdd]
 refine sw_ok ttOk mixed (by kernel_rfl) ?_
 conv => whnf
 repeat (first | (refine Exists.intro _ (And.intro (sload_snd hm) ?_); conv => whnf) | fail)
 refine ok1_callF [1, 2] [true, true] true (q) rfl rfl ⟨⟨rfl, by rfl⟩, by (repeat' (first | exact trivial | refine And.intro ?_ ?_)) <;> first | rfl | exact ren_eq (by first | (simp; done) | fail) (by rfl) | fail, by first | simp [plainHf, plainB], by rfl, ?_⟩
 conv => whnf
 refine ⟨[0, 1], ?_, rfl, rfl, ?_, rfl⟩
 ·
  (repeat' (first | (refine wk_tup ?_) | (refine wk_cons ?_ ?_))) <;> first | rfl | fail
 ·
  (repeat' (first | exact trivial | refine And.intro ?_ ?_ | fail)) <;> first | exact ren_eq (by first | (simp; done) | fail) (by rfl) | exact ren_app2 (by first | (simp; done) | fail) (by rfl) rfl | fail
end Go.Sh
