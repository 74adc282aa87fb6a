/- Merged for a claim: C4. -/
import Derived.Test.YtannakicfkjhbaaCa1
set_option linter.unusedSimpArgs false
set_option linter.unusedVariables false
/- chain's laws: ChainKnown (f13), walked. -/
namespace Go.Sh
open Go.Proofs
set_option maxHeartbeats 8000000
set_option maxRecDepth 100000

theorem step_nz : (!eqcs ((stepK 1 (key1 0)).map SV.u8) ((key1 1).map SV.u8)) = true := by decide +kernel
attribute [local irreducible] rootO stepK mac_n
theorem f57_nil : SCall Try.prog 57 [.pnil] [] (.agg (List.replicate 32 (.u8 0))) [] := by
 refine scall_of ttOk (by kernel_rfl : Try.prog.funcs[57]? = some Try.f57) rfl rfl rfl ?_
 try simp only [List.length_cons, List.length_nil, Nat.zero_add, Nat.reduceAdd]
 refine sw_ok ttOk mixed (by kernel_rfl) ?_
 conv => whnf
 repeat (first | (refine brT rfl ?_; conv => whnf) | (refine Exists.intro _ (And.intro (sload_all rfl (by first | rfl | fail)) ?_); conv => whnf) | (refine Exists.intro _ (And.intro (sput_all rfl (by first | rfl | fail)) ?_); conv => whnf) | (refine Exists.intro _ (And.intro rfl ?_); conv => whnf) | (refine And.intro (by first | (simp; done) | fail) ?_; conv => whnf) | (refine And.intro (by kernel_rfl) ?_; conv => whnf) | fail)
 refine ⟨[], ?_, rfl, rfl, ?_, rfl⟩
 ·
  (repeat' (first | (refine wk_agg ?_) | (refine wk_cons ?_ ?_))) <;> first | rfl | fail
 ·
  (repeat' (first | exact trivial | fail)) <;> fail
theorem f13 : SCall Try.prog 13 [] [] (.b true) [] := by
 have nz := step_nz
 have q2 := f57 (key1 0) rfl 0
 have q5 := f57 (key1 0) rfl 4294967295
 have l4 := stepK_len 1 (key1 0)
 have l5 := stepK_len 2 (key1 0)
 have q4 := f58 (key1 0) rfl 4294967295
 obtain ⟨M, hM⟩ : ∃ M, M = stepK 1 (key1 0) := ⟨_, rfl⟩
 obtain ⟨X, hX⟩ : ∃ X, X = stepK 2 (key1 0) := ⟨_, rfl⟩
 rw [← hM] at q2 q5 l4 nz
 rw [← hX] at q2 q5 l5
 have q3 := f57 X l5 1
 have l6 := stepK_len 1 X
 have l7 := stepK_len 2 X
 obtain ⟨M2, hM2⟩ : ∃ M, M = stepK 1 X := ⟨_, rfl⟩
 obtain ⟨Y, hY⟩ : ∃ Y, Y = stepK 2 X := ⟨_, rfl⟩
 rw [← hM2] at q3 l6
 rw [← hY] at q3 l7
 have mX : (X.map SV.u8).length = 32 := by rw [List.length_map, l5]
 have mY : (Y.map SV.u8).length = 32 := by rw [List.length_map, l7]
 clear hM hX hM2 hY
 refine scall_of ttOk (by kernel_rfl : Try.prog.funcs[13]? = some Try.f13) rfl rfl rfl ?_
 try simp only [List.length_cons, List.length_nil, Nat.zero_add, Nat.reduceAdd]
 refine sw_ok ttOk mixed (by kernel_rfl) ?_
 conv => whnf
 repeat (fail)
 refine ok1_callF [] [] true (f56) rfl rfl ⟨⟨rfl, by first | rfl | fail⟩, trivial, by first | rfl | fail, by first | rfl | fail, ?_⟩
 conv => whnf
 repeat (first | (refine brF rfl ?_; conv => whnf) | (refine Exists.intro _ (And.intro rfl ?_); conv => whnf) | fail)
 refine ok1_callF [1] [true] true (q2) rfl rfl ⟨⟨rfl, by first | rfl | fail⟩, by (repeat' (first | exact trivial | refine And.intro ?_ ?_)) <;> first | rfl | fail, by first | simp [plainHf, plainB], by first | simp [plainRf, plainR, plainT, plainW], ?_⟩
 conv => whnf
 repeat (fail)
 refine ok1_callF [1] [true] true (q3) rfl rfl ⟨⟨rfl, by first | rfl | fail⟩, by (repeat' (first | exact trivial | refine And.intro ?_ ?_)) <;> first | exact ren_eq (by first | (simp; done) | fail) (by first | rfl | fail) | fail, by first | simp [plainHf, plainB], by first | simp [plainRf, plainR, plainT, plainW], ?_⟩
 conv => whnf
 repeat (first | (refine Exists.intro _ (And.intro (sload_all rfl (by first | rfl | fail)) ?_); conv => whnf) | (refine Exists.intro _ (And.intro (sput_all rfl (by first | rfl | fail)) ?_); conv => whnf) | (refine Exists.intro _ (And.intro rfl ?_); conv => whnf) | (refine And.intro (by first | omega | (simp; done) | fail) ?_; conv => whnf) | fail)
 refine ok1_callF [] [true] false (q4) rfl rfl ⟨⟨rfl, by first | rfl | fail⟩, trivial, by first | rfl | fail, by first | rfl | fail, ?_⟩
 conv => whnf
 repeat (fail)
 refine SWp.weak (R0 := [(0, .p 0 0), (1, .p 1 0), (2, .p 2 0), (3, .p 3 0), (16, .fn 106 [.p 4 0])]) (H0 := [some (.box [.b false]), some (.box (Y.map .u8 ++ [.u32 2])), some (.box ((key1 0).map .u8 ++ [.u32 4294967295])), some (.box [.i 0]), some (.box ((key1 0).map .u8 ++ [.u32 4294967295]))]) (L0 := 5) ?_ ?_
 ·
  refine Weak.sel [0, 1, 2, 3, 4] rfl rfl ?_ ?_ rfl rfl
  ·
   (repeat' (first | exact trivial | refine And.intro ?_ ?_ | fail)) <;> first | rfl | fail
  ·
   (repeat' (first | exact trivial | refine And.intro ?_ ?_ | (refine wk_cons ?_ ?_))) <;> first | rfl | exact ren_eq (by first | (simp; done) | fail) (by first | rfl | fail) | fail
 refine range_named rfl rfl rfl (by kernel_rfl : Try.prog.funcs[106]? = some Try.f106) rfl rfl rfl rfl ?_
 intro asq bdq hasq hbdq
 refine sw_ok ttOk mixed (by kernel_rfl) ?_
 conv => whnf
 repeat (first | (refine Exists.intro _ (And.intro (sload_all rfl (by first | rfl | fail)) ?_); conv => whnf) | (refine Exists.intro _ (And.intro (sput_all rfl (by first | rfl | fail)) ?_); conv => whnf) | (refine And.intro ⟨rfl, Nat.le_of_ble_eq_true rfl⟩ ?_; conv => whnf) | fail)
 refine loop_rounds ttOk mixed (by kernel_rfl) 1 ?_
 conv => whnf
 repeat (first | (refine Exists.intro _ (And.intro rfl ?_); conv => whnf) | fail)
 refine ok1_callF [6] [true] true (q5) rfl rfl ⟨⟨rfl, by first | rfl | fail⟩, by (repeat' (first | exact trivial | refine And.intro ?_ ?_)) <;> first | rfl | fail, by first | simp [plainHf, plainB], by first | simp [plainRf, plainR, plainT, plainW], ?_⟩
 conv => whnf
 repeat (first | (refine Exists.intro _ (And.intro (sload_all rfl (by first | rfl | (simp [l4]; done) | fail)) ?_); conv => whnf) | (refine Exists.intro _ (And.intro (sput_all rfl (by first | rfl | (simp [l4]; done) | fail)) ?_); conv => whnf) | (refine And.intro (by first | omega | (simp; omega) | fail) ?_; conv => whnf) | fail)
 refine ok1_yield 5 [0, 3] [false, true, true] (syield_of (ps := [17, 18]) (N := Try.f13.ntmps) (R0 := [(0, .p 1 0), (3, .p 2 0)]) (args0 := [.u32 4294967295, .agg (M.map .u8)]) (ex := .normal) (H0t := [some (.box [.b false]), some (.box [.i 0])]) (H1t := [some (.box [.b false]), some (.box [.i 1])]) (.inl rfl) rfl rfl rfl ?_) rfl rfl ⟨⟨rfl, by first | ((repeat' (first | exact wk_nil | exact ren_m8 rfl | exact rfl | (refine wk_agg ?_) | (refine wk_cons ?_ ?_))); done)⟩, by (repeat' (first | exact trivial | refine And.intro ?_ ?_)) <;> first | rfl | fail, by first | rfl | fail, ?_⟩
 ·
  subst hasq
  subst hbdq
  refine sw_ok ttOk mixed (by kernel_rfl) ?_
  conv => whnf
  repeat (first | (refine And.intro (by first | omega | (simp; done) | fail) ?_; conv => whnf) | (refine And.intro (by kernel_rfl) ?_; conv => whnf) | fail)
  refine sw_ok ttOk mixed (by kernel_rfl) ?_
  conv => whnf
  repeat (first | (refine brF rfl ?_; conv => whnf) | (refine Exists.intro _ (And.intro rfl ?_); conv => whnf) | (refine And.intro (by first | omega | (simp; done) | fail) ?_; conv => whnf) | (refine And.intro (by kernel_rfl) ?_; conv => whnf) | fail)
  exact ⟨[0, 1, 2], rfl, rfl, by (repeat' (first | exact trivial | refine And.intro ?_ ?_)) <;> first | rfl | fail, rfl⟩
 ·
  conv => whnf
  repeat (first | (refine brT rfl ?_; conv => whnf) | (refine gdT rfl ?_; conv => whnf) | (refine Exists.intro _ (And.intro (sload_end (by first | rfl | (simp [l5]; done) | (simp [l5]; omega))) ?_); conv => whnf) | (refine Exists.intro _ (And.intro rfl ?_); conv => whnf) | fail)
  refine ok1_callF [2] [true] true (q5) rfl rfl ⟨⟨rfl, by first | rfl | fail⟩, by (repeat' (first | exact trivial | refine And.intro ?_ ?_)) <;> first | rfl | fail, by first | simp [plainHf, plainB], by first | simp [plainRf, plainR, plainT, plainW], ?_⟩
  conv => whnf
  repeat (first | (refine brT rfl ?_; conv => whnf) | (refine Exists.intro _ (And.intro rfl ?_); conv => whnf) | fail)
  refine And.intro (by exact ⟨kdC_u8n _ l4, rfl⟩) ?_
  conv => whnf
  repeat (first | (refine brT rfl ?_; conv => whnf) | (refine gdT nz ?_; conv => whnf) | (refine pkT nz ?_; conv => whnf) | (refine Exists.intro _ (And.intro (sload_snd mX) ?_); conv => whnf) | (refine Exists.intro _ (And.intro rfl ?_); conv => whnf) | fail)
  refine ok1_callF [] [] true (f57_nil) rfl rfl ⟨⟨rfl, by first | rfl | fail⟩, trivial, by first | rfl | fail, by first | rfl | fail, ?_⟩
  conv => whnf
  repeat (first | (refine brT rfl ?_; conv => whnf) | (refine Exists.intro _ (And.intro rfl ?_); conv => whnf) | (refine And.intro ⟨rfl, rfl⟩ ?_; conv => whnf) | (refine And.intro ⟨rfl, Nat.le_of_ble_eq_true rfl⟩ ?_; conv => whnf) | fail)
  refine ⟨[], ?_, rfl, rfl, ?_, rfl⟩
  ·
   (repeat' (fail)) <;> first | rfl | fail
  ·
   (repeat' (first | exact trivial | fail)) <;> fail
end Go.Sh
