/- Merged for a claim: C6. -/
import Derived.Test.YtannakicfkjhbaaCa1
set_option linter.unusedSimpArgs false
set_option linter.unusedVariables false
/- chain's laws: ChainSteps (f14), walked. -/
namespace Go.Sh
open Go.Proofs
set_option maxHeartbeats 8000000
set_option maxRecDepth 100000

attribute [local irreducible] rootO stepK mac_n chK nth
theorem f14 (k : List UInt8) (hk : k.length = 32) (n : UInt32) (many : UInt8) : SCall Try.prog 14 [.agg (k.map .u8), .u32 n, .u8 many] [] (.b true) [] := by
 have q4 := f58 k hk n
 have eC : (!eqcs (k.map SV.u8 ++ [.u32 n]) (k.map SV.u8 ++ [.u32 n])) = false := by rw [eqcsC_k]; rfl
 refine scall_of ttOk (by kernel_rfl : Try.prog.funcs[14]? = some Try.f14) rfl rfl rfl ?_
 try simp only [List.length_cons, List.length_nil, Nat.zero_add, Nat.reduceAdd]
 refine sw_ok ttOk mixed (by kernel_rfl) ?_
 conv => whnf
 repeat (fail)
 refine ok1_callF [] [] true (f56) rfl rfl ⟨⟨rfl, by first | rfl | fail⟩, trivial, by first | rfl | fail, by first | rfl | fail, ?_⟩
 conv => whnf
 repeat (first | (refine brF rfl ?_; conv => whnf) | (refine Exists.intro _ (And.intro (sload_all rfl (by first | (simp [hk]; done) | fail)) ?_); conv => whnf) | fail)
 refine ⟨_, fillC hk n, ?_⟩
 conv => whnf
 repeat (first | (refine Exists.intro _ (And.intro (sload_all rfl (by first | rfl | (simp [hk]; done) | fail)) ?_); conv => whnf) | (refine Exists.intro _ (And.intro (sput_all rfl (by first | rfl | (simp [hk]; done) | fail)) ?_); conv => whnf) | (refine Exists.intro _ (And.intro rfl ?_); conv => whnf) | (refine And.intro (by first | omega | (simp; done) | (simp; omega) | fail) ?_; conv => whnf) | fail)
 refine ok1_callF [] [true] false (q4) rfl rfl ⟨⟨rfl, by first | ((repeat' (first | exact wk_nil | exact ren_eq (by first | (simp; done) | fail) rfl | (refine wk_agg ?_) | (refine wk_cons ?_ ?_))); done) | fail⟩, trivial, by first | simp [plainHf, plainB], by first | rfl | fail, ?_⟩
 conv => whnf
 repeat (fail)
 refine SWp.weak (R0 := [(1, .u32 n), (3, .p 0 0), (5, .p 1 0), (6, .p 2 0), (7, .p 3 0), (8, .p 4 0), (9, .p 5 0), (10, .p 6 0), (21, .fn 106 [.p 7 0])]) (H0 := [some (.box (k.map .u8)), some (.box [.u8 many]), some (.box [.b false]), some (.box (k.map .u8 ++ [.u32 n])), some (.box ((chK k 0).map .u8)), some (.box [.u32 (nth n 0)]), some (.box [.i 0]), some (.box (k.map .u8 ++ [.u32 n]))]) (L0 := 8) ?_ ?_
 ·
  rw [chK_z, nth_z]
  refine Weak.sel [0, 1, 2, 3, 4, 5, 6, 7] rfl rfl ?_ ?_ rfl rfl
  ·
   (repeat' (first | exact trivial | refine And.intro ?_ ?_ | fail)) <;> first | rfl | fail
  ·
   (repeat' (first | exact trivial | refine And.intro ?_ ?_ | (refine wk_cons ?_ ?_))) <;> first | rfl | exact ren_eq (by first | (simp; done) | fail) (by first | rfl | fail) | fail
 refine range_named rfl rfl rfl (by kernel_rfl : Try.prog.funcs[106]? = some Try.f106) rfl rfl rfl rfl ?_
 intro asq bdq hasq hbdq
 refine sw_ok ttOk mixed (by kernel_rfl) ?_
 conv => whnf
 repeat (first | (refine Exists.intro _ (And.intro (sload_all rfl (by first | rfl | (simp [hk]; done) | fail)) ?_); conv => whnf) | (refine Exists.intro _ (And.intro (sput_all rfl (by first | rfl | (simp [hk]; done) | fail)) ?_); conv => whnf) | (refine And.intro (by first | omega | (simp; omega) | fail) ?_; conv => whnf) | fail)
 refine loop_rule ttOk mixed (by kernel_rfl) (ι := { t : Nat // t ≤ many.toNat }) (fun t => [(0, .yld 8), (3, .p 9 0)]) (fun t => [some (.box (k.map .u8)), some (.box [.u8 many]), some (.box [.b false]), some (.box (k.map .u8 ++ [.u32 n])), some (.box ((chK k t.1).map .u8)), some (.box [.u32 (nth n t.1)]), some (.box [.i (t.1 : Int)]), some (.box (k.map .u8 ++ [.u32 n])), some (.obj (.loop [(5, .p 1 0), (6, .p 2 0), (8, .p 4 0), (9, .p 5 0), (10, .p 6 0)] Try.f14.ntmps [22, 23] asq bdq)), some (.box ((chK k t.1).map .u8 ++ [.u32 (nth n t.1)]))]) (fun _ => 10) (fun t => many.toNat - t.1) ⟨0, by omega⟩ ?_ ?_
 ·
  dsimp only
  have z1 := chK_z k
  have z2 := nth_z n
  rw [z1, z2]
  refine Weak.sel [0, 1, 2, 3, 4, 5, 6, 7, 8, 9] rfl rfl ?_ ?_ rfl rfl
  ·
   (repeat' (first | exact trivial | refine And.intro ?_ ?_ | fail)) <;> first | rfl | fail
  ·
   (repeat' (first | exact trivial | refine And.intro ?_ ?_ | (refine wk_cons ?_ ?_))) <;> first | rfl | exact ren_eq (by first | (simp; done) | fail) (by first | rfl | fail) | fail
 ·
  rintro ⟨t, ht⟩
  dsimp only
  have hm8 : many.toNat < 256 := many.toNat_lt
  have lk := chK_len hk t
  have lk1 := chK_len hk (t + 1)
  have q57 := f57 (chK k t) lk (nth n t)
  have q59 := f59 (chK k t) lk
  have q60 := f60 (chK k t) lk
  have lm := stepK_len 1 (chK k t)
  rw [← chK_s, nth_s] at q57
  rw [← chK_s] at q60
  obtain ⟨M, hM⟩ : ∃ M, M = stepK 1 (chK k t) := ⟨_, rfl⟩
  obtain ⟨K, hK⟩ : ∃ K, K = chK k t := ⟨_, rfl⟩
  obtain ⟨X, hX⟩ : ∃ X, X = chK k (t + 1) := ⟨_, rfl⟩
  obtain ⟨m, hmm⟩ : ∃ m, m = nth n t := ⟨_, rfl⟩
  rw [← hM] at q57 q59 lm
  rw [← hK] at q57 q59 q60 lk ⊢
  rw [← hX] at q57 q60 lk1
  rw [← hmm] at q57 ⊢
  have mK : (K.map SV.u8).length = 32 := by rw [List.length_map, lk]
  have mX : (X.map SV.u8).length = 32 := by rw [List.length_map, lk1]
  have eM : (!eqcs (M.map SV.u8) (M.map SV.u8)) = false := by rw [eqcsC_rf M]; rfl
  by_cases h2 : t < many.toNat
  ·
   have e1 : decide ((t : Int) ≥ (many.toNat : Int)) = false := by simp; omega
   have e2 : (m != m) = false := by simp
   have hs : m + UInt32.ofNat (Int.toNat 1) = nth n (t + 1) := by rw [hmm]; exact nth_s n t
   have hp : w64 ((t : Int) + 1) = ((t + 1 : Nat) : Int) := by simp only [w64_eq]; omega
   conv => whnf
   repeat (first | (refine Exists.intro _ (And.intro (sload_end (by first | rfl | (simp [lk]; done) | fail)) ?_); conv => whnf) | fail)
   refine ok1_callF [9] [true] true (q57) rfl rfl ⟨⟨rfl, by first | rfl | fail⟩, by (repeat' (first | exact trivial | refine And.intro ?_ ?_)) <;> first | exact ren_eq (by first | (simp; done) | fail) (by first | rfl | fail) | fail, by first | simp [plainHf, plainB], by first | simp [plainRf, plainR, plainT, plainW], ?_⟩
   conv => whnf
   repeat (first | (refine Exists.intro _ (And.intro (sload_all rfl (by first | rfl | (simp [lm]; done) | fail)) ?_); conv => whnf) | (refine Exists.intro _ (And.intro (sput_all rfl (by first | rfl | (simp [lm]; done) | fail)) ?_); conv => whnf) | (refine And.intro (by first | omega | (simp; omega) | fail) ?_; conv => whnf) | fail)
   refine ok1_yield 8 [1, 2, 4, 5, 6] [false, true, true, true, true, true] (syield_of (ps := [22, 23]) (N := Try.f14.ntmps) (R0 := [(5, .p 1 0), (6, .p 2 0), (8, .p 3 0), (9, .p 4 0), (10, .p 5 0)]) (args0 := [.u32 m, .agg (M.map .u8)]) (ex := .normal) (H0t := [some (.box [.u8 many]), some (.box [.b false]), some (.box (K.map .u8)), some (.box [.u32 m]), some (.box [.i (t : Int)])]) (H1t := [some (.box [.u8 many]), some (.box [.b false]), some (.box (X.map .u8)), some (.box [.u32 (nth n (t + 1))]), some (.box [.i ((t + 1 : Nat) : Int)])]) (.inl rfl) rfl rfl rfl ?_) rfl rfl ⟨⟨rfl, by first | ((repeat' (first | exact wk_nil | exact ren_m8 rfl | exact rfl | (refine wk_agg ?_) | (refine wk_cons ?_ ?_))); done)⟩, by (repeat' (first | exact trivial | refine And.intro ?_ ?_)) <;> first | exact ren_m8 rfl | rfl | fail, by first | (simp [plainHf, plainB]; done) | fail, ?_⟩
   ·
    subst hasq
    subst hbdq
    refine sw_ok ttOk mixed (by kernel_rfl) ?_
    conv => whnf
    repeat (first | (refine Exists.intro _ (And.intro (sput_all rfl (by first | rfl | (simp [lm]; done) | fail)) ?_); conv => whnf) | (refine And.intro (by first | omega | (simp; done) | (simp; omega) | fail) ?_; conv => whnf) | (refine And.intro (by kernel_rfl) ?_; conv => whnf) | fail)
    refine sw_ok ttOk mixed (by kernel_rfl) ?_
    conv => whnf
    repeat (first | (refine Exists.intro _ (And.intro (sload_all rfl (by first | rfl | (simp [lm, lk]; done) | fail)) ?_); conv => whnf) | (refine gdF e1 ?_; conv => whnf) | (refine gdT e2 ?_; conv => whnf) | (refine Exists.intro _ (And.intro rfl ?_); conv => whnf) | fail)
    refine ok1_callF [] [] true (q59) rfl rfl ⟨⟨rfl, by first | ((repeat' (first | exact wk_nil | exact ren_m8 rfl | (refine wk_agg ?_) | (refine wk_cons ?_ ?_))); done) | fail⟩, trivial, by first | rfl | fail, by first | simp [plainRf, plainR, plainT, plainW], ?_⟩
    conv => whnf
    repeat (first | (refine gdT (by first | (simp; done) | fail) ?_; conv => whnf) | fail)
    refine And.intro (by exact ⟨kdC_u8n _ lm, kdC_u8n _ lm⟩) ?_
    conv => whnf
    repeat (first | (refine Exists.intro _ (And.intro (sload_all rfl (by first | rfl | (simp [lm, lk]; done) | fail)) ?_); conv => whnf) | (refine gdF eM ?_; conv => whnf) | (refine Exists.intro _ (And.intro rfl ?_); conv => whnf) | (refine pkF (by first | (simp; done) | fail) ?_; conv => whnf) | (refine And.intro (by kernel_rfl) ?_; conv => whnf) | fail)
    refine ok1_callF [] [] true (q60) rfl rfl ⟨⟨rfl, by first | ((repeat' (first | exact wk_nil | exact ren_m8 rfl | (refine wk_agg ?_) | (refine wk_cons ?_ ?_))); done) | fail⟩, trivial, by first | rfl | fail, by first | simp [plainRf, plainR, plainT, plainW], ?_⟩
    conv => whnf
    repeat (first | (refine Exists.intro _ (And.intro (sput_all rfl (by first | rfl | (simp [lm, lk, lk1]; done) | fail)) ?_); conv => whnf) | (refine Exists.intro _ (And.intro rfl ?_); conv => whnf) | (refine And.intro (by first | omega | (simp; done) | (simp; omega) | fail) ?_; conv => whnf) | (refine And.intro (by kernel_rfl) ?_; conv => whnf) | fail)
    rw [hs, hp]
    exact ⟨[0, 1, 2, 3, 4, 5], rfl, rfl, by (repeat' (first | exact trivial | refine And.intro ?_ ?_)) <;> first | exact ren_m8 (by first | rfl | fail) | rfl | fail, rfl⟩
   ·
    conv => whnf
    repeat (first | (refine gdT rfl ?_; conv => whnf) | (refine Exists.intro _ (And.intro (sload_snd mX) ?_); conv => whnf) | (refine Exists.intro _ (And.intro rfl ?_); conv => whnf) | fail)
    by_cases hz : nth n (t + 1) = 0
    ·
     have ez : (nth n (t + 1) == UInt32.ofNat (Int.toNat 0)) = true := by rw [hz]; rfl
     repeat (first | (refine Exists.intro _ (And.intro (sload_all rfl (by first | rfl | (simp; omega))) ?_); conv => whnf) | (refine gdT ez ?_; conv => whnf) | fail)
     by_cases h3 : t + 1 < many.toNat
     ·
      have e3 : decide (((t + 1 : Nat) : Int) < (many.toNat : Int)) = true := by simp; omega
      have e4 : (nth n (t + 1) != UInt32.ofNat (Int.toNat 0)) = false := by rw [hz]; rfl
      refine ⟨_, fillC hk n, ?_⟩
      conv => whnf
      repeat (fail)
      refine And.intro (by exact ⟨kdC_k hk n, kdC_k hk n⟩) ?_
      conv => whnf
      repeat (first | (refine Exists.intro _ (And.intro (sload_all rfl (by first | rfl | (simp [hk]; done) | fail)) ?_); conv => whnf) | (refine Exists.intro _ (And.intro (sput_all rfl (by first | rfl | (simp [hk]; omega))) ?_); conv => whnf) | (refine gdT eC ?_; conv => whnf) | (refine pkF eC ?_; conv => whnf) | (refine gdT e3 ?_; conv => whnf) | (refine pkT e3 ?_; conv => whnf) | (refine gdF e4 ?_; conv => whnf) | (refine Exists.intro _ (And.intro rfl ?_); conv => whnf) | (refine And.intro (by first | omega | (simp; done) | (simp; omega) | fail) ?_; conv => whnf) | fail)
      refine loop_rule ttOk mixed (by kernel_rfl) (ι := { i : Nat // i ≤ many.toNat }) (fun i => [(6, .p 0 0), (7, .p 1 0), (8, .p 2 0), (9, .p 3 0), (60, .u8 many), (61, .u8 (UInt8.ofNat i.1))]) (fun i => [some (.box [.b false]), some (.box ((chK k i.1).map .u8 ++ [.u32 (nth n i.1)])), some (.box ((chK k i.1).map .u8)), some (.box [.u32 (nth n i.1)])]) (fun _ => 4) (fun i => many.toNat - i.1) ⟨0, by omega⟩ ?_ ?_
      ·
       dsimp only
       have z1 := chK_z k
       have z2 := nth_z n
       rw [z1, z2]
       refine Weak.sel [2, 3, 4, 5] rfl rfl ?_ ?_ rfl rfl
       ·
        (repeat' (first | exact trivial | refine And.intro ?_ ?_ | fail)) <;> first | rfl | fail
       ·
        (repeat' (first | exact trivial | refine And.intro ?_ ?_ | (refine wk_cons ?_ ?_))) <;> first | rfl | exact ren_eq (by first | (simp; done) | fail) (by first | rfl | fail) | fail
      ·
       clear lk lk1 q57 q59 q60 lm hM hK hX hmm mK mX eM
       rintro ⟨i, hi⟩
       dsimp only
       have lk := chK_len hk i
       have lk1 := chK_len hk (i + 1)
       have q57 := f57 (chK k i) lk (nth n i)
       have q59 := f59 (chK k i) lk
       have q60 := f60 (chK k i) lk
       have lm := stepK_len 1 (chK k i)
       have us := u8_s i
       rw [← chK_s, nth_s] at q57
       rw [← chK_s] at q60
       have hs : nth n i + UInt32.ofNat (Int.toNat 1) = nth n (i + 1) := nth_s n i
       obtain ⟨M1, hM⟩ : ∃ M, M = stepK 1 (chK k i) := ⟨_, rfl⟩
       obtain ⟨K1, hK⟩ : ∃ K, K = chK k i := ⟨_, rfl⟩
       obtain ⟨X1, hX⟩ : ∃ X, X = chK k (i + 1) := ⟨_, rfl⟩
       rw [← hM] at q57 q59 lm
       rw [← hK] at q57 q59 q60 lk ⊢
       rw [← hX] at q57 q60 lk1
       have mK : (K1.map SV.u8).length = 32 := by rw [List.length_map, lk]
       have mX : (X1.map SV.u8).length = 32 := by rw [List.length_map, lk1]
       have eM : (!eqcs (M1.map SV.u8) (M1.map SV.u8)) = false := by rw [eqcsC_rf M1]; rfl
       have eX : (!eqcs (X1.map SV.u8) (X1.map SV.u8)) = false := by rw [eqcsC_rf X1]; rfl
       by_cases hi2 : i < many.toNat
       ·
        have e6 := u8_lt hi2
        have e7 : (nth n (i + 1) != nth n i + UInt32.ofNat (Int.toNat 1)) = false := by rw [hs]; simp
        conv => whnf
        first | refine brT (by exact e6) ?_ | fail
        conv => whnf
        repeat (fail)
        refine ok1_callF [1] [true] true (q57) rfl rfl ⟨⟨rfl, by first | rfl | fail⟩, by (repeat' (first | exact trivial | refine And.intro ?_ ?_)) <;> first | exact ren_eq (by first | (simp; done) | fail) (by first | rfl | fail) | fail, by first | simp [plainHf, plainB], by first | simp [plainRf, plainR, plainT, plainW], ?_⟩
        conv => whnf
        repeat (first | (refine Exists.intro _ (And.intro (sload_all rfl (by first | rfl | (simp [lm, lk]; done) | fail)) ?_); conv => whnf) | fail)
        refine ok1_callF [] [] true (q59) rfl rfl ⟨⟨rfl, by first | ((repeat' (first | exact wk_nil | exact ren_m8 rfl | (refine wk_agg ?_) | (refine wk_cons ?_ ?_))); done) | fail⟩, trivial, by first | rfl | fail, by first | simp [plainRf, plainR, plainT, plainW], ?_⟩
        conv => whnf
        repeat (fail)
        refine And.intro (by exact ⟨kdC_u8n _ lm, kdC_u8n _ lm⟩) ?_
        conv => whnf
        repeat (first | (refine Exists.intro _ (And.intro (sload_all rfl (by first | rfl | (simp [lm, lk]; done) | fail)) ?_); conv => whnf) | (refine gdF eM ?_; conv => whnf) | (refine And.intro (by kernel_rfl) ?_; conv => whnf) | fail)
        refine ok1_callF [] [] true (q60) rfl rfl ⟨⟨rfl, by first | ((repeat' (first | exact wk_nil | exact ren_m8 rfl | (refine wk_agg ?_) | (refine wk_cons ?_ ?_))); done) | fail⟩, trivial, by first | rfl | fail, by first | simp [plainRf, plainR, plainT, plainW], ?_⟩
        conv => whnf
        repeat (first | (refine Exists.intro _ (And.intro (sload_all rfl (by first | rfl | (simp [lk1, lk]; done) | fail)) ?_); conv => whnf) | (refine Exists.intro _ (And.intro (sput_all rfl (by first | rfl | (simp [lk1, lk]; done) | fail)) ?_); conv => whnf) | (refine Exists.intro _ (And.intro (sload_fst mX) ?_); conv => whnf) | (refine Exists.intro _ (And.intro rfl ?_); conv => whnf) | (refine And.intro (by first | (simp; done) | (simp; omega) | fail) ?_; conv => whnf) | (refine And.intro (by kernel_rfl) ?_; conv => whnf) | fail)
        refine And.intro (by exact ⟨kdC_u8n _ lk1, kdC_u8n _ lk1⟩) ?_
        conv => whnf
        repeat (first | (refine Exists.intro _ (And.intro (sload_end (by first | rfl | (simp [lk1, lk]; done) | fail)) ?_); conv => whnf) | (refine gdT eX ?_; conv => whnf) | (refine pkF eX ?_; conv => whnf) | (refine gdF e7 ?_; conv => whnf) | (refine Exists.intro _ (And.intro rfl ?_); conv => whnf) | fail)
        refine ⟨⟨i + 1, by omega⟩, by simp only; omega, ?_⟩
        dsimp only
        rw [← hX, hs, us]
        refine Weak.sel [0, 1, 2, 3] rfl rfl ?_ ?_ rfl rfl
        ·
         (repeat' (first | exact trivial | refine And.intro ?_ ?_ | fail)) <;> first | rfl | fail
        ·
         (repeat' (first | exact trivial | refine And.intro ?_ ?_ | (refine wk_cons ?_ ?_))) <;> first | rfl | exact ren_eq (by first | (simp; done) | fail) (by first | rfl | fail) | fail
       ·
        obtain rfl : i = many.toNat := by omega
        have e6 := u8_ge many
        conv => whnf
        first | refine brF (by exact e6) ?_ | fail
        conv => whnf
        repeat (fail)
        refine ok1_callF [] [] true (f56) rfl rfl ⟨⟨rfl, by first | rfl | fail⟩, trivial, by first | rfl | fail, by first | rfl | fail, ?_⟩
        conv => whnf
        repeat (first | (refine Exists.intro _ (And.intro rfl ?_); conv => whnf) | (refine And.intro ⟨rfl, Nat.le_of_ble_eq_true rfl⟩ ?_; conv => whnf) | fail)
        refine ⟨[], ?_, rfl, rfl, ?_, rfl⟩
        ·
         (repeat' (fail)) <;> first | rfl | fail
        ·
         (repeat' (first | exact trivial | fail)) <;> fail
     ·
      have e3 : decide (((t + 1 : Nat) : Int) < (many.toNat : Int)) = false := by simp; omega
      refine ⟨_, fillC hk n, ?_⟩
      conv => whnf
      repeat (fail)
      refine And.intro (by exact ⟨kdC_k hk n, kdC_k hk n⟩) ?_
      conv => whnf
      repeat (first | (refine brF rfl ?_; conv => whnf) | (refine Exists.intro _ (And.intro (sload_all rfl (by first | rfl | (simp [hk]; done) | fail)) ?_); conv => whnf) | (refine Exists.intro _ (And.intro (sput_all rfl (by first | rfl | (simp [hk]; omega))) ?_); conv => whnf) | (refine gdT eC ?_; conv => whnf) | (refine pkF eC ?_; conv => whnf) | (refine gdF e3 ?_; conv => whnf) | (refine pkF e3 ?_; conv => whnf) | (refine Exists.intro _ (And.intro rfl ?_); conv => whnf) | (refine And.intro (by first | omega | (simp; done) | (simp; omega) | fail) ?_; conv => whnf) | fail)
      refine loop_rule ttOk mixed (by kernel_rfl) (ι := { i : Nat // i ≤ many.toNat }) (fun i => [(6, .p 0 0), (7, .p 1 0), (8, .p 2 0), (9, .p 3 0), (60, .u8 many), (61, .u8 (UInt8.ofNat i.1))]) (fun i => [some (.box [.b false]), some (.box ((chK k i.1).map .u8 ++ [.u32 (nth n i.1)])), some (.box ((chK k i.1).map .u8)), some (.box [.u32 (nth n i.1)])]) (fun _ => 4) (fun i => many.toNat - i.1) ⟨0, by omega⟩ ?_ ?_
      ·
       dsimp only
       have z1 := chK_z k
       have z2 := nth_z n
       rw [z1, z2]
       refine Weak.sel [2, 3, 4, 5] rfl rfl ?_ ?_ rfl rfl
       ·
        (repeat' (first | exact trivial | refine And.intro ?_ ?_ | fail)) <;> first | rfl | fail
       ·
        (repeat' (first | exact trivial | refine And.intro ?_ ?_ | (refine wk_cons ?_ ?_))) <;> first | rfl | exact ren_eq (by first | (simp; done) | fail) (by first | rfl | fail) | fail
      ·
       clear lk lk1 q57 q59 q60 lm hM hK hX hmm mK mX eM
       rintro ⟨i, hi⟩
       dsimp only
       have lk := chK_len hk i
       have lk1 := chK_len hk (i + 1)
       have q57 := f57 (chK k i) lk (nth n i)
       have q59 := f59 (chK k i) lk
       have q60 := f60 (chK k i) lk
       have lm := stepK_len 1 (chK k i)
       have us := u8_s i
       rw [← chK_s, nth_s] at q57
       rw [← chK_s] at q60
       have hs : nth n i + UInt32.ofNat (Int.toNat 1) = nth n (i + 1) := nth_s n i
       obtain ⟨M1, hM⟩ : ∃ M, M = stepK 1 (chK k i) := ⟨_, rfl⟩
       obtain ⟨K1, hK⟩ : ∃ K, K = chK k i := ⟨_, rfl⟩
       obtain ⟨X1, hX⟩ : ∃ X, X = chK k (i + 1) := ⟨_, rfl⟩
       rw [← hM] at q57 q59 lm
       rw [← hK] at q57 q59 q60 lk ⊢
       rw [← hX] at q57 q60 lk1
       have mK : (K1.map SV.u8).length = 32 := by rw [List.length_map, lk]
       have mX : (X1.map SV.u8).length = 32 := by rw [List.length_map, lk1]
       have eM : (!eqcs (M1.map SV.u8) (M1.map SV.u8)) = false := by rw [eqcsC_rf M1]; rfl
       have eX : (!eqcs (X1.map SV.u8) (X1.map SV.u8)) = false := by rw [eqcsC_rf X1]; rfl
       by_cases hi2 : i < many.toNat
       ·
        have e6 := u8_lt hi2
        have e7 : (nth n (i + 1) != nth n i + UInt32.ofNat (Int.toNat 1)) = false := by rw [hs]; simp
        conv => whnf
        first | refine brT (by exact e6) ?_ | fail
        conv => whnf
        repeat (fail)
        refine ok1_callF [1] [true] true (q57) rfl rfl ⟨⟨rfl, by first | rfl | fail⟩, by (repeat' (first | exact trivial | refine And.intro ?_ ?_)) <;> first | exact ren_eq (by first | (simp; done) | fail) (by first | rfl | fail) | fail, by first | simp [plainHf, plainB], by first | simp [plainRf, plainR, plainT, plainW], ?_⟩
        conv => whnf
        repeat (first | (refine Exists.intro _ (And.intro (sload_all rfl (by first | rfl | (simp [lm, lk]; done) | fail)) ?_); conv => whnf) | fail)
        refine ok1_callF [] [] true (q59) rfl rfl ⟨⟨rfl, by first | ((repeat' (first | exact wk_nil | exact ren_m8 rfl | (refine wk_agg ?_) | (refine wk_cons ?_ ?_))); done) | fail⟩, trivial, by first | rfl | fail, by first | simp [plainRf, plainR, plainT, plainW], ?_⟩
        conv => whnf
        repeat (fail)
        refine And.intro (by exact ⟨kdC_u8n _ lm, kdC_u8n _ lm⟩) ?_
        conv => whnf
        repeat (first | (refine Exists.intro _ (And.intro (sload_all rfl (by first | rfl | (simp [lm, lk]; done) | fail)) ?_); conv => whnf) | (refine gdF eM ?_; conv => whnf) | (refine And.intro (by kernel_rfl) ?_; conv => whnf) | fail)
        refine ok1_callF [] [] true (q60) rfl rfl ⟨⟨rfl, by first | ((repeat' (first | exact wk_nil | exact ren_m8 rfl | (refine wk_agg ?_) | (refine wk_cons ?_ ?_))); done) | fail⟩, trivial, by first | rfl | fail, by first | simp [plainRf, plainR, plainT, plainW], ?_⟩
        conv => whnf
        repeat (first | (refine Exists.intro _ (And.intro (sload_all rfl (by first | rfl | (simp [lk1, lk]; done) | fail)) ?_); conv => whnf) | (refine Exists.intro _ (And.intro (sput_all rfl (by first | rfl | (simp [lk1, lk]; done) | fail)) ?_); conv => whnf) | (refine Exists.intro _ (And.intro (sload_fst mX) ?_); conv => whnf) | (refine Exists.intro _ (And.intro rfl ?_); conv => whnf) | (refine And.intro (by first | (simp; done) | (simp; omega) | fail) ?_; conv => whnf) | (refine And.intro (by kernel_rfl) ?_; conv => whnf) | fail)
        refine And.intro (by exact ⟨kdC_u8n _ lk1, kdC_u8n _ lk1⟩) ?_
        conv => whnf
        repeat (first | (refine Exists.intro _ (And.intro (sload_end (by first | rfl | (simp [lk1, lk]; done) | fail)) ?_); conv => whnf) | (refine gdT eX ?_; conv => whnf) | (refine pkF eX ?_; conv => whnf) | (refine gdF e7 ?_; conv => whnf) | (refine Exists.intro _ (And.intro rfl ?_); conv => whnf) | fail)
        refine ⟨⟨i + 1, by omega⟩, by simp only; omega, ?_⟩
        dsimp only
        rw [← hX, hs, us]
        refine Weak.sel [0, 1, 2, 3] rfl rfl ?_ ?_ rfl rfl
        ·
         (repeat' (first | exact trivial | refine And.intro ?_ ?_ | fail)) <;> first | rfl | fail
        ·
         (repeat' (first | exact trivial | refine And.intro ?_ ?_ | (refine wk_cons ?_ ?_))) <;> first | rfl | exact ren_eq (by first | (simp; done) | fail) (by first | rfl | fail) | fail
       ·
        obtain rfl : i = many.toNat := by omega
        have e6 := u8_ge many
        conv => whnf
        first | refine brF (by exact e6) ?_ | fail
        conv => whnf
        repeat (fail)
        refine ok1_callF [] [] true (f56) rfl rfl ⟨⟨rfl, by first | rfl | fail⟩, trivial, by first | rfl | fail, by first | rfl | fail, ?_⟩
        conv => whnf
        repeat (first | (refine Exists.intro _ (And.intro rfl ?_); conv => whnf) | (refine And.intro ⟨rfl, Nat.le_of_ble_eq_true rfl⟩ ?_; conv => whnf) | fail)
        refine ⟨[], ?_, rfl, rfl, ?_, rfl⟩
        ·
         (repeat' (fail)) <;> first | rfl | fail
        ·
         (repeat' (first | exact trivial | fail)) <;> fail
    ·
     have ez : (nth n (t + 1) == UInt32.ofNat (Int.toNat 0)) = false := by simpa using hz
     repeat (first | (refine gdF ez ?_; conv => whnf) | fail)
     refine ⟨⟨t + 1, by omega⟩, by simp only; omega, ?_⟩
     dsimp only
     rw [← hX]
     refine Weak.sel [0, 1, 2, 3, 4, 5, 6, 7, 8, 9] rfl rfl ?_ ?_ rfl rfl
     ·
      (repeat' (first | exact trivial | refine And.intro ?_ ?_ | fail)) <;> first | rfl | fail
     ·
      (repeat' (first | exact trivial | refine And.intro ?_ ?_ | (refine wk_cons ?_ ?_))) <;> first | rfl | exact ren_eq (by first | (simp; done) | fail) (by first | rfl | fail) | fail
  ·
   obtain rfl : t = many.toNat := by omega
   have e1 : decide ((many.toNat : Int) ≥ (many.toNat : Int)) = true := by simp
   have e3 : decide ((many.toNat : Int) < (many.toNat : Int)) = false := by simp
   conv => whnf
   repeat (first | (refine Exists.intro _ (And.intro (sload_end (by first | rfl | (simp [lk]; done) | fail)) ?_); conv => whnf) | fail)
   refine ok1_callF [9] [true] true (q57) rfl rfl ⟨⟨rfl, by first | rfl | fail⟩, by (repeat' (first | exact trivial | refine And.intro ?_ ?_)) <;> first | exact ren_eq (by first | (simp; done) | fail) (by first | rfl | fail) | fail, by first | simp [plainHf, plainB], by first | simp [plainRf, plainR, plainT, plainW], ?_⟩
   conv => whnf
   repeat (first | (refine Exists.intro _ (And.intro (sload_all rfl (by first | rfl | (simp [lm]; done) | fail)) ?_); conv => whnf) | (refine Exists.intro _ (And.intro (sput_all rfl (by first | rfl | (simp [lm]; done) | fail)) ?_); conv => whnf) | (refine And.intro (by first | omega | (simp; omega) | fail) ?_; conv => whnf) | fail)
   refine ok1_yield 8 [1, 2, 4, 5, 6] [false, true, true, true, true, true] (syield_of (ps := [22, 23]) (N := Try.f14.ntmps) (R0 := [(5, .p 1 0), (6, .p 2 0), (8, .p 3 0), (9, .p 4 0), (10, .p 5 0)]) (args0 := [.u32 m, .agg (M.map .u8)]) (ex := .exit 0) (H0t := [some (.box [.u8 many]), some (.box [.b false]), some (.box (K.map .u8)), some (.box [.u32 m]), some (.box [.i (many.toNat : Int)])]) (H1t := [some (.box [.u8 many]), some (.box [.b false]), some (.box (K.map .u8)), some (.box [.u32 m]), some (.box [.i (many.toNat : Int)])]) (.inr (.inr ⟨0, rfl⟩)) rfl rfl rfl ?_) rfl rfl ⟨⟨rfl, by first | ((repeat' (first | exact wk_nil | exact ren_m8 rfl | exact rfl | (refine wk_agg ?_) | (refine wk_cons ?_ ?_))); done)⟩, by (repeat' (first | exact trivial | refine And.intro ?_ ?_)) <;> first | exact ren_m8 rfl | rfl | fail, by first | (simp [plainHf, plainB]; done) | fail, ?_⟩
   ·
    subst hasq
    subst hbdq
    refine sw_ok ttOk mixed (by kernel_rfl) ?_
    conv => whnf
    repeat (first | (refine Exists.intro _ (And.intro (sput_all rfl (by first | rfl | (simp [lm]; done) | fail)) ?_); conv => whnf) | (refine And.intro (by first | omega | (simp; done) | (simp; omega) | fail) ?_; conv => whnf) | (refine And.intro (by kernel_rfl) ?_; conv => whnf) | fail)
    refine sw_ok ttOk mixed (by kernel_rfl) ?_
    conv => whnf
    repeat (first | (refine gdT e1 ?_; conv => whnf) | (refine Exists.intro _ (And.intro rfl ?_); conv => whnf) | (refine And.intro (by first | omega | (simp; done) | fail) ?_; conv => whnf) | (refine And.intro (by kernel_rfl) ?_; conv => whnf) | fail)
    exact ⟨[0, 1, 2, 3, 4, 5], rfl, rfl, by (repeat' (first | exact trivial | refine And.intro ?_ ?_)) <;> first | exact ren_m8 (by first | rfl | fail) | rfl | fail, rfl⟩
   ·
    conv => whnf
    repeat (first | (refine brT rfl ?_; conv => whnf) | (refine gdF rfl ?_; conv => whnf) | (refine Exists.intro _ (And.intro (sload_all rfl (by first | (simp [hk]; done) | fail)) ?_); conv => whnf) | (refine Exists.intro _ (And.intro rfl ?_); conv => whnf) | fail)
    refine ⟨_, fillC hk n, ?_⟩
    conv => whnf
    repeat (fail)
    refine And.intro (by exact ⟨kdC_k hk n, kdC_k hk n⟩) ?_
    conv => whnf
    repeat (first | (refine brF rfl ?_; conv => whnf) | (refine Exists.intro _ (And.intro (sload_all rfl (by first | rfl | (simp [hk]; done) | fail)) ?_); conv => whnf) | (refine Exists.intro _ (And.intro (sput_all rfl (by first | rfl | (simp [hk]; omega))) ?_); conv => whnf) | (refine gdT eC ?_; conv => whnf) | (refine pkF eC ?_; conv => whnf) | (refine gdF e3 ?_; conv => whnf) | (refine pkF e3 ?_; conv => whnf) | (refine Exists.intro _ (And.intro rfl ?_); conv => whnf) | (refine And.intro (by first | omega | (simp; done) | (simp; omega) | fail) ?_; conv => whnf) | fail)
    refine loop_rule ttOk mixed (by kernel_rfl) (ι := { i : Nat // i ≤ many.toNat }) (fun i => [(6, .p 0 0), (7, .p 1 0), (8, .p 2 0), (9, .p 3 0), (60, .u8 many), (61, .u8 (UInt8.ofNat i.1))]) (fun i => [some (.box [.b false]), some (.box ((chK k i.1).map .u8 ++ [.u32 (nth n i.1)])), some (.box ((chK k i.1).map .u8)), some (.box [.u32 (nth n i.1)])]) (fun _ => 4) (fun i => many.toNat - i.1) ⟨0, by omega⟩ ?_ ?_
    ·
     dsimp only
     have z1 := chK_z k
     have z2 := nth_z n
     rw [z1, z2]
     refine Weak.sel [2, 3, 4, 5] rfl rfl ?_ ?_ rfl rfl
     ·
      (repeat' (first | exact trivial | refine And.intro ?_ ?_ | fail)) <;> first | rfl | fail
     ·
      (repeat' (first | exact trivial | refine And.intro ?_ ?_ | (refine wk_cons ?_ ?_))) <;> first | rfl | exact ren_eq (by first | (simp; done) | fail) (by first | rfl | fail) | fail
    ·
     clear lk lk1 q57 q59 q60 lm hM hK hX hmm mK mX eM
     rintro ⟨i, hi⟩
     dsimp only
     have lk := chK_len hk i
     have lk1 := chK_len hk (i + 1)
     have q57 := f57 (chK k i) lk (nth n i)
     have q59 := f59 (chK k i) lk
     have q60 := f60 (chK k i) lk
     have lm := stepK_len 1 (chK k i)
     have us := u8_s i
     rw [← chK_s, nth_s] at q57
     rw [← chK_s] at q60
     have hs : nth n i + UInt32.ofNat (Int.toNat 1) = nth n (i + 1) := nth_s n i
     obtain ⟨M1, hM⟩ : ∃ M, M = stepK 1 (chK k i) := ⟨_, rfl⟩
     obtain ⟨K1, hK⟩ : ∃ K, K = chK k i := ⟨_, rfl⟩
     obtain ⟨X1, hX⟩ : ∃ X, X = chK k (i + 1) := ⟨_, rfl⟩
     rw [← hM] at q57 q59 lm
     rw [← hK] at q57 q59 q60 lk ⊢
     rw [← hX] at q57 q60 lk1
     have mK : (K1.map SV.u8).length = 32 := by rw [List.length_map, lk]
     have mX : (X1.map SV.u8).length = 32 := by rw [List.length_map, lk1]
     have eM : (!eqcs (M1.map SV.u8) (M1.map SV.u8)) = false := by rw [eqcsC_rf M1]; rfl
     have eX : (!eqcs (X1.map SV.u8) (X1.map SV.u8)) = false := by rw [eqcsC_rf X1]; rfl
     by_cases hi2 : i < many.toNat
     ·
      have e6 := u8_lt hi2
      have e7 : (nth n (i + 1) != nth n i + UInt32.ofNat (Int.toNat 1)) = false := by rw [hs]; simp
      conv => whnf
      first | refine brT (by exact e6) ?_ | fail
      conv => whnf
      repeat (fail)
      refine ok1_callF [1] [true] true (q57) rfl rfl ⟨⟨rfl, by first | rfl | fail⟩, by (repeat' (first | exact trivial | refine And.intro ?_ ?_)) <;> first | exact ren_eq (by first | (simp; done) | fail) (by first | rfl | fail) | fail, by first | simp [plainHf, plainB], by first | simp [plainRf, plainR, plainT, plainW], ?_⟩
      conv => whnf
      repeat (first | (refine Exists.intro _ (And.intro (sload_all rfl (by first | rfl | (simp [lm, lk]; done) | fail)) ?_); conv => whnf) | fail)
      refine ok1_callF [] [] true (q59) rfl rfl ⟨⟨rfl, by first | ((repeat' (first | exact wk_nil | exact ren_m8 rfl | (refine wk_agg ?_) | (refine wk_cons ?_ ?_))); done) | fail⟩, trivial, by first | rfl | fail, by first | simp [plainRf, plainR, plainT, plainW], ?_⟩
      conv => whnf
      repeat (fail)
      refine And.intro (by exact ⟨kdC_u8n _ lm, kdC_u8n _ lm⟩) ?_
      conv => whnf
      repeat (first | (refine Exists.intro _ (And.intro (sload_all rfl (by first | rfl | (simp [lm, lk]; done) | fail)) ?_); conv => whnf) | (refine gdF eM ?_; conv => whnf) | (refine And.intro (by kernel_rfl) ?_; conv => whnf) | fail)
      refine ok1_callF [] [] true (q60) rfl rfl ⟨⟨rfl, by first | ((repeat' (first | exact wk_nil | exact ren_m8 rfl | (refine wk_agg ?_) | (refine wk_cons ?_ ?_))); done) | fail⟩, trivial, by first | rfl | fail, by first | simp [plainRf, plainR, plainT, plainW], ?_⟩
      conv => whnf
      repeat (first | (refine Exists.intro _ (And.intro (sload_all rfl (by first | rfl | (simp [lk1, lk]; done) | fail)) ?_); conv => whnf) | (refine Exists.intro _ (And.intro (sput_all rfl (by first | rfl | (simp [lk1, lk]; done) | fail)) ?_); conv => whnf) | (refine Exists.intro _ (And.intro (sload_fst mX) ?_); conv => whnf) | (refine Exists.intro _ (And.intro rfl ?_); conv => whnf) | (refine And.intro (by first | (simp; done) | (simp; omega) | fail) ?_; conv => whnf) | (refine And.intro (by kernel_rfl) ?_; conv => whnf) | fail)
      refine And.intro (by exact ⟨kdC_u8n _ lk1, kdC_u8n _ lk1⟩) ?_
      conv => whnf
      repeat (first | (refine Exists.intro _ (And.intro (sload_end (by first | rfl | (simp [lk1, lk]; done) | fail)) ?_); conv => whnf) | (refine gdT eX ?_; conv => whnf) | (refine pkF eX ?_; conv => whnf) | (refine gdF e7 ?_; conv => whnf) | (refine Exists.intro _ (And.intro rfl ?_); conv => whnf) | fail)
      refine ⟨⟨i + 1, by omega⟩, by simp only; omega, ?_⟩
      dsimp only
      rw [← hX, hs, us]
      refine Weak.sel [0, 1, 2, 3] rfl rfl ?_ ?_ rfl rfl
      ·
       (repeat' (first | exact trivial | refine And.intro ?_ ?_ | fail)) <;> first | rfl | fail
      ·
       (repeat' (first | exact trivial | refine And.intro ?_ ?_ | (refine wk_cons ?_ ?_))) <;> first | rfl | exact ren_eq (by first | (simp; done) | fail) (by first | rfl | fail) | fail
     ·
      obtain rfl : i = many.toNat := by omega
      have e6 := u8_ge many
      conv => whnf
      first | refine brF (by exact e6) ?_ | fail
      conv => whnf
      repeat (fail)
      refine ok1_callF [] [] true (f56) rfl rfl ⟨⟨rfl, by first | rfl | fail⟩, trivial, by first | rfl | fail, by first | rfl | fail, ?_⟩
      conv => whnf
      repeat (first | (refine Exists.intro _ (And.intro rfl ?_); conv => whnf) | (refine And.intro ⟨rfl, Nat.le_of_ble_eq_true rfl⟩ ?_; conv => whnf) | fail)
      refine ⟨[], ?_, rfl, rfl, ?_, rfl⟩
      ·
       (repeat' (fail)) <;> first | rfl | fail
      ·
       (repeat' (first | exact trivial | fail)) <;> fail
end Go.Sh
