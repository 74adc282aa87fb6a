/- Merged for a claim: C7. -/
import Derived.Test.YtannakicfkjhbaaCa1
set_option linter.unusedSimpArgs false
set_option linter.unusedVariables false
/- chain's laws: ChainAlike (f15), walked. -/
namespace Go.Sh
open Go.Proofs
set_option maxHeartbeats 8000000
set_option maxRecDepth 100000

theorem fillC0 {k : List UInt8} (h : k.length = 32) : sfill (fun i => (List.map (fun (f : Nat × Nat × Nat) => (f.1, f.2.2)) [(0, 55, 32), (32, 23, 1)])[i]?) (SV.agg (List.replicate 32 (SV.u8 0) ++ [SV.u32 0])).cells [(0, SV.agg (k.map .u8))] = some (k.map .u8 ++ [.u32 0]) := by
 have m : (k.map SV.u8).length = 32 := by rw [List.length_map, h]
 have e1 : sput (SV.agg (List.replicate 32 (SV.u8 0) ++ [SV.u32 0])).cells 0 (.agg (k.map .u8)) = k.map .u8 ++ [.u32 0] := sput_fst (by rw [m]; rfl)
 refine (sfill_c (off := 0) (sz := 32) (x := .agg (k.map .u8)) rfl rfl m (by decide)).trans ?_
 rw [e1]; rfl
theorem nth_nz {j : Nat} (h : j < 600) : (nth 0 (j + 1) == UInt32.ofNat (Int.toNat 0)) = false := by
 rw [beq_eq_false_iff_ne]
 intro e
 have h2 := congrArg UInt32.toNat e
 unfold nth at h2
 rw [UInt32.zero_add] at h2
 rw [UInt32.toNat_ofNat'] at h2
 have : (UInt32.ofNat (Int.toNat 0)).toNat = 0 := rfl
 omega
theorem nth_u8 (a : UInt8) : (nth 0 a.toNat == a.toUInt32) = true := by
 rw [beq_iff_eq]
 have : a.toNat < 256 := a.toNat_lt
 apply UInt32.toNat.inj
 unfold nth
 rw [UInt32.zero_add, UInt32.toNat_ofNat', UInt8.toNat_toUInt32]; omega
theorem nth_u82 (a b : UInt8) : (nth 0 (a.toNat + b.toNat) == a.toUInt32 + b.toUInt32) = true := by
 rw [beq_iff_eq]
 have : a.toNat < 256 := a.toNat_lt
 have : b.toNat < 256 := b.toNat_lt
 apply UInt32.toNat.inj
 unfold nth
 rw [UInt32.zero_add, UInt32.toNat_ofNat', UInt32.toNat_add, UInt8.toNat_toUInt32, UInt8.toNat_toUInt32]
attribute [local irreducible] rootO stepK mac_n chK nth
theorem f15 (r s : List UInt8) (hr : r.length = 32) (hs : s.length = 32) (ahead many : UInt8) : SCall Try.prog 15 [.agg (r.map .u8), .agg (s.map .u8), .u8 ahead, .u8 many] [] (.b true) [] := by
 have q1 := f61 r s hr hs
 have l1 := rootO_len r s
 obtain ⟨O, hO⟩ : ∃ O, O = rootO r s := ⟨_, rfl⟩
 rw [← hO] at q1 l1
 have l2 : (O.take 32).length = 32 := by simp; omega
 have l3 : (O.drop 32).length = 32 := by simp; omega
 obtain ⟨A, hA⟩ : ∃ A, A = O.take 32 := ⟨_, rfl⟩
 obtain ⟨C, hC⟩ : ∃ C, C = O.drop 32 := ⟨_, rfl⟩
 rw [← hA] at q1 l2
 rw [← hC] at q1 l3
 clear hA hC hO l1
 refine scall_of ttOk (by kernel_rfl : Try.prog.funcs[15]? = some Try.f15) rfl rfl rfl ?_
 try simp only [List.length_cons, List.length_nil, Nat.zero_add, Nat.reduceAdd]
 refine sw_ok ttOk mixed (by kernel_rfl) ?_
 conv => whnf
 repeat (fail)
 refine ok1_callF [] [] true (f56) rfl rfl ⟨⟨rfl, by first | rfl | fail⟩, trivial, by first | rfl | fail, by first | rfl | fail, ?_⟩
 conv => whnf
 repeat (first | (refine brF rfl ?_; conv => whnf) | (refine Exists.intro _ (And.intro (sload_all rfl (by first | rfl | (simp [hr, hs]; done) | fail)) ?_); conv => whnf) | fail)
 refine ok1_callF [] [] true (q1) rfl rfl ⟨⟨rfl, by first | ((repeat' (first | exact wk_nil | exact ren_m8 rfl | (refine wk_agg ?_) | (refine wk_cons ?_ ?_))); done) | fail⟩, trivial, by first | rfl | fail, by first | simp [plainRf, plainR, plainT, plainW], ?_⟩
 conv => whnf
 repeat (first | (refine Exists.intro _ (And.intro (sload_all rfl (by first | rfl | (simp [hr, hs, l2, l3]; done) | fail)) ?_); conv => whnf) | (refine Exists.intro _ (And.intro (sput_all rfl (by first | rfl | (simp [hr, hs, l2, l3]; done) | fail)) ?_); conv => whnf) | (refine Exists.intro _ (And.intro (fillC0 l3) ?_); conv => whnf) | (refine Exists.intro _ (And.intro rfl ?_); conv => whnf) | (refine And.intro (by first | omega | (simp; omega) | fail) ?_; conv => whnf) | (refine And.intro ⟨rfl, Nat.le_of_ble_eq_true rfl⟩ ?_; conv => whnf) | (refine And.intro (by kernel_rfl) ?_; conv => whnf) | fail)
 refine loop_rule ttOk mixed (by kernel_rfl) (ι := { i : Nat // i ≤ ahead.toNat }) (fun i => [(2, .u8 ahead), (7, .p 0 0), (8, .p 1 0), (11, .p 4 0), (12, .p 3 0), (30, .u8 ahead), (31, .u8 (UInt8.ofNat i.1))]) (fun i => [some (.box [.u8 many]), some (.box [.b false]), some (.box ((chK C i.1).map .u8 ++ [.u32 (nth 0 i.1)])), some (.box ((chK C i.1).map .u8 ++ [.u32 (nth 0 i.1)])), some (.box [.p 2 0])]) (fun _ => 5) (fun i => ahead.toNat - i.1) ⟨0, by omega⟩ ?_ ?_
 ·
  dsimp only
  have z1 := chK_z C
  have z2 := nth_z 0
  rw [z1, z2]
  refine Weak.sel [2, 3, 6, 7, 8] rfl rfl ?_ ?_ rfl rfl
  ·
   (repeat' (first | exact trivial | refine And.intro ?_ ?_ | fail)) <;> first | rfl | fail
  ·
   (repeat' (first | exact trivial | refine And.intro ?_ ?_ | (refine wk_cons ?_ ?_))) <;> first | rfl | exact ren_eq (by first | (simp; done) | fail) (by first | rfl | fail) | fail
 ·
  rintro ⟨i, hi⟩
  dsimp only
  have ha8 : ahead.toNat < 256 := ahead.toNat_lt
  have lk := chK_len l3 i
  have us := u8_s i
  by_cases hi2 : i < ahead.toNat
  ·
   have lk1 := chK_len l3 (i + 1)
   have q57 := f57 (chK C i) lk (nth 0 i)
   have lm := stepK_len 1 (chK C i)
   rw [← chK_s, nth_s] at q57
   obtain ⟨M1, hM⟩ : ∃ M, M = stepK 1 (chK C i) := ⟨_, rfl⟩
   obtain ⟨K1, hK⟩ : ∃ K, K = chK C i := ⟨_, rfl⟩
   obtain ⟨X1, hX⟩ : ∃ X, X = chK C (i + 1) := ⟨_, rfl⟩
   rw [← hM] at q57 lm
   rw [← hK] at q57 lk ⊢
   rw [← hX] at q57 lk1
   have mK : (K1.map SV.u8).length = 32 := by rw [List.length_map, lk]
   have mX : (X1.map SV.u8).length = 32 := by rw [List.length_map, lk1]
   have eM : (!eqcs (M1.map SV.u8) (M1.map SV.u8)) = false := by rw [eqcsC_rf M1]; rfl
   have eX : (!eqcs (X1.map SV.u8 ++ [.u32 (nth 0 (i + 1))]) (X1.map SV.u8 ++ [.u32 (nth 0 (i + 1))])) = false := by rw [eqcsC_k]; rfl
   have e6 := u8_lt hi2
   conv => whnf
   first | refine brT (by exact e6) ?_ | fail
   conv => whnf
   repeat (first | (refine Exists.intro _ (And.intro rfl ?_); conv => whnf) | fail)
   refine ok1_callF [2] [true] true (q57) rfl rfl ⟨⟨rfl, by first | rfl | fail⟩, by (repeat' (first | exact trivial | refine And.intro ?_ ?_)) <;> first | exact ren_eq (by first | (simp; done) | fail) (by first | rfl | fail) | fail, by first | simp [plainHf, plainB], by first | simp [plainRf, plainR, plainT, plainW], ?_⟩
   conv => whnf
   repeat (fail)
   refine ok1_callF [3] [true] true (q57) rfl rfl ⟨⟨rfl, by first | rfl | fail⟩, by (repeat' (first | exact trivial | refine And.intro ?_ ?_)) <;> first | exact ren_eq (by first | (simp; done) | fail) (by first | rfl | fail) | fail, by first | simp [plainHf, plainB], by first | simp [plainRf, plainR, plainT, plainW], ?_⟩
   conv => whnf
   repeat (fail)
   refine And.intro (by exact ⟨kdC_u8n _ lm, kdC_u8n _ lm⟩) ?_
   conv => whnf
   repeat (first | (refine Exists.intro _ (And.intro (sload_all rfl (by first | rfl | (simp [lm, lk1]; done) | fail)) ?_); conv => whnf) | (refine gdT eM ?_; conv => whnf) | (refine Exists.intro _ (And.intro rfl ?_); conv => whnf) | fail)
   refine And.intro (by exact ⟨kdC_k lk1 _, kdC_k lk1 _⟩) ?_
   conv => whnf
   repeat (first | (refine pkF eM ?_; conv => whnf) | (refine gdF eX ?_; conv => whnf) | (refine And.intro (by kernel_rfl) ?_; conv => whnf) | fail)
   refine ⟨⟨i + 1, by omega⟩, by simp only; omega, ?_⟩
   dsimp only
   rw [← hX, us]
   refine Weak.sel [0, 1, 2, 3, 4] rfl rfl ?_ ?_ rfl rfl
   ·
    (repeat' (first | exact trivial | refine And.intro ?_ ?_ | fail)) <;> first | rfl | fail
   ·
    (repeat' (first | exact trivial | refine And.intro ?_ ?_ | (refine wk_cons ?_ ?_))) <;> first | rfl | exact ren_eq (by first | (simp; done) | fail) (by first | rfl | fail) | fail
  ·
   obtain rfl : i = ahead.toNat := by omega
   have e6 := u8_ge ahead
   have q4 := f58 (chK C ahead.toNat) lk (nth 0 ahead.toNat)
   conv => whnf
   first | refine brF (by exact e6) ?_ | fail
   conv => whnf
   repeat (first | (refine Exists.intro _ (And.intro (sload_all rfl (by first | rfl | (simp [lk]; done) | fail)) ?_); conv => whnf) | (refine Exists.intro _ (And.intro rfl ?_); conv => whnf) | (refine And.intro (by first | omega | (simp; done) | fail) ?_; conv => whnf) | fail)
   refine ok1_callF [] [true] false (q4) rfl rfl ⟨⟨rfl, by first | ((repeat' (first | exact wk_nil | exact ren_eq (by first | (simp; done) | fail) rfl | (refine wk_agg ?_) | (refine wk_cons ?_ ?_))); done) | fail⟩, trivial, by first | simp [plainHf, plainB], by first | rfl | fail, ?_⟩
   conv => whnf
   repeat (fail)
   refine SWp.weak (R0 := [(2, .u8 ahead), (7, .p 0 0), (8, .p 1 0), (11, .p 4 0), (12, .p 3 0), (13, .p 5 0), (51, .fn 106 [.p 6 0])]) (H0 := [some (.box [.u8 many]), some (.box [.b false]), some (.box ((chK C (ahead.toNat + 0)).map .u8 ++ [.u32 (nth 0 (ahead.toNat + 0))])), some (.box ((chK C ahead.toNat).map .u8 ++ [.u32 (nth 0 ahead.toNat)])), some (.box [.p 2 0]), some (.box [.i 0]), some (.box ((chK C ahead.toNat).map .u8 ++ [.u32 (nth 0 ahead.toNat)]))]) (L0 := 7) ?_ ?_
   ·
    refine Weak.sel [0, 1, 2, 3, 4, 5, 6] rfl rfl ?_ ?_ rfl rfl
    ·
     (repeat' (first | exact trivial | refine And.intro ?_ ?_ | fail)) <;> first | rfl | fail
    ·
     (repeat' (first | exact trivial | refine And.intro ?_ ?_ | (refine wk_cons ?_ ?_))) <;> first | rfl | exact ren_eq (by first | (simp; done) | fail) (by first | rfl | fail) | fail
   refine range_named rfl rfl rfl (by kernel_rfl : Try.prog.funcs[106]? = some Try.f106) rfl rfl rfl rfl ?_
   intro asq bdq hasq hbdq
   refine sw_ok ttOk mixed (by kernel_rfl) ?_
   conv => whnf
   repeat (first | (refine Exists.intro _ (And.intro (sload_all rfl (by first | rfl | (simp [lk]; done) | fail)) ?_); conv => whnf) | (refine Exists.intro _ (And.intro (sput_all rfl (by first | rfl | (simp [lk]; done) | fail)) ?_); conv => whnf) | (refine And.intro (by first | omega | (simp; omega) | fail) ?_; conv => whnf) | fail)
   refine loop_rule ttOk mixed (by kernel_rfl) (ι := { t : Nat // t ≤ many.toNat }) (fun t => [(0, .yld 7), (3, .p 8 0)]) (fun t => [some (.box [.u8 many]), some (.box [.b false]), some (.box ((chK C (ahead.toNat + t.1)).map .u8 ++ [.u32 (nth 0 (ahead.toNat + t.1))])), some (.box ((chK C ahead.toNat).map .u8 ++ [.u32 (nth 0 ahead.toNat)])), some (.box [.p 2 0]), some (.box [.i (t.1 : Int)]), some (.box ((chK C ahead.toNat).map .u8 ++ [.u32 (nth 0 ahead.toNat)])), some (.obj (.loop [(7, .p 0 0), (8, .p 1 0), (11, .p 4 0), (13, .p 5 0)] Try.f15.ntmps [52, 53] asq bdq)), some (.box ((chK C (ahead.toNat + t.1)).map .u8 ++ [.u32 (nth 0 (ahead.toNat + t.1))]))]) (fun _ => 9) (fun t => many.toNat - t.1) ⟨0, by omega⟩ ?_ ?_
   ·
    dsimp only
    refine Weak.sel [0, 1, 2, 3, 4, 5, 6, 7, 8] rfl rfl ?_ ?_ rfl rfl
    ·
     (repeat' (first | exact trivial | refine And.intro ?_ ?_ | fail)) <;> first | rfl | fail
    ·
     (repeat' (first | exact trivial | refine And.intro ?_ ?_ | (refine wk_cons ?_ ?_))) <;> first | rfl | exact ren_eq (by first | (simp; done) | fail) (by first | rfl | fail) | fail
   ·
    rintro ⟨t, ht⟩
    dsimp only
    have hm8 : many.toNat < 256 := many.toNat_lt
    have lk0 := lk
    clear q4
    obtain ⟨j, hj⟩ : ∃ j, j = ahead.toNat + t := ⟨_, rfl⟩
    have hj1 : ahead.toNat + (t + 1) = j + 1 := by omega
    have hj5 : j < 600 := by omega
    rw [← hj]
    have lk := chK_len l3 j
    have lk1 := chK_len l3 (j + 1)
    have q57 := f57 (chK C j) lk (nth 0 j)
    have lm := stepK_len 1 (chK C j)
    rw [← chK_s, nth_s] at q57
    obtain ⟨M, hM⟩ : ∃ M, M = stepK 1 (chK C j) := ⟨_, rfl⟩
    obtain ⟨K, hK⟩ : ∃ K, K = chK C j := ⟨_, rfl⟩
    obtain ⟨X, hX⟩ : ∃ X, X = chK C (j + 1) := ⟨_, rfl⟩
    obtain ⟨B, hB⟩ : ∃ B, B = chK C ahead.toNat := ⟨_, rfl⟩
    obtain ⟨m, hmm⟩ : ∃ m, m = nth 0 j := ⟨_, rfl⟩
    rw [← hM] at q57 lm
    rw [← hK] at q57 lk ⊢
    rw [← hX] at q57 lk1
    rw [← hmm] at q57 ⊢
    rw [← hB] at lk0 ⊢
    have mK : (K.map SV.u8).length = 32 := by rw [List.length_map, lk]
    have mX : (X.map SV.u8).length = 32 := by rw [List.length_map, lk1]
    have mB : (B.map SV.u8).length = 32 := by rw [List.length_map, lk0]
    have eM : (!eqcs (M.map SV.u8) (M.map SV.u8)) = false := by rw [eqcsC_rf M]; rfl
    by_cases h2 : t < many.toNat
    ·
     have e1 : decide ((t : Int) ≥ (many.toNat : Int)) = false := by simp; omega
     have e2 : (m != m) = false := by simp
     have hp : w64 ((t : Int) + 1) = ((t + 1 : Nat) : Int) := by simp only [w64_eq]; omega
     have ez := nth_nz hj5
     conv => whnf
     repeat (first | (refine Exists.intro _ (And.intro (sload_end (by first | rfl | (simp [lk]; done) | fail)) ?_); conv => whnf) | fail)
     refine ok1_callF [8] [true] true (q57) rfl rfl ⟨⟨rfl, by first | rfl | fail⟩, by (repeat' (first | exact trivial | refine And.intro ?_ ?_)) <;> first | exact ren_eq (by first | (simp; done) | fail) (by first | rfl | fail) | fail, by first | simp [plainHf, plainB], by first | simp [plainRf, plainR, plainT, plainW], ?_⟩
     conv => whnf
     repeat (first | (refine Exists.intro _ (And.intro (sload_all rfl (by first | rfl | (simp [lm]; done) | fail)) ?_); conv => whnf) | (refine Exists.intro _ (And.intro (sput_all rfl (by first | rfl | (simp [lm]; done) | fail)) ?_); conv => whnf) | (refine And.intro (by first | omega | (simp; omega) | fail) ?_; conv => whnf) | fail)
     refine ok1_yield 7 [0, 1, 2, 4, 5] [false, true, true, true, false, true] (syield_of (ps := [52, 53]) (N := Try.f15.ntmps) (R0 := [(7, .p 1 0), (8, .p 2 0), (11, .p 4 0), (13, .p 5 0)]) (args0 := [.u32 m, .agg (M.map .u8)]) (ex := .normal) (H0t := [some (.box [.u8 many]), some (.box [.b false]), some (.box (K.map .u8 ++ [.u32 m])), some (.box [.p 3 0]), some (.box [.i (t : Int)])]) (H1t := [some (.box [.u8 many]), some (.box [.b false]), some (.box (X.map .u8 ++ [.u32 (nth 0 (j + 1))])), some (.box [.p 3 0]), some (.box [.i ((t + 1 : Nat) : Int)])]) (.inl rfl) rfl rfl rfl ?_) rfl rfl ⟨⟨rfl, by first | ((repeat' (first | exact wk_nil | exact ren_m8 rfl | exact rfl | (refine wk_agg ?_) | (refine wk_cons ?_ ?_))); done)⟩, by (repeat' (first | exact trivial | refine And.intro ?_ ?_)) <;> first | rfl | exact ren_app2 (by first | (simp; done) | fail) rfl rfl | fail, by first | (simp [plainHf, plainB]; done) | fail, ?_⟩
     ·
      subst hasq
      subst hbdq
      refine sw_ok ttOk mixed (by kernel_rfl) ?_
      conv => whnf
      repeat (first | (refine Exists.intro _ (And.intro (sput_all rfl (by first | rfl | (simp [lm]; done) | fail)) ?_); conv => whnf) | (refine And.intro (by first | omega | (simp; done) | (simp; omega) | fail) ?_; conv => whnf) | (refine And.intro (by kernel_rfl) ?_; conv => whnf) | fail)
      refine sw_ok ttOk mixed (by kernel_rfl) ?_
      conv => whnf
      repeat (first | (refine Exists.intro _ (And.intro (sload_end (by first | rfl | (simp [lm, lk]; done) | fail)) ?_); conv => whnf) | (refine gdF e1 ?_; conv => whnf) | (refine gdT e2 ?_; conv => whnf) | (refine Exists.intro _ (And.intro rfl ?_); conv => whnf) | fail)
      refine ok1_callF [3] [true] true (q57) rfl rfl ⟨⟨rfl, by first | rfl | fail⟩, by (repeat' (first | exact trivial | refine And.intro ?_ ?_)) <;> first | exact ren_eq (by first | (simp; done) | fail) (by first | rfl | fail) | fail, by first | simp [plainHf, plainB], by first | simp [plainRf, plainR, plainT, plainW], ?_⟩
      conv => whnf
      repeat (first | (refine Exists.intro _ (And.intro (sload_all rfl (by first | rfl | (simp [lm, lk]; done) | fail)) ?_); conv => whnf) | (refine gdT (by first | (simp; done) | fail) ?_; conv => whnf) | fail)
      refine And.intro (by exact ⟨kdC_u8n _ lm, kdC_u8n _ lm⟩) ?_
      conv => whnf
      repeat (first | (refine gdF eM ?_; conv => whnf) | (refine Exists.intro _ (And.intro rfl ?_); conv => whnf) | (refine pkF (by first | (simp; done) | fail) ?_; conv => whnf) | (refine And.intro (by first | omega | (simp; done) | fail) ?_; conv => whnf) | (refine And.intro (by kernel_rfl) ?_; conv => whnf) | fail)
      rw [hp]
      exact ⟨[0, 1, 2, 3, 4, 5], rfl, rfl, by (repeat' (first | exact trivial | refine And.intro ?_ ?_)) <;> first | rfl | exact ren_app2 (by first | (simp; done) | fail) rfl rfl | fail, rfl⟩
     ·
      conv => whnf
      repeat (first | (refine gdT rfl ?_; conv => whnf) | (refine Exists.intro _ (And.intro (sload_snd mX) ?_); conv => whnf) | (refine Exists.intro _ (And.intro rfl ?_); conv => whnf) | fail)
      repeat (first | (refine gdF ez ?_; conv => whnf) | fail)
      refine ⟨⟨t + 1, by omega⟩, by simp only; omega, ?_⟩
      dsimp only
      rw [hj1, ← hX]
      refine Weak.sel [0, 1, 2, 3, 4, 5, 6, 7, 8] rfl rfl ?_ ?_ rfl rfl
      ·
       (repeat' (first | exact trivial | refine And.intro ?_ ?_ | fail)) <;> first | rfl | fail
      ·
       (repeat' (first | exact trivial | refine And.intro ?_ ?_ | (refine wk_cons ?_ ?_))) <;> first | rfl | exact ren_eq (by first | (simp; done) | fail) (by first | rfl | fail) | fail
    ·
     obtain rfl : t = many.toNat := by omega
     have e1 : decide ((many.toNat : Int) ≥ (many.toNat : Int)) = true := by simp
     conv => whnf
     repeat (first | (refine Exists.intro _ (And.intro (sload_end (by first | rfl | (simp [lk]; done) | fail)) ?_); conv => whnf) | fail)
     refine ok1_callF [8] [true] true (q57) rfl rfl ⟨⟨rfl, by first | rfl | fail⟩, by (repeat' (first | exact trivial | refine And.intro ?_ ?_)) <;> first | exact ren_eq (by first | (simp; done) | fail) (by first | rfl | fail) | fail, by first | simp [plainHf, plainB], by first | simp [plainRf, plainR, plainT, plainW], ?_⟩
     conv => whnf
     repeat (first | (refine Exists.intro _ (And.intro (sload_all rfl (by first | rfl | (simp [lm]; done) | fail)) ?_); conv => whnf) | (refine Exists.intro _ (And.intro (sput_all rfl (by first | rfl | (simp [lm]; done) | fail)) ?_); conv => whnf) | (refine And.intro (by first | omega | (simp; omega) | fail) ?_; conv => whnf) | fail)
     refine ok1_yield 7 [0, 1, 2, 4, 5] [false, true, true, true, false, true] (syield_of (ps := [52, 53]) (N := Try.f15.ntmps) (R0 := [(7, .p 1 0), (8, .p 2 0), (11, .p 4 0), (13, .p 5 0)]) (args0 := [.u32 m, .agg (M.map .u8)]) (ex := .exit 2) (H0t := [some (.box [.u8 many]), some (.box [.b false]), some (.box (K.map .u8 ++ [.u32 m])), some (.box [.p 3 0]), some (.box [.i (many.toNat : Int)])]) (H1t := [some (.box [.u8 many]), some (.box [.b false]), some (.box (K.map .u8 ++ [.u32 m])), some (.box [.p 3 0]), some (.box [.i (many.toNat : Int)])]) (.inr (.inr ⟨2, rfl⟩)) rfl rfl rfl ?_) rfl rfl ⟨⟨rfl, by first | ((repeat' (first | exact wk_nil | exact ren_m8 rfl | exact rfl | (refine wk_agg ?_) | (refine wk_cons ?_ ?_))); done)⟩, by (repeat' (first | exact trivial | refine And.intro ?_ ?_)) <;> first | rfl | exact ren_app2 (by first | (simp; done) | fail) rfl rfl | fail, by first | (simp [plainHf, plainB]; done) | fail, ?_⟩
     ·
      subst hasq
      subst hbdq
      refine sw_ok ttOk mixed (by kernel_rfl) ?_
      conv => whnf
      repeat (first | (refine Exists.intro _ (And.intro (sput_all rfl (by first | rfl | (simp [lm]; done) | fail)) ?_); conv => whnf) | (refine And.intro (by first | omega | (simp; done) | (simp; omega) | fail) ?_; conv => whnf) | (refine And.intro (by kernel_rfl) ?_; conv => whnf) | fail)
      refine sw_ok ttOk mixed (by kernel_rfl) ?_
      conv => whnf
      repeat (first | (refine gdT e1 ?_; conv => whnf) | (refine Exists.intro _ (And.intro rfl ?_); conv => whnf) | (refine And.intro (by first | omega | (simp; done) | fail) ?_; conv => whnf) | (refine And.intro (by kernel_rfl) ?_; conv => whnf) | fail)
      exact ⟨[0, 1, 2, 3, 4, 5], rfl, rfl, by (repeat' (first | exact trivial | refine And.intro ?_ ?_)) <;> first | rfl | exact ren_app2 (by first | (simp; done) | fail) rfl rfl | fail, rfl⟩
     ·
      have e8 := nth_u8 ahead
      have e9 := nth_u82 ahead many
      rw [← hj, ← hmm] at e9
      conv => whnf
      repeat (first | (refine brT rfl ?_; conv => whnf) | (refine gdF rfl ?_; conv => whnf) | (refine Exists.intro _ (And.intro (sload_snd mK) ?_); conv => whnf) | (refine Exists.intro _ (And.intro (sload_snd mB) ?_); conv => whnf) | (refine gdT e8 ?_; conv => whnf) | (refine pkT e8 ?_; conv => whnf) | (refine Exists.intro _ (And.intro rfl ?_); conv => whnf) | (refine gdT (by first | (simp; done) | fail) ?_; conv => whnf) | (refine pkT (by first | (simp; done) | fail) ?_; conv => whnf) | (refine And.intro ⟨rfl, Nat.le_of_ble_eq_true rfl⟩ ?_; conv => whnf) | (refine And.intro (by kernel_rfl) ?_; conv => whnf) | fail)
      rw [e9]
      refine ⟨[], ?_, rfl, rfl, ?_, rfl⟩
      ·
       (repeat' (fail)) <;> first | rfl | fail
      ·
       (repeat' (first | exact trivial | fail)) <;> fail
end Go.Sh
