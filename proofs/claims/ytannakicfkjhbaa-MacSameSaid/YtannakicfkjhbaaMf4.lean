/- Merged for a claim: M5, M5c, M5b, M5o, M5d, M5w, M5wb. -/
import Derived.Test.YtannakicfkjhbaaMf3
/- sha: the narrow machine's sum (f102), walked, of texts in parts. -/
namespace Go.Sh
open Go.Proofs
set_option maxHeartbeats 1000000
set_option linter.unusedSimpArgs false
set_option linter.unusedVariables false

attribute [local irreducible] comp_n
theorem f139D (h k : List UInt32) (D : List UInt8) (o : Nat) (hh : h.length = 8) (hk : k.length = 64) (ho : o + 64 ≤ D.length) (fl : Bool) : SCall Try.prog 139 [.p 0 0, .sl 3 o 64 1 fl] [some (.ro (mach_n 1 2)), some (.row 23 (h.map .u32)), some (.ro (k.map .u32)), some (.ro (D.map .u8))] (.tup []) [some (.ro (mach_n 1 2)), some (.row 23 ((comp_n k h ((D.drop o).take 64)).map .u32)), some (.ro (k.map .u32)), some (.ro (D.map .u8))] :=
  have hl : ((D.drop o).take 64).length = 64 := (by rw [List.length_take, List.length_drop]; omega)
  (f139 h k ((D.drop o).take 64) hh hk hl fl).sub 3 o (D.map .u8) (((D.drop o).take 64).map .u8) 4 rfl rfl (by rw [List.length_map, hl, ← List.map_drop, ← List.map_take]) (plainL_u8 _) (plainL_u8 _) (by decide) ⟨.inr ⟨rfl, rfl⟩, .inl rfl, trivial⟩ rfl
    ⟨.inr (.inr rfl), .inr (.inl (by simp [plainB])), .inr (.inl (by simp [plainB])), .inl rfl, trivial⟩ ⟨.inr (.inr rfl), .inr (.inl (by simp [plainB])), .inr (.inl (by simp [plainB])), .inl rfl, trivial⟩
theorem blks_s_n (k h : List UInt32) (D : List UInt8) (j : Nat) : blks_n k h D (j + 1) = comp_n k (blks_n k h D j) ((D.drop (64 * j)).take 64) := rfl
theorem blks_z_n (k h : List UInt32) (D : List UInt8) : blks_n k h D 0 = h := rfl
theorem cat8 {E b : List UInt8} {o n m : Nat} (hn : n = E.length - o) (hm : m = b.length) : List.take (n * 1) (List.drop o (E.map SV.u8)) ++ List.take (m * 1) (List.drop 0 (b.map SV.u8)) = (E.drop o ++ b).map SV.u8 := by
  subst hn; subst hm
  rw [Nat.mul_one, Nat.mul_one, List.drop_zero, List.take_of_length_le (l := b.map SV.u8) (by rw [List.length_map]; exact Nat.le_refl _), List.take_of_length_le (by rw [List.length_drop, List.length_map]; exact Nat.le_refl _), List.map_append, List.map_drop]
theorem outl_z_n (H : List UInt32) : outl_n H (4 * 0) = [] := rfl
theorem outl_s_n (H : List UInt32) (i m : Nat) (hm : m < 4) : outl_n H (4 * i + (m + 1)) = outl_n H (4 * i + m) ++ [(shr32 (H.getD i 0) (8 * (3 - m))).toUInt8] := by
  show outl_n H (4 * i + m) ++ [(shr32 (H.getD ((4 * i + m) / 4) 0) (8 * (4 - 1 - (4 * i + m) % 4))).toUInt8] = _
  rw [show (4 * i + m) / 4 = i by omega, show 4 - 1 - (4 * i + m) % 4 = 3 - m by omega]
theorem outb_e_n (H : List UInt32) : outb_n H = outl_n H (4 * 8) := rfl
theorem lset_z_n (N : Nat) : lset_n N 0 = List.replicate 8 0 := rfl
theorem lset_s_n (N i : Nat) : lset_n N (i + 1) = (lset_n N i).set (7 - i) (shr64 (shl64 (UInt64.ofNat N) (UInt64.ofNat (Int.toNat 3)).toNat) (8 * i)).toUInt8 := rfl
theorem last_e_n (T : List UInt8) : rest_n T ++ [128] ++ List.replicate (pz_n T.length) 0 ++ lset_n T.length 8 = last_n T := rfl
attribute [local irreducible] blks_n st_n rest_n hash_n pz_n outl_n outb_n lset_n last_n
theorem f102_1 (h k : List UInt32) (hh : h.length = 8) (hk : k.length = 64) (b0 : List UInt8) (hb0 : b0.length < 100000000000000) (f0 fl : Bool) : SCall Try.prog 102 [.p 0 0, .sl 3 0 1 1 fl] [some (.ro (mach_n 1 2)), some (.row 23 (h.map .u32)), some (.ro (k.map .u32)), some (.ro [.sl 4 0 b0.length 1 f0]), some (.ro (b0.map .u8))] (.sl 5 0 32 1 false) [some (.ro (mach_n 1 2)), none, some (.ro (k.map .u32)), some (.ro [.sl 4 0 b0.length 1 f0]), some (.ro (b0.map .u8)), some (.row 5 ((hash_n k h b0).map .u8))] := by
  obtain ⟨tx, htx⟩ : ∃ tx : Nat → List UInt8, tx = fun i => ([b0].take i).flatten := ⟨_, rfl⟩
  have tx0 : tx 0 = [] := by rw [htx]; rfl
  have tx1 : tx 1 = tx 0 ++ b0 := by rw [htx]; simp
  have htp : tx 1 = b0 := by rw [tx1, tx0]; rfl
  have he : hash_n k h b0 = hash_n k h (tx 1) := by rw [htp]
  rw [he]
  have hl0 : (tx 0).length = 0 := by rw [tx0]; rfl
  have hl1 : (tx 1).length = b0.length := by rw [tx1, List.length_append, hl0, Nat.zero_add]
  clear htx
  refine scall_of ttOk (by kernel_rfl : Try.prog.funcs[102]? = some Try.f102) rfl rfl rfl ?_
  try simp only [List.length_cons, List.length_nil, Nat.zero_add, Nat.reduceAdd]
  refine sw_ok ttOk mixed (by kernel_rfl) ?_
  conv => whnf
  repeat (first | (refine Exists.intro _ (And.intro rfl ?_); conv => whnf) | fail)
  refine SWp.weak (Weak.virt 6 5 1 rfl) ?_
  refine loop_rule ttOk mixed (by kernel_rfl) (ι := { x : Nat × List UInt8 × Nat // x.1 ≤ 1 ∧ x.2.2 ≤ x.2.1.length ∧ x.2.1.drop x.2.2 = rest_n (tx x.1) }) (fun x => [(0, .p 0 0), (5, .i 64), (6, .sl 5 x.1.2.2 (x.1.2.1.length - x.1.2.2) 1 false), (7, .u64 (UInt64.ofNat (tx x.1.1).length)), (21, .sl 3 0 1 1 fl), (22, .i 1), (23, .i (x.1.1 : Int))]) (fun x => [some (.ro (mach_n 1 2)), some (.row 23 ((st_n k h (tx x.1.1)).map .u32)), some (.ro (k.map .u32)), some (.ro [.sl 4 0 b0.length 1 f0]), some (.ro (b0.map .u8)), some (.row 5 (x.1.2.1.map .u8))]) (fun _ => 6) (fun x => 1 - x.1.1) ⟨(0, [], 0), by omega, by simp, by rw [tx0]; exact rest_nil_n.symm⟩ ?_ ?_
  · dsimp only
    rw [tx0, st_nil_n]
    refine Weak.sel [0, 1, 2, 3, 4, 5] rfl rfl ?_ ?_ rfl rfl
    · (repeat' (first | exact trivial | refine And.intro ?_ ?_ | fail)) <;> first | rfl | fail
    · (repeat' (first | exact trivial | refine And.intro ?_ ?_ | (refine wk_cons ?_ ?_))) <;> first | rfl | exact ren_eq (by first | (simp; done) | fail) (by first | rfl | fail) | fail
  · rintro ⟨⟨i, E, o⟩, hi, ho, hE⟩
    dsimp only at hi ho hE ⊢
    have hsl := st_len_n k hh (tx i)
    have hrl := rest_len_n (tx i)
    obtain ⟨S, hS⟩ : ∃ S, S = st_n k h (tx i) := ⟨_, rfl⟩
    rw [← hS] at hsl ⊢
    have hEl : E.length - o = (rest_n (tx i)).length := by rw [← hE, List.length_drop]
    by_cases hi2 : i < 1
    · obtain rfl : i = 0 := by omega
      have hq := feed_st_n k h (tx 0) b0
      have hq2 := feed_rest_n (tx 0) b0
      rw [← hS] at hq
      rw [← tx1] at hq hq2
      rw [← hE] at hq hq2 hEl
      have hap : (E.drop o ++ b0).map SV.u8 = List.take ((E.length - o) * 1) (List.drop o (E.map SV.u8)) ++ List.take (b0.length * 1) (List.drop 0 (b0.map SV.u8)) := (cat8 rfl rfl).symm
      have hDl : (E.drop o ++ b0).length = E.length - o + b0.length := by rw [List.length_append, List.length_drop]
      have hel : E.length - o < 64 := by rw [← List.length_drop, hE, hrl]; omega
      have hul : UInt64.ofNat (tx 0).length + u64i (b0.length : Int) = UInt64.ofNat (tx 1).length := by rw [u64_add_i _ _ (by omega), tx1, List.length_append]
      clear hS hrl
      conv => whnf
      first | refine brT (by rfl) ?_ | fail
      conv => whnf
      repeat (first | (refine Exists.intro _ (And.intro rfl ?_); conv => whnf) | (refine And.intro (by first | omega | (simp [ti5]; omega)) ?_; conv => whnf) | fail)
      obtain ⟨D, hD⟩ : ∃ D, D = E.drop o ++ b0 := ⟨_, rfl⟩
      rw [← hD] at hq hq2 hap hDl
      refine loop_rule ttOk mixed (by kernel_rfl) (ι := { j : Nat // 64 * j ≤ D.length }) (fun j => [(0, .p 0 0), (5, .i 64), (6, .sl 5 (64 * j.1) (D.length - 64 * j.1) 1 false), (7, .u64 (UInt64.ofNat (tx 1).length)), (21, .sl 3 0 1 1 fl), (22, .i 1), (23, .i 0)]) (fun j => [some (.ro (mach_n 1 2)), some (.row 23 ((blks_n k S D j.1).map .u32)), some (.ro (k.map .u32)), some (.ro [.sl 4 0 b0.length 1 f0]), some (.ro (b0.map .u8)), some (.row 5 (D.map .u8))]) (fun _ => 5 + 1) (fun j => D.length - 64 * j.1) ⟨0, by omega⟩ ?_ ?_
      · have hz := blks_z_n k S D
        have hDn : E.length - o + b0.length = D.length - 64 * 0 := by omega
        dsimp only
        rw [hz]
        refine Weak.sel [0, 1, 2, 3, 4, 6] rfl rfl ?_ ?_ rfl rfl
        · (repeat' (first | exact trivial | refine And.intro ?_ ?_ | fail)) <;> first | exact wk_u64 (by first | exact hul | exact hul.symm | fail) | rfl | exact wk_sl rfl (by first | rfl | fail) (by first | exact hDn.symm | fail) | fail
        · (repeat' (first | exact trivial | exact ren_eq (plainL_u8 _) hap | refine And.intro ?_ ?_ | (refine wk_cons ?_ ?_))) <;> first | rfl | exact ren_eq (by first | (simp; done) | fail) (by first | rfl | fail) | fail
      · rintro ⟨j, hj⟩
        dsimp only
        have hbl := blks_len_n k hsl D j
        by_cases hc : 64 * (j + 1) ≤ D.length
        · have hge : decide (((D.length - 64 * j : Nat) : Int) ≥ 64) = true := by simp; omega
          have hs := blks_s_n k S D j
          have q139 := f139D (blks_n k S D j) k D (64 * j) hbl hk (by omega) false
          rw [← hs] at q139
          conv => whnf
          first | refine brT (by exact hge) ?_ | fail
          conv => whnf
          repeat (first | (refine Exists.intro _ (And.intro rfl ?_); conv => whnf) | (refine And.intro (by first | omega | fail) ?_; conv => whnf) | fail)
          refine ok1_callF [0, 1, 2, 5] [false, true, false, false] true (q139) rfl rfl ⟨⟨rfl, by first | rfl | fail⟩, by (repeat' (first | exact trivial | refine And.intro ?_ ?_)) <;> first | rfl | exact ren_eq (by first | (simp; done) | fail) (by first | rfl | fail) | fail, by first | simp [plainHf, plainB], by first | rfl | fail, ?_⟩
          conv => whnf
          repeat (first | (refine Exists.intro _ (And.intro rfl ?_); conv => whnf) | (refine And.intro (by first | omega | fail) ?_; conv => whnf) | fail)
          refine ⟨⟨j + 1, hc⟩, by simp only; omega, ?_⟩
          dsimp only
          refine Weak.sel [0, 1, 2, 3, 4, 5] rfl rfl ?_ ?_ rfl rfl
          · (repeat' (first | exact trivial | refine And.intro ?_ ?_ | fail)) <;> first | rfl | fail
          · (repeat' (first | exact trivial | refine And.intro ?_ ?_ | (refine wk_cons ?_ ?_))) <;> first | rfl | exact ren_eq (by first | (simp; done) | fail) (by first | rfl | fail) | fail
        · obtain rfl : j = D.length / 64 := by omega
          have hge : decide (((D.length - 64 * (D.length / 64) : Nat) : Int) ≥ 64) = false := by simp; omega
          rw [hq]
          conv => whnf
          first | refine brF (by exact hge) ?_ | fail
          conv => whnf
          repeat (fail)
          refine ⟨⟨(1, D, 64 * (D.length / 64)), by omega, by simp only; omega, hq2⟩, by simp only; omega, ?_⟩
          dsimp only
          refine Weak.sel [0, 1, 2, 3, 4, 5] rfl rfl ?_ ?_ rfl rfl
          · (repeat' (first | exact trivial | refine And.intro ?_ ?_ | fail)) <;> first | rfl | fail
          · (repeat' (first | exact trivial | refine And.intro ?_ ?_ | (refine wk_cons ?_ ?_))) <;> first | rfl | exact ren_eq (by first | (simp; done) | fail) (by first | rfl | fail) | fail
    · obtain rfl : i = 1 := by omega
      obtain ⟨n, hn⟩ : ∃ n, n = E.length - o := ⟨_, rfl⟩
      have hnE : o + n = E.length := by omega
      rw [← hn]
      have hcat : (rest_n (tx 1) ++ [128]).map SV.u8 = List.take (n * 1) (List.drop o (E.map SV.u8)) ++ List.take (1 * 1) (List.drop 0 [SV.u8 128]) := by rw [← hE]; exact (cat8 (b := [128]) hn rfl).symm
      have hdd : decide (((n : Nat) : Int).toNat = ((n : Nat) : Int).toNat) = true := by simp
      conv => whnf
      first | refine brF (by rfl) ?_ | fail
      conv => whnf
      repeat (first | (refine Exists.intro _ (And.intro rfl ?_); conv => whnf) | (refine And.intro (by first | omega | fail) ?_; conv => whnf) | fail)
      rw [hdd]
      rw [Int.toNat_natCast]
      have hnl : n = (rest_n (tx 1)).length := by rw [hn, ← hE, List.length_drop]
      have hn64 : n < 64 := by rw [hnl, hrl]; omega
      have hpz := pz_rest_n (tx 1)
      rw [← hnl] at hpz
      have hpl : pz_n n < 64 := by unfold pz_n; exact Nat.mod_lt _ (by decide)
      conv => whnf
      refine And.intro ⟨by show _ ≤ (E.map SV.u8).length; rw [List.length_map]; omega, by decide, by show _ * 1 ≤ _; omega, by decide⟩ ?_
      conv => whnf
      repeat (fail)
      refine loop_rule ttOk mixed (by kernel_rfl) (ι := { j : Nat // j ≤ pz_n n }) (fun j => [(0, .p 0 0), (5, .i 64), (6, .sl 5 0 (n + 1 + j.1) 1 false), (7, .u64 (UInt64.ofNat (tx 1).length))]) (fun j => [some (.ro (mach_n 1 2)), some (.row 23 (S.map .u32)), some (.ro (k.map .u32)), some (.ro [.sl 4 0 b0.length 1 f0]), some (.ro (b0.map .u8)), some (.row 5 ((rest_n (tx 1) ++ [128] ++ List.replicate j.1 0).map .u8))]) (fun _ => 5 + 1) (fun j => pz_n n - j.1) ⟨0, by omega⟩ ?_ ?_
      · have hz : rest_n (tx 1) ++ [128] ++ List.replicate 0 0 = rest_n (tx 1) ++ [128] := List.append_nil _
        dsimp only
        rw [hz]
        refine Weak.sel [0, 1, 2, 3, 4, 5 + 2] rfl rfl ?_ ?_ rfl rfl
        · (repeat' (first | exact trivial | refine And.intro ?_ ?_ | fail)) <;> first | rfl | fail
        · (repeat' (first | exact trivial | exact ren_eq (plainL_u8 _) hcat | refine And.intro ?_ ?_ | (refine wk_cons ?_ ?_))) <;> first | rfl | exact ren_eq (by first | (simp; done) | fail) (by first | rfl | fail) | fail
      · rintro ⟨j, hj⟩
        dsimp only
        obtain ⟨Y, hY⟩ : ∃ Y, Y = rest_n (tx 1) ++ [128] ++ List.replicate j 0 := ⟨_, rfl⟩
        have hYl : Y.length = n + 1 + j := by rw [hY, List.length_append, List.length_append, ← hnl, List.length_replicate]; rfl
        have hYs : rest_n (tx 1) ++ [128] ++ List.replicate (j + 1) 0 = Y ++ [0] := by rw [hY, List.replicate_succ', List.append_assoc]; simp
        by_cases hj2 : j < pz_n n
        · have hno := padz_no_n hj2
          have hcd : (((w64 (((n + 1 + j : Nat) : Int) + w64 (2 * 4))).tmod 64) != 0) = true := by
            have e : w64 (((n + 1 + j : Nat) : Int) + w64 (2 * 4)) = ((n + 1 + j + 8 : Nat) : Int) := by simp only [w64_eq]; omega
            rw [e, show (((n + 1 + j + 8 : Nat) : Int)).tmod 64 = (((n + 1 + j + 8) % 64 : Nat) : Int) from rfl]
            simp; omega
          rw [← hY]
          conv => whnf
          repeat (first | (refine Exists.intro _ (And.intro rfl ?_); conv => whnf) | fail)
          first | refine brT (by exact hcd) ?_ | fail
          conv => whnf
          repeat (first | (refine Exists.intro _ (And.intro rfl ?_); conv => whnf) | (refine And.intro (by first | omega | (simp [ti5]; omega)) ?_; conv => whnf) | fail)
          have hap2 : (Y ++ [0]).map SV.u8 = List.take ((n + 1 + j) * 1) (List.drop 0 (Y.map SV.u8)) ++ List.take (1 * 1) (List.drop 0 [SV.u8 0]) := (cat8 (o := 0) (n := n + 1 + j) (E := Y) (b := [0]) (by omega) rfl).symm
          refine ⟨⟨j + 1, by omega⟩, by simp only; omega, ?_⟩
          dsimp only
          rw [hYs]
          refine Weak.sel [0, 1, 2, 3, 4, 5 + 2] rfl rfl ?_ ?_ rfl rfl
          · (repeat' (first | exact trivial | refine And.intro ?_ ?_ | fail)) <;> first | rfl | fail
          · (repeat' (first | exact trivial | exact ren_eq (plainL_u8 _) hap2 | refine And.intro ?_ ?_ | (refine wk_cons ?_ ?_))) <;> first | rfl | exact ren_eq (by first | (simp; done) | fail) (by first | rfl | fail) | fail
        · obtain rfl : j = pz_n n := by omega
          have hyes := padz_yes_n n
          have hcd : (((w64 (((n + 1 + pz_n n : Nat) : Int) + w64 (2 * 4))).tmod 64) != 0) = false := by
            have e : w64 (((n + 1 + pz_n n : Nat) : Int) + w64 (2 * 4)) = ((n + 1 + pz_n n + 8 : Nat) : Int) := by simp only [w64_eq]; omega
            rw [e, show (((n + 1 + pz_n n + 8 : Nat) : Int)).tmod 64 = (((n + 1 + pz_n n + 8) % 64 : Nat) : Int) from rfl, hyes]
            rfl
          rw [← hY]
          conv => whnf
          repeat (first | (refine Exists.intro _ (And.intro rfl ?_); conv => whnf) | fail)
          first | refine brF (by exact hcd) ?_ | fail
          conv => whnf
          repeat (first | (refine Exists.intro _ (And.intro rfl ?_); conv => whnf) | (refine And.intro ⟨by first | decide | fail, by first | decide | fail⟩ ?_; conv => whnf) | fail)
          obtain ⟨N, hN⟩ : ∃ N, N = (tx 1).length := ⟨_, rfl⟩
          rw [← hN]
          refine loop_rule ttOk mixed (by kernel_rfl) (ι := { i : Nat // i ≤ 8 }) (fun i => [(0, .p 0 0), (5, .i 64), (6, .sl 5 0 (n + 1 + pz_n n) 1 false), (7, .u64 (UInt64.ofNat N)), (10, .sl (5 + 1) 0 8 1 true), (76, .i (i.1 : Int))]) (fun i => [some (.ro (mach_n 1 2)), some (.row 23 (S.map .u32)), some (.ro (k.map .u32)), some (.ro [.sl 4 0 b0.length 1 f0]), some (.ro (b0.map .u8)), some (.row 5 (Y.map .u8)), some (.row 5 ((lset_n N i.1).map .u8))]) (fun _ => 5 + 2) (fun i => 8 - i.1) ⟨0, by omega⟩ ?_ ?_
          · have hz := lset_z_n N
            dsimp only
            rw [hz]
            refine Weak.sel [0, 1, 2, 3, 4, 5, 5 + 1] rfl rfl ?_ ?_ rfl rfl
            · (repeat' (first | exact trivial | refine And.intro ?_ ?_ | fail)) <;> first | rfl | fail
            · (repeat' (first | exact trivial | exact ren_z8 | refine And.intro ?_ ?_ | (refine wk_cons ?_ ?_))) <;> first | rfl | exact ren_eq (by first | (simp; done) | fail) (by first | rfl | fail) | fail
          · rintro ⟨i, hi⟩
            dsimp only
            have hll := lset_len_n N i
            by_cases hi8 : i < 8
            · have hlt : decide ((i : Int) < 8) = true := by simp; omega
              have hp := wp1i i (by omega)
              have h8 : w64 (8 * (i : Int)) = ((8 * i : Nat) : Int) := by simp only [w64_eq]; omega
              have h7 : w64 (w64 (8 - 1) - (i : Int)) = ((7 - i : Nat) : Int) := by simp only [w64_eq]; omega
              have hs := lset_s_n N i
              conv => whnf
              first | refine brT (by exact hlt) ?_ | fail
              conv => whnf
              repeat (fail)
              refine ⟨_, mshr_64 h8, ?_⟩
              conv => whnf
              repeat (first | (refine Exists.intro _ (And.intro (sput_m8 (i := 7 - i) (by first | rfl | omega | fail)) ?_); conv => whnf) | (refine Exists.intro _ (And.intro (idx_i (m := 7 - i) (by first | rfl | omega | fail)) ?_); conv => whnf) | (refine And.intro (by first | omega | (simp; omega) | fail) ?_; conv => whnf) | fail)
              refine ⟨⟨i + 1, by omega⟩, by simp only; omega, ?_⟩
              dsimp only
              rw [hs]
              refine Weak.sel [0, 1, 2, 3, 4, 5, 5 + 1] rfl rfl ?_ ?_ rfl rfl
              · (repeat' (first | exact trivial | refine And.intro ?_ ?_ | fail)) <;> first | exact wk_i (by first | exact hp | exact hp.symm | fail) | rfl | fail
              · (repeat' (first | exact trivial | refine And.intro ?_ ?_ | (refine wk_cons ?_ ?_))) <;> first | rfl | exact ren_eq (by first | (simp; done) | fail) (by first | rfl | fail) | exact ren_m8 (by first | rfl | fail) | fail
            · obtain rfl : i = 8 := by omega
              have hap3 : (Y ++ lset_n N 8).map SV.u8 = List.take ((n + 1 + pz_n n) * 1) (List.drop 0 (Y.map SV.u8)) ++ List.take (8 * 1) (List.drop 0 ((lset_n N 8).map SV.u8)) := (cat8 (o := 0) (n := n + 1 + pz_n n) (E := Y) (b := lset_n N 8) (by omega) hll.symm).symm
              obtain ⟨D, hD⟩ : ∃ D, D = Y ++ lset_n N 8 := ⟨_, rfl⟩
              have hDl : D.length = n + 1 + pz_n n + 8 := by rw [hD, List.length_append, hYl, hll]
              have hDe : D = last_n (tx 1) := by rw [hD, hY, hpz, hN]; exact last_e_n _
              have hD64 := last_len_n (tx 1)
              have hfin := last_st_n k h (tx 1)
              rw [← hDe] at hD64 hfin
              rw [← hS] at hfin
              rw [← hD] at hap3
              conv => whnf
              first | refine brF (by rfl) ?_ | fail
              conv => whnf
              repeat (first | (refine And.intro (by first | omega | (simp [ti5]; omega)) ?_; conv => whnf) | fail)
              refine loop_rule ttOk mixed (by kernel_rfl) (ι := { j : Nat // 64 * j ≤ D.length }) (fun j => [(0, .p 0 0), (5, .i 64), (6, .sl 5 (64 * j.1) (D.length - 64 * j.1) 1 false)]) (fun j => [some (.ro (mach_n 1 2)), some (.row 23 ((blks_n k S D j.1).map .u32)), some (.ro (k.map .u32)), some (.ro [.sl 4 0 b0.length 1 f0]), some (.ro (b0.map .u8)), some (.row 5 (D.map .u8))]) (fun _ => 5 + 1) (fun j => D.length - 64 * j.1) ⟨0, by omega⟩ ?_ ?_
              · have hz := blks_z_n k S D
                have hDn : n + 1 + pz_n n + 8 = D.length - 64 * 0 := by omega
                dsimp only
                rw [hz]
                refine Weak.sel [0, 1, 2, 3, 4, 5 + 2] rfl rfl ?_ ?_ rfl rfl
                · (repeat' (first | exact trivial | refine And.intro ?_ ?_ | fail)) <;> first | rfl | exact wk_sl rfl (by first | rfl | fail) (by first | exact hDn.symm | fail) | fail
                · (repeat' (first | exact trivial | exact ren_eq (plainL_u8 _) hap3 | refine And.intro ?_ ?_ | (refine wk_cons ?_ ?_))) <;> first | rfl | exact ren_eq (by first | (simp; done) | fail) (by first | rfl | fail) | fail
              · rintro ⟨j, hj⟩
                dsimp only
                have hbl := blks_len_n k hsl D j
                by_cases hc : 64 * (j + 1) ≤ D.length
                · have hge : decide (((D.length - 64 * j : Nat) : Int) > 0) = true := by simp; omega
                  have hs := blks_s_n k S D j
                  have q139 := f139D (blks_n k S D j) k D (64 * j) hbl hk (by omega) false
                  rw [← hs] at q139
                  conv => whnf
                  first | refine brT (by exact hge) ?_ | fail
                  conv => whnf
                  repeat (first | (refine Exists.intro _ (And.intro rfl ?_); conv => whnf) | (refine And.intro (by first | omega | fail) ?_; conv => whnf) | fail)
                  refine ok1_callF [0, 1, 2, 5] [false, true, false, false] true (q139) rfl rfl ⟨⟨rfl, by first | rfl | fail⟩, by (repeat' (first | exact trivial | refine And.intro ?_ ?_)) <;> first | rfl | exact ren_eq (by first | (simp; done) | fail) (by first | rfl | fail) | fail, by first | simp [plainHf, plainB], by first | rfl | fail, ?_⟩
                  conv => whnf
                  repeat (first | (refine Exists.intro _ (And.intro rfl ?_); conv => whnf) | (refine And.intro (by first | omega | fail) ?_; conv => whnf) | fail)
                  refine ⟨⟨j + 1, hc⟩, by simp only; omega, ?_⟩
                  dsimp only
                  refine Weak.sel [0, 1, 2, 3, 4, 5] rfl rfl ?_ ?_ rfl rfl
                  · (repeat' (first | exact trivial | refine And.intro ?_ ?_ | fail)) <;> first | rfl | fail
                  · (repeat' (first | exact trivial | refine And.intro ?_ ?_ | (refine wk_cons ?_ ?_))) <;> first | rfl | exact ren_eq (by first | (simp; done) | fail) (by first | rfl | fail) | fail
                · obtain rfl : j = D.length / 64 := by omega
                  have hge : decide (((D.length - 64 * (D.length / 64) : Nat) : Int) > 0) = false := by simp; omega
                  obtain ⟨H, hH⟩ : ∃ H, H = blks_n k S D (D.length / 64) := ⟨_, rfl⟩
                  rw [← hH] at hbl hfin ⊢
                  conv => whnf
                  first | refine brF (by exact hge) ?_ | fail
                  conv => whnf
                  repeat (first | (refine Exists.intro _ (And.intro rfl ?_); conv => whnf) | fail)
                  refine SWp.weak (Weak.virt 12 5 1 rfl) ?_
                  refine loop_rule ttOk mixed (by kernel_rfl) (ι := { i : Nat // i ≤ 8 }) (fun i => [(0, .p 0 0), (12, .sl 5 0 (4 * i.1) 1 false), (110, .sl 1 0 8 1 false), (111, .i 8), (112, .i (i.1 : Int))]) (fun i => [some (.ro (mach_n 1 2)), some (.row 23 (H.map .u32)), some (.ro (k.map .u32)), some (.ro [.sl 4 0 b0.length 1 f0]), some (.ro (b0.map .u8)), some (.row 5 ((outl_n H (4 * i.1)).map .u8))]) (fun _ => 5 + 1) (fun i => 8 - i.1) ⟨0, by omega⟩ ?_ ?_
                  · have hz := outl_z_n H
                    dsimp only
                    rw [hz]
                    refine Weak.sel [0, 1, 2, 3, 4, 5 + 1] rfl rfl ?_ ?_ rfl rfl
                    · (repeat' (first | exact trivial | refine And.intro ?_ ?_ | fail)) <;> first | rfl | fail
                    · (repeat' (first | exact trivial | refine And.intro ?_ ?_ | (refine wk_cons ?_ ?_))) <;> first | rfl | exact ren_eq (by first | (simp; done) | fail) (by first | rfl | fail) | fail
                  · rintro ⟨i, hi⟩
                    dsimp only
                    by_cases hi8 : i < 8
                    · have hlt : decide ((i : Int) < 8) = true := by simp; omega
                      have hp := wp1i i (by omega)
                      conv => whnf
                      first | refine brT (by exact hlt) ?_ | fail
                      conv => whnf
                      repeat (first | (refine Exists.intro _ (And.intro (sload_u32 (i := i) (by first | rfl | omega | fail) (by first | omega | fail)) ?_); conv => whnf) | (refine Exists.intro _ (And.intro (idx_i (m := i) (by first | rfl | fail)) ?_); conv => whnf) | (refine Exists.intro _ (And.intro rfl ?_); conv => whnf) | (refine And.intro (by first | omega | fail) ?_; conv => whnf) | fail)
                      refine loop_rule ttOk mixed (by kernel_rfl) (ι := { m : Nat // m ≤ 4 }) (fun m => [(0, .p 0 0), (12, .sl 5 0 (4 * i + m.1) 1 false), (14, .u32 (H.getD i 0)), (15, .i (3 - (m.1 : Int))), (110, .sl 1 0 8 1 false), (111, .i 8), (112, .i (i : Int))]) (fun m => [some (.ro (mach_n 1 2)), some (.row 23 (H.map .u32)), some (.ro (k.map .u32)), some (.ro [.sl 4 0 b0.length 1 f0]), some (.ro (b0.map .u8)), some (.row 5 ((outl_n H (4 * i + m.1)).map .u8))]) (fun _ => 5 + 1) (fun m => 4 - m.1) ⟨0, by omega⟩ ?_ ?_
                      · refine Weak.sel [0, 1, 2, 3, 4, 5] rfl rfl ?_ ?_ rfl rfl
                        · (repeat' (first | exact trivial | refine And.intro ?_ ?_ | fail)) <;> first | rfl | fail
                        · (repeat' (first | exact trivial | refine And.intro ?_ ?_ | (refine wk_cons ?_ ?_))) <;> first | rfl | exact ren_eq (by first | (simp; done) | fail) (by first | rfl | fail) | fail
                      · rintro ⟨m, hm⟩
                        dsimp only
                        have hol := outl_len_n H (4 * i + m)
                        by_cases hm4 : m < 4
                        · have hge : decide ((3 - (m : Int)) ≥ 0) = true := by simp; omega
                          have h8 : w64 (8 * (3 - (m : Int))) = ((8 * (3 - m) : Nat) : Int) := by simp only [w64_eq]; omega
                          have hp2 : w64 (3 - (m : Int) - 1) = 3 - ((m + 1 : Nat) : Int) := by simp only [w64_eq]; omega
                          have hs := outl_s_n H i m hm4
                          obtain ⟨Z, hZ⟩ : ∃ Z, Z = outl_n H (4 * i + m) := ⟨_, rfl⟩
                          rw [← hZ] at hol hs ⊢
                          have hap4 : (Z ++ [(shr32 (H.getD i 0) (8 * (3 - m))).toUInt8]).map SV.u8 = List.take ((4 * i + m) * 1) (List.drop 0 (Z.map SV.u8)) ++ List.take (1 * 1) (List.drop 0 [SV.u8 (shr32 (H.getD i 0) (8 * (3 - m))).toUInt8]) := (cat8 (o := 0) (n := 4 * i + m) (E := Z) (b := [(shr32 (H.getD i 0) (8 * (3 - m))).toUInt8]) (by omega) rfl).symm
                          conv => whnf
                          first | refine brT (by exact hge) ?_ | fail
                          conv => whnf
                          repeat (fail)
                          refine ⟨_, mshr_32 h8, ?_⟩
                          conv => whnf
                          repeat (first | (refine Exists.intro _ (And.intro rfl ?_); conv => whnf) | (refine And.intro (by first | omega | (simp [ti5]; omega)) ?_; conv => whnf) | fail)
                          refine ⟨⟨m + 1, by omega⟩, by simp only; omega, ?_⟩
                          dsimp only
                          rw [hs]
                          refine Weak.sel [0, 1, 2, 3, 4, 5 + 2] rfl rfl ?_ ?_ rfl rfl
                          · (repeat' (first | exact trivial | refine And.intro ?_ ?_ | fail)) <;> first | exact wk_i (by first | exact hp2 | exact hp2.symm | fail) | rfl | fail
                          · (repeat' (first | exact trivial | exact ren_eq (plainL_u8 _) hap4 | refine And.intro ?_ ?_ | (refine wk_cons ?_ ?_))) <;> first | rfl | exact ren_eq (by first | (simp; done) | fail) (by first | rfl | fail) | fail
                        · obtain rfl : m = 4 := by omega
                          conv => whnf
                          first | refine brF (by rfl) ?_ | fail
                          conv => whnf
                          repeat (fail)
                          refine ⟨⟨i + 1, by omega⟩, by simp only; omega, ?_⟩
                          dsimp only
                          rw [show 4 * (i + 1) = 4 * i + 4 by omega]
                          refine Weak.sel [0, 1, 2, 3, 4, 5] rfl rfl ?_ ?_ rfl rfl
                          · (repeat' (first | exact trivial | refine And.intro ?_ ?_ | fail)) <;> first | exact wk_i (by first | exact hp | exact hp.symm | fail) | rfl | fail
                          · (repeat' (first | exact trivial | refine And.intro ?_ ?_ | (refine wk_cons ?_ ?_))) <;> first | rfl | exact ren_eq (by first | (simp; done) | fail) (by first | rfl | fail) | fail
                    · obtain rfl : i = 8 := by omega
                      rw [outb_e_n] at hfin
                      rw [← hfin]
                      conv => whnf
                      first | refine brF (by rfl) ?_ | fail
                      conv => whnf
                      refine ⟨[0, 1, 2, 3, 4, 5], ?_, rfl, rfl, ?_, rfl⟩
                      · (repeat' (fail)) <;> first | rfl | fail
                      · (repeat' (first | exact trivial | refine And.intro ?_ ?_ | (refine wk_cons ?_ ?_))) <;> first | rfl | exact ren_eq (by first | (simp; done) | fail) (by first | rfl | fail) | fail
end Go.Sh
/- sha: the narrow machine's sum (f102), walked, of texts in parts. -/
namespace Go.Sh
open Go.Proofs
set_option maxHeartbeats 4000000
set_option linter.unusedSimpArgs false
set_option linter.unusedVariables false

attribute [local irreducible] comp_n
attribute [local irreducible] blks_n st_n rest_n hash_n pz_n outl_n outb_n lset_n last_n
theorem f102_bbb (h k : List UInt32) (hh : h.length = 8) (hk : k.length = 64) (b0 b1 b2 : List UInt8) (hb0 : b0.length < 100000000000000) (hb1 : b1.length < 100000000000000) (hb2 : b2.length < 100000000000000) (f0 f1 f2 fl : Bool) : SCall Try.prog 102 [.p 0 0, .sl 3 0 3 1 fl] [some (.ro (mach_n 1 2)), some (.row 23 (h.map .u32)), some (.ro (k.map .u32)), some (.ro [.sl 4 0 b0.length 1 f0, .sl 5 0 b1.length 1 f1, .sl 6 0 b2.length 1 f2]), some (.ro (b0.map .u8)), some (.ro (b1.map .u8)), some (.ro (b2.map .u8))] (.sl 7 0 32 1 false) [some (.ro (mach_n 1 2)), none, some (.ro (k.map .u32)), some (.ro [.sl 4 0 b0.length 1 f0, .sl 5 0 b1.length 1 f1, .sl 6 0 b2.length 1 f2]), some (.ro (b0.map .u8)), some (.ro (b1.map .u8)), some (.ro (b2.map .u8)), some (.row 5 ((hash_n k h (b0 ++ b1 ++ b2)).map .u8))] := by
  obtain ⟨tx, htx⟩ : ∃ tx : Nat → List UInt8, tx = fun i => ([b0, b1, b2].take i).flatten := ⟨_, rfl⟩
  have tx0 : tx 0 = [] := by rw [htx]; rfl
  have tx1 : tx 1 = tx 0 ++ b0 := by rw [htx]; simp
  have tx2 : tx 2 = tx 1 ++ b1 := by rw [htx]; simp
  have tx3 : tx 3 = tx 2 ++ b2 := by rw [htx]; simp
  have htp : tx 3 = b0 ++ b1 ++ b2 := by rw [htx]; simp
  have he : hash_n k h (b0 ++ b1 ++ b2) = hash_n k h (tx 3) := by rw [htp]
  rw [he]
  have hl0 : (tx 0).length = 0 := by rw [tx0]; rfl
  have hl1 : (tx 1).length = (tx 0).length + b0.length := by rw [tx1, List.length_append]
  have hl2 : (tx 2).length = (tx 1).length + b1.length := by rw [tx2, List.length_append]
  have hl3 : (tx 3).length = (tx 2).length + b2.length := by rw [tx3, List.length_append]
  clear htx
  refine scall_of ttOk (by kernel_rfl : Try.prog.funcs[102]? = some Try.f102) rfl rfl rfl ?_
  try simp only [List.length_cons, List.length_nil, Nat.zero_add, Nat.reduceAdd]
  refine sw_ok ttOk mixed (by kernel_rfl) ?_
  conv => whnf
  repeat (first | (refine Exists.intro _ (And.intro rfl ?_); conv => whnf) | fail)
  refine SWp.weak (Weak.virt 6 5 1 rfl) ?_
  refine loop_rule ttOk mixed (by kernel_rfl) (ι := { x : Nat × List UInt8 × Nat // x.1 ≤ 3 ∧ x.2.2 ≤ x.2.1.length ∧ x.2.1.drop x.2.2 = rest_n (tx x.1) }) (fun x => [(0, .p 0 0), (5, .i 64), (6, .sl 7 x.1.2.2 (x.1.2.1.length - x.1.2.2) 1 false), (7, .u64 (UInt64.ofNat (tx x.1.1).length)), (21, .sl 3 0 3 1 fl), (22, .i 3), (23, .i (x.1.1 : Int))]) (fun x => [some (.ro (mach_n 1 2)), some (.row 23 ((st_n k h (tx x.1.1)).map .u32)), some (.ro (k.map .u32)), some (.ro [.sl 4 0 b0.length 1 f0, .sl 5 0 b1.length 1 f1, .sl 6 0 b2.length 1 f2]), some (.ro (b0.map .u8)), some (.ro (b1.map .u8)), some (.ro (b2.map .u8)), some (.row 5 (x.1.2.1.map .u8))]) (fun _ => 8) (fun x => 3 - x.1.1) ⟨(0, [], 0), by omega, by simp, by rw [tx0]; exact rest_nil_n.symm⟩ ?_ ?_
  · dsimp only
    rw [tx0, st_nil_n]
    refine Weak.sel [0, 1, 2, 3, 4, 5, 6, 7] rfl rfl ?_ ?_ rfl rfl
    · (repeat' (first | exact trivial | refine And.intro ?_ ?_ | fail)) <;> first | rfl | fail
    · (repeat' (first | exact trivial | refine And.intro ?_ ?_ | (refine wk_cons ?_ ?_))) <;> first | rfl | exact ren_eq (by first | (simp; done) | fail) (by first | rfl | fail) | fail
  · rintro ⟨⟨i, E, o⟩, hi, ho, hE⟩
    dsimp only at hi ho hE ⊢
    have hsl := st_len_n k hh (tx i)
    have hrl := rest_len_n (tx i)
    obtain ⟨S, hS⟩ : ∃ S, S = st_n k h (tx i) := ⟨_, rfl⟩
    rw [← hS] at hsl ⊢
    have hEl : E.length - o = (rest_n (tx i)).length := by rw [← hE, List.length_drop]
    by_cases hi2 : i < 3
    · have hic : i = 0 ∨ i = 1 ∨ i = 2 := by omega
      rcases hic with rfl | rfl | rfl
      ·
        have hq := feed_st_n k h (tx 0) b0
        have hq2 := feed_rest_n (tx 0) b0
        rw [← hS] at hq
        rw [← tx1] at hq hq2
        rw [← hE] at hq hq2 hEl
        have hap : (E.drop o ++ b0).map SV.u8 = List.take ((E.length - o) * 1) (List.drop o (E.map SV.u8)) ++ List.take (b0.length * 1) (List.drop 0 (b0.map SV.u8)) := (cat8 rfl rfl).symm
        have hDl : (E.drop o ++ b0).length = E.length - o + b0.length := by rw [List.length_append, List.length_drop]
        have hel : E.length - o < 64 := by rw [← List.length_drop, hE, hrl]; omega
        have hul : UInt64.ofNat (tx 0).length + u64i (b0.length : Int) = UInt64.ofNat (tx 1).length := by rw [u64_add_i _ _ (by omega), tx1, List.length_append]
        clear hS hrl
        conv => whnf
        first | refine brT (by rfl) ?_ | fail
        conv => whnf
        repeat (first | (refine Exists.intro _ (And.intro rfl ?_); conv => whnf) | (refine And.intro (by first | omega | (simp [ti5]; omega)) ?_; conv => whnf) | fail)
        obtain ⟨D, hD⟩ : ∃ D, D = E.drop o ++ b0 := ⟨_, rfl⟩
        rw [← hD] at hq hq2 hap hDl
        refine loop_rule ttOk mixed (by kernel_rfl) (ι := { j : Nat // 64 * j ≤ D.length }) (fun j => [(0, .p 0 0), (5, .i 64), (6, .sl 7 (64 * j.1) (D.length - 64 * j.1) 1 false), (7, .u64 (UInt64.ofNat (tx 1).length)), (21, .sl 3 0 3 1 fl), (22, .i 3), (23, .i 0)]) (fun j => [some (.ro (mach_n 1 2)), some (.row 23 ((blks_n k S D j.1).map .u32)), some (.ro (k.map .u32)), some (.ro [.sl 4 0 b0.length 1 f0, .sl 5 0 b1.length 1 f1, .sl 6 0 b2.length 1 f2]), some (.ro (b0.map .u8)), some (.ro (b1.map .u8)), some (.ro (b2.map .u8)), some (.row 5 (D.map .u8))]) (fun _ => 7 + 1) (fun j => D.length - 64 * j.1) ⟨0, by omega⟩ ?_ ?_
        · have hz := blks_z_n k S D
          have hDn : E.length - o + b0.length = D.length - 64 * 0 := by omega
          dsimp only
          rw [hz]
          refine Weak.sel [0, 1, 2, 3, 4, 5, 6, 8] rfl rfl ?_ ?_ rfl rfl
          · (repeat' (first | exact trivial | refine And.intro ?_ ?_ | fail)) <;> first | exact wk_u64 (by first | exact hul | exact hul.symm | fail) | rfl | exact wk_sl rfl (by first | rfl | fail) (by first | exact hDn.symm | fail) | fail
          · (repeat' (first | exact trivial | exact ren_eq (plainL_u8 _) hap | refine And.intro ?_ ?_ | (refine wk_cons ?_ ?_))) <;> first | rfl | exact ren_eq (by first | (simp; done) | fail) (by first | rfl | fail) | fail
        · rintro ⟨j, hj⟩
          dsimp only
          have hbl := blks_len_n k hsl D j
          by_cases hc : 64 * (j + 1) ≤ D.length
          · have hge : decide (((D.length - 64 * j : Nat) : Int) ≥ 64) = true := by simp; omega
            have hs := blks_s_n k S D j
            have q139 := f139D (blks_n k S D j) k D (64 * j) hbl hk (by omega) false
            rw [← hs] at q139
            conv => whnf
            first | refine brT (by exact hge) ?_ | fail
            conv => whnf
            repeat (first | (refine Exists.intro _ (And.intro rfl ?_); conv => whnf) | (refine And.intro (by first | omega | fail) ?_; conv => whnf) | fail)
            refine ok1_callF [0, 1, 2, 7] [false, true, false, false] true (q139) rfl rfl ⟨⟨rfl, by first | rfl | fail⟩, by (repeat' (first | exact trivial | refine And.intro ?_ ?_)) <;> first | rfl | exact ren_eq (by first | (simp; done) | fail) (by first | rfl | fail) | fail, by first | simp [plainHf, plainB], by first | rfl | fail, ?_⟩
            conv => whnf
            repeat (first | (refine Exists.intro _ (And.intro rfl ?_); conv => whnf) | (refine And.intro (by first | omega | fail) ?_; conv => whnf) | fail)
            refine ⟨⟨j + 1, hc⟩, by simp only; omega, ?_⟩
            dsimp only
            refine Weak.sel [0, 1, 2, 3, 4, 5, 6, 7] rfl rfl ?_ ?_ rfl rfl
            · (repeat' (first | exact trivial | refine And.intro ?_ ?_ | fail)) <;> first | rfl | fail
            · (repeat' (first | exact trivial | refine And.intro ?_ ?_ | (refine wk_cons ?_ ?_))) <;> first | rfl | exact ren_eq (by first | (simp; done) | fail) (by first | rfl | fail) | fail
          · obtain rfl : j = D.length / 64 := by omega
            have hge : decide (((D.length - 64 * (D.length / 64) : Nat) : Int) ≥ 64) = false := by simp; omega
            rw [hq]
            conv => whnf
            first | refine brF (by exact hge) ?_ | fail
            conv => whnf
            repeat (fail)
            refine ⟨⟨(1, D, 64 * (D.length / 64)), by omega, by simp only; omega, hq2⟩, by simp only; omega, ?_⟩
            dsimp only
            refine Weak.sel [0, 1, 2, 3, 4, 5, 6, 7] rfl rfl ?_ ?_ rfl rfl
            · (repeat' (first | exact trivial | refine And.intro ?_ ?_ | fail)) <;> first | rfl | fail
            · (repeat' (first | exact trivial | refine And.intro ?_ ?_ | (refine wk_cons ?_ ?_))) <;> first | rfl | exact ren_eq (by first | (simp; done) | fail) (by first | rfl | fail) | fail
      ·
        have hq := feed_st_n k h (tx 1) b1
        have hq2 := feed_rest_n (tx 1) b1
        rw [← hS] at hq
        rw [← tx2] at hq hq2
        rw [← hE] at hq hq2 hEl
        have hap : (E.drop o ++ b1).map SV.u8 = List.take ((E.length - o) * 1) (List.drop o (E.map SV.u8)) ++ List.take (b1.length * 1) (List.drop 0 (b1.map SV.u8)) := (cat8 rfl rfl).symm
        have hDl : (E.drop o ++ b1).length = E.length - o + b1.length := by rw [List.length_append, List.length_drop]
        have hel : E.length - o < 64 := by rw [← List.length_drop, hE, hrl]; omega
        have hul : UInt64.ofNat (tx 1).length + u64i (b1.length : Int) = UInt64.ofNat (tx 2).length := by rw [u64_add_i _ _ (by omega), tx2, List.length_append]
        clear hS hrl
        conv => whnf
        first | refine brT (by rfl) ?_ | fail
        conv => whnf
        repeat (first | (refine Exists.intro _ (And.intro rfl ?_); conv => whnf) | (refine And.intro (by first | omega | (simp [ti5]; omega)) ?_; conv => whnf) | fail)
        obtain ⟨D, hD⟩ : ∃ D, D = E.drop o ++ b1 := ⟨_, rfl⟩
        rw [← hD] at hq hq2 hap hDl
        refine loop_rule ttOk mixed (by kernel_rfl) (ι := { j : Nat // 64 * j ≤ D.length }) (fun j => [(0, .p 0 0), (5, .i 64), (6, .sl 7 (64 * j.1) (D.length - 64 * j.1) 1 false), (7, .u64 (UInt64.ofNat (tx 2).length)), (21, .sl 3 0 3 1 fl), (22, .i 3), (23, .i 1)]) (fun j => [some (.ro (mach_n 1 2)), some (.row 23 ((blks_n k S D j.1).map .u32)), some (.ro (k.map .u32)), some (.ro [.sl 4 0 b0.length 1 f0, .sl 5 0 b1.length 1 f1, .sl 6 0 b2.length 1 f2]), some (.ro (b0.map .u8)), some (.ro (b1.map .u8)), some (.ro (b2.map .u8)), some (.row 5 (D.map .u8))]) (fun _ => 7 + 1) (fun j => D.length - 64 * j.1) ⟨0, by omega⟩ ?_ ?_
        · have hz := blks_z_n k S D
          have hDn : E.length - o + b1.length = D.length - 64 * 0 := by omega
          dsimp only
          rw [hz]
          refine Weak.sel [0, 1, 2, 3, 4, 5, 6, 8] rfl rfl ?_ ?_ rfl rfl
          · (repeat' (first | exact trivial | refine And.intro ?_ ?_ | fail)) <;> first | exact wk_u64 (by first | exact hul | exact hul.symm | fail) | rfl | exact wk_sl rfl (by first | rfl | fail) (by first | exact hDn.symm | fail) | fail
          · (repeat' (first | exact trivial | exact ren_eq (plainL_u8 _) hap | refine And.intro ?_ ?_ | (refine wk_cons ?_ ?_))) <;> first | rfl | exact ren_eq (by first | (simp; done) | fail) (by first | rfl | fail) | fail
        · rintro ⟨j, hj⟩
          dsimp only
          have hbl := blks_len_n k hsl D j
          by_cases hc : 64 * (j + 1) ≤ D.length
          · have hge : decide (((D.length - 64 * j : Nat) : Int) ≥ 64) = true := by simp; omega
            have hs := blks_s_n k S D j
            have q139 := f139D (blks_n k S D j) k D (64 * j) hbl hk (by omega) false
            rw [← hs] at q139
            conv => whnf
            first | refine brT (by exact hge) ?_ | fail
            conv => whnf
            repeat (first | (refine Exists.intro _ (And.intro rfl ?_); conv => whnf) | (refine And.intro (by first | omega | fail) ?_; conv => whnf) | fail)
            refine ok1_callF [0, 1, 2, 7] [false, true, false, false] true (q139) rfl rfl ⟨⟨rfl, by first | rfl | fail⟩, by (repeat' (first | exact trivial | refine And.intro ?_ ?_)) <;> first | rfl | exact ren_eq (by first | (simp; done) | fail) (by first | rfl | fail) | fail, by first | simp [plainHf, plainB], by first | rfl | fail, ?_⟩
            conv => whnf
            repeat (first | (refine Exists.intro _ (And.intro rfl ?_); conv => whnf) | (refine And.intro (by first | omega | fail) ?_; conv => whnf) | fail)
            refine ⟨⟨j + 1, hc⟩, by simp only; omega, ?_⟩
            dsimp only
            refine Weak.sel [0, 1, 2, 3, 4, 5, 6, 7] rfl rfl ?_ ?_ rfl rfl
            · (repeat' (first | exact trivial | refine And.intro ?_ ?_ | fail)) <;> first | rfl | fail
            · (repeat' (first | exact trivial | refine And.intro ?_ ?_ | (refine wk_cons ?_ ?_))) <;> first | rfl | exact ren_eq (by first | (simp; done) | fail) (by first | rfl | fail) | fail
          · obtain rfl : j = D.length / 64 := by omega
            have hge : decide (((D.length - 64 * (D.length / 64) : Nat) : Int) ≥ 64) = false := by simp; omega
            rw [hq]
            conv => whnf
            first | refine brF (by exact hge) ?_ | fail
            conv => whnf
            repeat (fail)
            refine ⟨⟨(2, D, 64 * (D.length / 64)), by omega, by simp only; omega, hq2⟩, by simp only; omega, ?_⟩
            dsimp only
            refine Weak.sel [0, 1, 2, 3, 4, 5, 6, 7] rfl rfl ?_ ?_ rfl rfl
            · (repeat' (first | exact trivial | refine And.intro ?_ ?_ | fail)) <;> first | rfl | fail
            · (repeat' (first | exact trivial | refine And.intro ?_ ?_ | (refine wk_cons ?_ ?_))) <;> first | rfl | exact ren_eq (by first | (simp; done) | fail) (by first | rfl | fail) | fail
      ·
        have hq := feed_st_n k h (tx 2) b2
        have hq2 := feed_rest_n (tx 2) b2
        rw [← hS] at hq
        rw [← tx3] at hq hq2
        rw [← hE] at hq hq2 hEl
        have hap : (E.drop o ++ b2).map SV.u8 = List.take ((E.length - o) * 1) (List.drop o (E.map SV.u8)) ++ List.take (b2.length * 1) (List.drop 0 (b2.map SV.u8)) := (cat8 rfl rfl).symm
        have hDl : (E.drop o ++ b2).length = E.length - o + b2.length := by rw [List.length_append, List.length_drop]
        have hel : E.length - o < 64 := by rw [← List.length_drop, hE, hrl]; omega
        have hul : UInt64.ofNat (tx 2).length + u64i (b2.length : Int) = UInt64.ofNat (tx 3).length := by rw [u64_add_i _ _ (by omega), tx3, List.length_append]
        clear hS hrl
        conv => whnf
        first | refine brT (by rfl) ?_ | fail
        conv => whnf
        repeat (first | (refine Exists.intro _ (And.intro rfl ?_); conv => whnf) | (refine And.intro (by first | omega | (simp [ti5]; omega)) ?_; conv => whnf) | fail)
        obtain ⟨D, hD⟩ : ∃ D, D = E.drop o ++ b2 := ⟨_, rfl⟩
        rw [← hD] at hq hq2 hap hDl
        refine loop_rule ttOk mixed (by kernel_rfl) (ι := { j : Nat // 64 * j ≤ D.length }) (fun j => [(0, .p 0 0), (5, .i 64), (6, .sl 7 (64 * j.1) (D.length - 64 * j.1) 1 false), (7, .u64 (UInt64.ofNat (tx 3).length)), (21, .sl 3 0 3 1 fl), (22, .i 3), (23, .i 2)]) (fun j => [some (.ro (mach_n 1 2)), some (.row 23 ((blks_n k S D j.1).map .u32)), some (.ro (k.map .u32)), some (.ro [.sl 4 0 b0.length 1 f0, .sl 5 0 b1.length 1 f1, .sl 6 0 b2.length 1 f2]), some (.ro (b0.map .u8)), some (.ro (b1.map .u8)), some (.ro (b2.map .u8)), some (.row 5 (D.map .u8))]) (fun _ => 7 + 1) (fun j => D.length - 64 * j.1) ⟨0, by omega⟩ ?_ ?_
        · have hz := blks_z_n k S D
          have hDn : E.length - o + b2.length = D.length - 64 * 0 := by omega
          dsimp only
          rw [hz]
          refine Weak.sel [0, 1, 2, 3, 4, 5, 6, 8] rfl rfl ?_ ?_ rfl rfl
          · (repeat' (first | exact trivial | refine And.intro ?_ ?_ | fail)) <;> first | exact wk_u64 (by first | exact hul | exact hul.symm | fail) | rfl | exact wk_sl rfl (by first | rfl | fail) (by first | exact hDn.symm | fail) | fail
          · (repeat' (first | exact trivial | exact ren_eq (plainL_u8 _) hap | refine And.intro ?_ ?_ | (refine wk_cons ?_ ?_))) <;> first | rfl | exact ren_eq (by first | (simp; done) | fail) (by first | rfl | fail) | fail
        · rintro ⟨j, hj⟩
          dsimp only
          have hbl := blks_len_n k hsl D j
          by_cases hc : 64 * (j + 1) ≤ D.length
          · have hge : decide (((D.length - 64 * j : Nat) : Int) ≥ 64) = true := by simp; omega
            have hs := blks_s_n k S D j
            have q139 := f139D (blks_n k S D j) k D (64 * j) hbl hk (by omega) false
            rw [← hs] at q139
            conv => whnf
            first | refine brT (by exact hge) ?_ | fail
            conv => whnf
            repeat (first | (refine Exists.intro _ (And.intro rfl ?_); conv => whnf) | (refine And.intro (by first | omega | fail) ?_; conv => whnf) | fail)
            refine ok1_callF [0, 1, 2, 7] [false, true, false, false] true (q139) rfl rfl ⟨⟨rfl, by first | rfl | fail⟩, by (repeat' (first | exact trivial | refine And.intro ?_ ?_)) <;> first | rfl | exact ren_eq (by first | (simp; done) | fail) (by first | rfl | fail) | fail, by first | simp [plainHf, plainB], by first | rfl | fail, ?_⟩
            conv => whnf
            repeat (first | (refine Exists.intro _ (And.intro rfl ?_); conv => whnf) | (refine And.intro (by first | omega | fail) ?_; conv => whnf) | fail)
            refine ⟨⟨j + 1, hc⟩, by simp only; omega, ?_⟩
            dsimp only
            refine Weak.sel [0, 1, 2, 3, 4, 5, 6, 7] rfl rfl ?_ ?_ rfl rfl
            · (repeat' (first | exact trivial | refine And.intro ?_ ?_ | fail)) <;> first | rfl | fail
            · (repeat' (first | exact trivial | refine And.intro ?_ ?_ | (refine wk_cons ?_ ?_))) <;> first | rfl | exact ren_eq (by first | (simp; done) | fail) (by first | rfl | fail) | fail
          · obtain rfl : j = D.length / 64 := by omega
            have hge : decide (((D.length - 64 * (D.length / 64) : Nat) : Int) ≥ 64) = false := by simp; omega
            rw [hq]
            conv => whnf
            first | refine brF (by exact hge) ?_ | fail
            conv => whnf
            repeat (fail)
            refine ⟨⟨(3, D, 64 * (D.length / 64)), by omega, by simp only; omega, hq2⟩, by simp only; omega, ?_⟩
            dsimp only
            refine Weak.sel [0, 1, 2, 3, 4, 5, 6, 7] rfl rfl ?_ ?_ rfl rfl
            · (repeat' (first | exact trivial | refine And.intro ?_ ?_ | fail)) <;> first | rfl | fail
            · (repeat' (first | exact trivial | refine And.intro ?_ ?_ | (refine wk_cons ?_ ?_))) <;> first | rfl | exact ren_eq (by first | (simp; done) | fail) (by first | rfl | fail) | fail
    · obtain rfl : i = 3 := by omega
      obtain ⟨n, hn⟩ : ∃ n, n = E.length - o := ⟨_, rfl⟩
      have hnE : o + n = E.length := by omega
      rw [← hn]
      have hcat : (rest_n (tx 3) ++ [128]).map SV.u8 = List.take (n * 1) (List.drop o (E.map SV.u8)) ++ List.take (1 * 1) (List.drop 0 [SV.u8 128]) := by rw [← hE]; exact (cat8 (b := [128]) hn rfl).symm
      have hdd : decide (((n : Nat) : Int).toNat = ((n : Nat) : Int).toNat) = true := by simp
      conv => whnf
      first | refine brF (by rfl) ?_ | fail
      conv => whnf
      repeat (first | (refine Exists.intro _ (And.intro rfl ?_); conv => whnf) | (refine And.intro (by first | omega | fail) ?_; conv => whnf) | fail)
      rw [hdd]
      rw [Int.toNat_natCast]
      have hnl : n = (rest_n (tx 3)).length := by rw [hn, ← hE, List.length_drop]
      have hn64 : n < 64 := by rw [hnl, hrl]; omega
      have hpz := pz_rest_n (tx 3)
      rw [← hnl] at hpz
      have hpl : pz_n n < 64 := by unfold pz_n; exact Nat.mod_lt _ (by decide)
      conv => whnf
      refine And.intro ⟨by show _ ≤ (E.map SV.u8).length; rw [List.length_map]; omega, by decide, by show _ * 1 ≤ _; omega, by decide⟩ ?_
      conv => whnf
      repeat (fail)
      refine loop_rule ttOk mixed (by kernel_rfl) (ι := { j : Nat // j ≤ pz_n n }) (fun j => [(0, .p 0 0), (5, .i 64), (6, .sl 7 0 (n + 1 + j.1) 1 false), (7, .u64 (UInt64.ofNat (tx 3).length))]) (fun j => [some (.ro (mach_n 1 2)), some (.row 23 (S.map .u32)), some (.ro (k.map .u32)), some (.ro [.sl 4 0 b0.length 1 f0, .sl 5 0 b1.length 1 f1, .sl 6 0 b2.length 1 f2]), some (.ro (b0.map .u8)), some (.ro (b1.map .u8)), some (.ro (b2.map .u8)), some (.row 5 ((rest_n (tx 3) ++ [128] ++ List.replicate j.1 0).map .u8))]) (fun _ => 7 + 1) (fun j => pz_n n - j.1) ⟨0, by omega⟩ ?_ ?_
      · have hz : rest_n (tx 3) ++ [128] ++ List.replicate 0 0 = rest_n (tx 3) ++ [128] := List.append_nil _
        dsimp only
        rw [hz]
        refine Weak.sel [0, 1, 2, 3, 4, 5, 6, 7 + 2] rfl rfl ?_ ?_ rfl rfl
        · (repeat' (first | exact trivial | refine And.intro ?_ ?_ | fail)) <;> first | rfl | fail
        · (repeat' (first | exact trivial | exact ren_eq (plainL_u8 _) hcat | refine And.intro ?_ ?_ | (refine wk_cons ?_ ?_))) <;> first | rfl | exact ren_eq (by first | (simp; done) | fail) (by first | rfl | fail) | fail
      · rintro ⟨j, hj⟩
        dsimp only
        obtain ⟨Y, hY⟩ : ∃ Y, Y = rest_n (tx 3) ++ [128] ++ List.replicate j 0 := ⟨_, rfl⟩
        have hYl : Y.length = n + 1 + j := by rw [hY, List.length_append, List.length_append, ← hnl, List.length_replicate]; rfl
        have hYs : rest_n (tx 3) ++ [128] ++ List.replicate (j + 1) 0 = Y ++ [0] := by rw [hY, List.replicate_succ', List.append_assoc]; simp
        by_cases hj2 : j < pz_n n
        · have hno := padz_no_n hj2
          have hcd : (((w64 (((n + 1 + j : Nat) : Int) + w64 (2 * 4))).tmod 64) != 0) = true := by
            have e : w64 (((n + 1 + j : Nat) : Int) + w64 (2 * 4)) = ((n + 1 + j + 8 : Nat) : Int) := by simp only [w64_eq]; omega
            rw [e, show (((n + 1 + j + 8 : Nat) : Int)).tmod 64 = (((n + 1 + j + 8) % 64 : Nat) : Int) from rfl]
            simp; omega
          rw [← hY]
          conv => whnf
          repeat (first | (refine Exists.intro _ (And.intro rfl ?_); conv => whnf) | fail)
          first | refine brT (by exact hcd) ?_ | fail
          conv => whnf
          repeat (first | (refine Exists.intro _ (And.intro rfl ?_); conv => whnf) | (refine And.intro (by first | omega | (simp [ti5]; omega)) ?_; conv => whnf) | fail)
          have hap2 : (Y ++ [0]).map SV.u8 = List.take ((n + 1 + j) * 1) (List.drop 0 (Y.map SV.u8)) ++ List.take (1 * 1) (List.drop 0 [SV.u8 0]) := (cat8 (o := 0) (n := n + 1 + j) (E := Y) (b := [0]) (by omega) rfl).symm
          refine ⟨⟨j + 1, by omega⟩, by simp only; omega, ?_⟩
          dsimp only
          rw [hYs]
          refine Weak.sel [0, 1, 2, 3, 4, 5, 6, 7 + 2] rfl rfl ?_ ?_ rfl rfl
          · (repeat' (first | exact trivial | refine And.intro ?_ ?_ | fail)) <;> first | rfl | fail
          · (repeat' (first | exact trivial | exact ren_eq (plainL_u8 _) hap2 | refine And.intro ?_ ?_ | (refine wk_cons ?_ ?_))) <;> first | rfl | exact ren_eq (by first | (simp; done) | fail) (by first | rfl | fail) | fail
        · obtain rfl : j = pz_n n := by omega
          have hyes := padz_yes_n n
          have hcd : (((w64 (((n + 1 + pz_n n : Nat) : Int) + w64 (2 * 4))).tmod 64) != 0) = false := by
            have e : w64 (((n + 1 + pz_n n : Nat) : Int) + w64 (2 * 4)) = ((n + 1 + pz_n n + 8 : Nat) : Int) := by simp only [w64_eq]; omega
            rw [e, show (((n + 1 + pz_n n + 8 : Nat) : Int)).tmod 64 = (((n + 1 + pz_n n + 8) % 64 : Nat) : Int) from rfl, hyes]
            rfl
          rw [← hY]
          conv => whnf
          repeat (first | (refine Exists.intro _ (And.intro rfl ?_); conv => whnf) | fail)
          first | refine brF (by exact hcd) ?_ | fail
          conv => whnf
          repeat (first | (refine Exists.intro _ (And.intro rfl ?_); conv => whnf) | (refine And.intro ⟨by first | decide | fail, by first | decide | fail⟩ ?_; conv => whnf) | fail)
          obtain ⟨N, hN⟩ : ∃ N, N = (tx 3).length := ⟨_, rfl⟩
          rw [← hN]
          refine loop_rule ttOk mixed (by kernel_rfl) (ι := { i : Nat // i ≤ 8 }) (fun i => [(0, .p 0 0), (5, .i 64), (6, .sl 7 0 (n + 1 + pz_n n) 1 false), (7, .u64 (UInt64.ofNat N)), (10, .sl (7 + 1) 0 8 1 true), (76, .i (i.1 : Int))]) (fun i => [some (.ro (mach_n 1 2)), some (.row 23 (S.map .u32)), some (.ro (k.map .u32)), some (.ro [.sl 4 0 b0.length 1 f0, .sl 5 0 b1.length 1 f1, .sl 6 0 b2.length 1 f2]), some (.ro (b0.map .u8)), some (.ro (b1.map .u8)), some (.ro (b2.map .u8)), some (.row 5 (Y.map .u8)), some (.row 5 ((lset_n N i.1).map .u8))]) (fun _ => 7 + 2) (fun i => 8 - i.1) ⟨0, by omega⟩ ?_ ?_
          · have hz := lset_z_n N
            dsimp only
            rw [hz]
            refine Weak.sel [0, 1, 2, 3, 4, 5, 6, 7, 7 + 1] rfl rfl ?_ ?_ rfl rfl
            · (repeat' (first | exact trivial | refine And.intro ?_ ?_ | fail)) <;> first | rfl | fail
            · (repeat' (first | exact trivial | exact ren_z8 | refine And.intro ?_ ?_ | (refine wk_cons ?_ ?_))) <;> first | rfl | exact ren_eq (by first | (simp; done) | fail) (by first | rfl | fail) | fail
          · rintro ⟨i, hi⟩
            dsimp only
            have hll := lset_len_n N i
            by_cases hi8 : i < 8
            · have hlt : decide ((i : Int) < 8) = true := by simp; omega
              have hp := wp1i i (by omega)
              have h8 : w64 (8 * (i : Int)) = ((8 * i : Nat) : Int) := by simp only [w64_eq]; omega
              have h7 : w64 (w64 (8 - 1) - (i : Int)) = ((7 - i : Nat) : Int) := by simp only [w64_eq]; omega
              have hs := lset_s_n N i
              conv => whnf
              first | refine brT (by exact hlt) ?_ | fail
              conv => whnf
              repeat (fail)
              refine ⟨_, mshr_64 h8, ?_⟩
              conv => whnf
              repeat (first | (refine Exists.intro _ (And.intro (sput_m8 (i := 7 - i) (by first | rfl | omega | fail)) ?_); conv => whnf) | (refine Exists.intro _ (And.intro (idx_i (m := 7 - i) (by first | rfl | omega | fail)) ?_); conv => whnf) | (refine And.intro (by first | omega | (simp; omega) | fail) ?_; conv => whnf) | fail)
              refine ⟨⟨i + 1, by omega⟩, by simp only; omega, ?_⟩
              dsimp only
              rw [hs]
              refine Weak.sel [0, 1, 2, 3, 4, 5, 6, 7, 7 + 1] rfl rfl ?_ ?_ rfl rfl
              · (repeat' (first | exact trivial | refine And.intro ?_ ?_ | fail)) <;> first | exact wk_i (by first | exact hp | exact hp.symm | fail) | rfl | fail
              · (repeat' (first | exact trivial | refine And.intro ?_ ?_ | (refine wk_cons ?_ ?_))) <;> first | rfl | exact ren_eq (by first | (simp; done) | fail) (by first | rfl | fail) | exact ren_m8 (by first | rfl | fail) | fail
            · obtain rfl : i = 8 := by omega
              have hap3 : (Y ++ lset_n N 8).map SV.u8 = List.take ((n + 1 + pz_n n) * 1) (List.drop 0 (Y.map SV.u8)) ++ List.take (8 * 1) (List.drop 0 ((lset_n N 8).map SV.u8)) := (cat8 (o := 0) (n := n + 1 + pz_n n) (E := Y) (b := lset_n N 8) (by omega) hll.symm).symm
              obtain ⟨D, hD⟩ : ∃ D, D = Y ++ lset_n N 8 := ⟨_, rfl⟩
              have hDl : D.length = n + 1 + pz_n n + 8 := by rw [hD, List.length_append, hYl, hll]
              have hDe : D = last_n (tx 3) := by rw [hD, hY, hpz, hN]; exact last_e_n _
              have hD64 := last_len_n (tx 3)
              have hfin := last_st_n k h (tx 3)
              rw [← hDe] at hD64 hfin
              rw [← hS] at hfin
              rw [← hD] at hap3
              conv => whnf
              first | refine brF (by rfl) ?_ | fail
              conv => whnf
              repeat (first | (refine And.intro (by first | omega | (simp [ti5]; omega)) ?_; conv => whnf) | fail)
              refine loop_rule ttOk mixed (by kernel_rfl) (ι := { j : Nat // 64 * j ≤ D.length }) (fun j => [(0, .p 0 0), (5, .i 64), (6, .sl 7 (64 * j.1) (D.length - 64 * j.1) 1 false)]) (fun j => [some (.ro (mach_n 1 2)), some (.row 23 ((blks_n k S D j.1).map .u32)), some (.ro (k.map .u32)), some (.ro [.sl 4 0 b0.length 1 f0, .sl 5 0 b1.length 1 f1, .sl 6 0 b2.length 1 f2]), some (.ro (b0.map .u8)), some (.ro (b1.map .u8)), some (.ro (b2.map .u8)), some (.row 5 (D.map .u8))]) (fun _ => 7 + 1) (fun j => D.length - 64 * j.1) ⟨0, by omega⟩ ?_ ?_
              · have hz := blks_z_n k S D
                have hDn : n + 1 + pz_n n + 8 = D.length - 64 * 0 := by omega
                dsimp only
                rw [hz]
                refine Weak.sel [0, 1, 2, 3, 4, 5, 6, 7 + 2] rfl rfl ?_ ?_ rfl rfl
                · (repeat' (first | exact trivial | refine And.intro ?_ ?_ | fail)) <;> first | rfl | exact wk_sl rfl (by first | rfl | fail) (by first | exact hDn.symm | fail) | fail
                · (repeat' (first | exact trivial | exact ren_eq (plainL_u8 _) hap3 | refine And.intro ?_ ?_ | (refine wk_cons ?_ ?_))) <;> first | rfl | exact ren_eq (by first | (simp; done) | fail) (by first | rfl | fail) | fail
              · rintro ⟨j, hj⟩
                dsimp only
                have hbl := blks_len_n k hsl D j
                by_cases hc : 64 * (j + 1) ≤ D.length
                · have hge : decide (((D.length - 64 * j : Nat) : Int) > 0) = true := by simp; omega
                  have hs := blks_s_n k S D j
                  have q139 := f139D (blks_n k S D j) k D (64 * j) hbl hk (by omega) false
                  rw [← hs] at q139
                  conv => whnf
                  first | refine brT (by exact hge) ?_ | fail
                  conv => whnf
                  repeat (first | (refine Exists.intro _ (And.intro rfl ?_); conv => whnf) | (refine And.intro (by first | omega | fail) ?_; conv => whnf) | fail)
                  refine ok1_callF [0, 1, 2, 7] [false, true, false, false] true (q139) rfl rfl ⟨⟨rfl, by first | rfl | fail⟩, by (repeat' (first | exact trivial | refine And.intro ?_ ?_)) <;> first | rfl | exact ren_eq (by first | (simp; done) | fail) (by first | rfl | fail) | fail, by first | simp [plainHf, plainB], by first | rfl | fail, ?_⟩
                  conv => whnf
                  repeat (first | (refine Exists.intro _ (And.intro rfl ?_); conv => whnf) | (refine And.intro (by first | omega | fail) ?_; conv => whnf) | fail)
                  refine ⟨⟨j + 1, hc⟩, by simp only; omega, ?_⟩
                  dsimp only
                  refine Weak.sel [0, 1, 2, 3, 4, 5, 6, 7] rfl rfl ?_ ?_ rfl rfl
                  · (repeat' (first | exact trivial | refine And.intro ?_ ?_ | fail)) <;> first | rfl | fail
                  · (repeat' (first | exact trivial | refine And.intro ?_ ?_ | (refine wk_cons ?_ ?_))) <;> first | rfl | exact ren_eq (by first | (simp; done) | fail) (by first | rfl | fail) | fail
                · obtain rfl : j = D.length / 64 := by omega
                  have hge : decide (((D.length - 64 * (D.length / 64) : Nat) : Int) > 0) = false := by simp; omega
                  obtain ⟨H, hH⟩ : ∃ H, H = blks_n k S D (D.length / 64) := ⟨_, rfl⟩
                  rw [← hH] at hbl hfin ⊢
                  conv => whnf
                  first | refine brF (by exact hge) ?_ | fail
                  conv => whnf
                  repeat (first | (refine Exists.intro _ (And.intro rfl ?_); conv => whnf) | fail)
                  refine SWp.weak (Weak.virt 12 5 1 rfl) ?_
                  refine loop_rule ttOk mixed (by kernel_rfl) (ι := { i : Nat // i ≤ 8 }) (fun i => [(0, .p 0 0), (12, .sl 7 0 (4 * i.1) 1 false), (110, .sl 1 0 8 1 false), (111, .i 8), (112, .i (i.1 : Int))]) (fun i => [some (.ro (mach_n 1 2)), some (.row 23 (H.map .u32)), some (.ro (k.map .u32)), some (.ro [.sl 4 0 b0.length 1 f0, .sl 5 0 b1.length 1 f1, .sl 6 0 b2.length 1 f2]), some (.ro (b0.map .u8)), some (.ro (b1.map .u8)), some (.ro (b2.map .u8)), some (.row 5 ((outl_n H (4 * i.1)).map .u8))]) (fun _ => 7 + 1) (fun i => 8 - i.1) ⟨0, by omega⟩ ?_ ?_
                  · have hz := outl_z_n H
                    dsimp only
                    rw [hz]
                    refine Weak.sel [0, 1, 2, 3, 4, 5, 6, 7 + 1] rfl rfl ?_ ?_ rfl rfl
                    · (repeat' (first | exact trivial | refine And.intro ?_ ?_ | fail)) <;> first | rfl | fail
                    · (repeat' (first | exact trivial | refine And.intro ?_ ?_ | (refine wk_cons ?_ ?_))) <;> first | rfl | exact ren_eq (by first | (simp; done) | fail) (by first | rfl | fail) | fail
                  · rintro ⟨i, hi⟩
                    dsimp only
                    by_cases hi8 : i < 8
                    · have hlt : decide ((i : Int) < 8) = true := by simp; omega
                      have hp := wp1i i (by omega)
                      conv => whnf
                      first | refine brT (by exact hlt) ?_ | fail
                      conv => whnf
                      repeat (first | (refine Exists.intro _ (And.intro (sload_u32 (i := i) (by first | rfl | omega | fail) (by first | omega | fail)) ?_); conv => whnf) | (refine Exists.intro _ (And.intro (idx_i (m := i) (by first | rfl | fail)) ?_); conv => whnf) | (refine Exists.intro _ (And.intro rfl ?_); conv => whnf) | (refine And.intro (by first | omega | fail) ?_; conv => whnf) | fail)
                      refine loop_rule ttOk mixed (by kernel_rfl) (ι := { m : Nat // m ≤ 4 }) (fun m => [(0, .p 0 0), (12, .sl 7 0 (4 * i + m.1) 1 false), (14, .u32 (H.getD i 0)), (15, .i (3 - (m.1 : Int))), (110, .sl 1 0 8 1 false), (111, .i 8), (112, .i (i : Int))]) (fun m => [some (.ro (mach_n 1 2)), some (.row 23 (H.map .u32)), some (.ro (k.map .u32)), some (.ro [.sl 4 0 b0.length 1 f0, .sl 5 0 b1.length 1 f1, .sl 6 0 b2.length 1 f2]), some (.ro (b0.map .u8)), some (.ro (b1.map .u8)), some (.ro (b2.map .u8)), some (.row 5 ((outl_n H (4 * i + m.1)).map .u8))]) (fun _ => 7 + 1) (fun m => 4 - m.1) ⟨0, by omega⟩ ?_ ?_
                      · refine Weak.sel [0, 1, 2, 3, 4, 5, 6, 7] rfl rfl ?_ ?_ rfl rfl
                        · (repeat' (first | exact trivial | refine And.intro ?_ ?_ | fail)) <;> first | rfl | fail
                        · (repeat' (first | exact trivial | refine And.intro ?_ ?_ | (refine wk_cons ?_ ?_))) <;> first | rfl | exact ren_eq (by first | (simp; done) | fail) (by first | rfl | fail) | fail
                      · rintro ⟨m, hm⟩
                        dsimp only
                        have hol := outl_len_n H (4 * i + m)
                        by_cases hm4 : m < 4
                        · have hge : decide ((3 - (m : Int)) ≥ 0) = true := by simp; omega
                          have h8 : w64 (8 * (3 - (m : Int))) = ((8 * (3 - m) : Nat) : Int) := by simp only [w64_eq]; omega
                          have hp2 : w64 (3 - (m : Int) - 1) = 3 - ((m + 1 : Nat) : Int) := by simp only [w64_eq]; omega
                          have hs := outl_s_n H i m hm4
                          obtain ⟨Z, hZ⟩ : ∃ Z, Z = outl_n H (4 * i + m) := ⟨_, rfl⟩
                          rw [← hZ] at hol hs ⊢
                          have hap4 : (Z ++ [(shr32 (H.getD i 0) (8 * (3 - m))).toUInt8]).map SV.u8 = List.take ((4 * i + m) * 1) (List.drop 0 (Z.map SV.u8)) ++ List.take (1 * 1) (List.drop 0 [SV.u8 (shr32 (H.getD i 0) (8 * (3 - m))).toUInt8]) := (cat8 (o := 0) (n := 4 * i + m) (E := Z) (b := [(shr32 (H.getD i 0) (8 * (3 - m))).toUInt8]) (by omega) rfl).symm
                          conv => whnf
                          first | refine brT (by exact hge) ?_ | fail
                          conv => whnf
                          repeat (fail)
                          refine ⟨_, mshr_32 h8, ?_⟩
                          conv => whnf
                          repeat (first | (refine Exists.intro _ (And.intro rfl ?_); conv => whnf) | (refine And.intro (by first | omega | (simp [ti5]; omega)) ?_; conv => whnf) | fail)
                          refine ⟨⟨m + 1, by omega⟩, by simp only; omega, ?_⟩
                          dsimp only
                          rw [hs]
                          refine Weak.sel [0, 1, 2, 3, 4, 5, 6, 7 + 2] rfl rfl ?_ ?_ rfl rfl
                          · (repeat' (first | exact trivial | refine And.intro ?_ ?_ | fail)) <;> first | exact wk_i (by first | exact hp2 | exact hp2.symm | fail) | rfl | fail
                          · (repeat' (first | exact trivial | exact ren_eq (plainL_u8 _) hap4 | refine And.intro ?_ ?_ | (refine wk_cons ?_ ?_))) <;> first | rfl | exact ren_eq (by first | (simp; done) | fail) (by first | rfl | fail) | fail
                        · obtain rfl : m = 4 := by omega
                          conv => whnf
                          first | refine brF (by rfl) ?_ | fail
                          conv => whnf
                          repeat (fail)
                          refine ⟨⟨i + 1, by omega⟩, by simp only; omega, ?_⟩
                          dsimp only
                          rw [show 4 * (i + 1) = 4 * i + 4 by omega]
                          refine Weak.sel [0, 1, 2, 3, 4, 5, 6, 7] rfl rfl ?_ ?_ rfl rfl
                          · (repeat' (first | exact trivial | refine And.intro ?_ ?_ | fail)) <;> first | exact wk_i (by first | exact hp | exact hp.symm | fail) | rfl | fail
                          · (repeat' (first | exact trivial | refine And.intro ?_ ?_ | (refine wk_cons ?_ ?_))) <;> first | rfl | exact ren_eq (by first | (simp; done) | fail) (by first | rfl | fail) | fail
                    · obtain rfl : i = 8 := by omega
                      rw [outb_e_n] at hfin
                      rw [← hfin]
                      conv => whnf
                      first | refine brF (by rfl) ?_ | fail
                      conv => whnf
                      refine ⟨[0, 1, 2, 3, 4, 5, 6, 7], ?_, rfl, rfl, ?_, rfl⟩
                      · (repeat' (fail)) <;> first | rfl | fail
                      · (repeat' (first | exact trivial | refine And.intro ?_ ?_ | (refine wk_cons ?_ ?_))) <;> first | rfl | exact ren_eq (by first | (simp; done) | fail) (by first | rfl | fail) | fail
end Go.Sh
/- sha: the narrow machine's sum (f102), walked, of texts in parts. -/
namespace Go.Sh
open Go.Proofs
set_option maxHeartbeats 4000000
set_option linter.unusedSimpArgs false
set_option linter.unusedVariables false

attribute [local irreducible] comp_n
attribute [local irreducible] blks_n st_n rest_n hash_n pz_n outl_n outb_n lset_n last_n
theorem f102_bb (h k : List UInt32) (hh : h.length = 8) (hk : k.length = 64) (b0 b1 : List UInt8) (hb0 : b0.length < 100000000000000) (hb1 : b1.length < 100000000000000) (f0 f1 fl : Bool) : SCall Try.prog 102 [.p 0 0, .sl 3 0 2 1 fl] [some (.ro (mach_n 1 2)), some (.row 23 (h.map .u32)), some (.ro (k.map .u32)), some (.ro [.sl 4 0 b0.length 1 f0, .sl 5 0 b1.length 1 f1]), some (.ro (b0.map .u8)), some (.ro (b1.map .u8))] (.sl 6 0 32 1 false) [some (.ro (mach_n 1 2)), none, some (.ro (k.map .u32)), some (.ro [.sl 4 0 b0.length 1 f0, .sl 5 0 b1.length 1 f1]), some (.ro (b0.map .u8)), some (.ro (b1.map .u8)), some (.row 5 ((hash_n k h (b0 ++ b1)).map .u8))] := by
  obtain ⟨tx, htx⟩ : ∃ tx : Nat → List UInt8, tx = fun i => ([b0, b1].take i).flatten := ⟨_, rfl⟩
  have tx0 : tx 0 = [] := by rw [htx]; rfl
  have tx1 : tx 1 = tx 0 ++ b0 := by rw [htx]; simp
  have tx2 : tx 2 = tx 1 ++ b1 := by rw [htx]; simp
  have htp : tx 2 = b0 ++ b1 := by rw [htx]; simp
  have he : hash_n k h (b0 ++ b1) = hash_n k h (tx 2) := by rw [htp]
  rw [he]
  have hl0 : (tx 0).length = 0 := by rw [tx0]; rfl
  have hl1 : (tx 1).length = (tx 0).length + b0.length := by rw [tx1, List.length_append]
  have hl2 : (tx 2).length = (tx 1).length + b1.length := by rw [tx2, List.length_append]
  clear htx
  refine scall_of ttOk (by kernel_rfl : Try.prog.funcs[102]? = some Try.f102) rfl rfl rfl ?_
  try simp only [List.length_cons, List.length_nil, Nat.zero_add, Nat.reduceAdd]
  refine sw_ok ttOk mixed (by kernel_rfl) ?_
  conv => whnf
  repeat (first | (refine Exists.intro _ (And.intro rfl ?_); conv => whnf) | fail)
  refine SWp.weak (Weak.virt 6 5 1 rfl) ?_
  refine loop_rule ttOk mixed (by kernel_rfl) (ι := { x : Nat × List UInt8 × Nat // x.1 ≤ 2 ∧ x.2.2 ≤ x.2.1.length ∧ x.2.1.drop x.2.2 = rest_n (tx x.1) }) (fun x => [(0, .p 0 0), (5, .i 64), (6, .sl 6 x.1.2.2 (x.1.2.1.length - x.1.2.2) 1 false), (7, .u64 (UInt64.ofNat (tx x.1.1).length)), (21, .sl 3 0 2 1 fl), (22, .i 2), (23, .i (x.1.1 : Int))]) (fun x => [some (.ro (mach_n 1 2)), some (.row 23 ((st_n k h (tx x.1.1)).map .u32)), some (.ro (k.map .u32)), some (.ro [.sl 4 0 b0.length 1 f0, .sl 5 0 b1.length 1 f1]), some (.ro (b0.map .u8)), some (.ro (b1.map .u8)), some (.row 5 (x.1.2.1.map .u8))]) (fun _ => 7) (fun x => 2 - x.1.1) ⟨(0, [], 0), by omega, by simp, by rw [tx0]; exact rest_nil_n.symm⟩ ?_ ?_
  · dsimp only
    rw [tx0, st_nil_n]
    refine Weak.sel [0, 1, 2, 3, 4, 5, 6] rfl rfl ?_ ?_ rfl rfl
    · (repeat' (first | exact trivial | refine And.intro ?_ ?_ | fail)) <;> first | rfl | fail
    · (repeat' (first | exact trivial | refine And.intro ?_ ?_ | (refine wk_cons ?_ ?_))) <;> first | rfl | exact ren_eq (by first | (simp; done) | fail) (by first | rfl | fail) | fail
  · rintro ⟨⟨i, E, o⟩, hi, ho, hE⟩
    dsimp only at hi ho hE ⊢
    have hsl := st_len_n k hh (tx i)
    have hrl := rest_len_n (tx i)
    obtain ⟨S, hS⟩ : ∃ S, S = st_n k h (tx i) := ⟨_, rfl⟩
    rw [← hS] at hsl ⊢
    have hEl : E.length - o = (rest_n (tx i)).length := by rw [← hE, List.length_drop]
    by_cases hi2 : i < 2
    · have hic : i = 0 ∨ i = 1 := by omega
      rcases hic with rfl | rfl
      ·
        have hq := feed_st_n k h (tx 0) b0
        have hq2 := feed_rest_n (tx 0) b0
        rw [← hS] at hq
        rw [← tx1] at hq hq2
        rw [← hE] at hq hq2 hEl
        have hap : (E.drop o ++ b0).map SV.u8 = List.take ((E.length - o) * 1) (List.drop o (E.map SV.u8)) ++ List.take (b0.length * 1) (List.drop 0 (b0.map SV.u8)) := (cat8 rfl rfl).symm
        have hDl : (E.drop o ++ b0).length = E.length - o + b0.length := by rw [List.length_append, List.length_drop]
        have hel : E.length - o < 64 := by rw [← List.length_drop, hE, hrl]; omega
        have hul : UInt64.ofNat (tx 0).length + u64i (b0.length : Int) = UInt64.ofNat (tx 1).length := by rw [u64_add_i _ _ (by omega), tx1, List.length_append]
        clear hS hrl
        conv => whnf
        first | refine brT (by rfl) ?_ | fail
        conv => whnf
        repeat (first | (refine Exists.intro _ (And.intro rfl ?_); conv => whnf) | (refine And.intro (by first | omega | (simp [ti5]; omega)) ?_; conv => whnf) | fail)
        obtain ⟨D, hD⟩ : ∃ D, D = E.drop o ++ b0 := ⟨_, rfl⟩
        rw [← hD] at hq hq2 hap hDl
        refine loop_rule ttOk mixed (by kernel_rfl) (ι := { j : Nat // 64 * j ≤ D.length }) (fun j => [(0, .p 0 0), (5, .i 64), (6, .sl 6 (64 * j.1) (D.length - 64 * j.1) 1 false), (7, .u64 (UInt64.ofNat (tx 1).length)), (21, .sl 3 0 2 1 fl), (22, .i 2), (23, .i 0)]) (fun j => [some (.ro (mach_n 1 2)), some (.row 23 ((blks_n k S D j.1).map .u32)), some (.ro (k.map .u32)), some (.ro [.sl 4 0 b0.length 1 f0, .sl 5 0 b1.length 1 f1]), some (.ro (b0.map .u8)), some (.ro (b1.map .u8)), some (.row 5 (D.map .u8))]) (fun _ => 6 + 1) (fun j => D.length - 64 * j.1) ⟨0, by omega⟩ ?_ ?_
        · have hz := blks_z_n k S D
          have hDn : E.length - o + b0.length = D.length - 64 * 0 := by omega
          dsimp only
          rw [hz]
          refine Weak.sel [0, 1, 2, 3, 4, 5, 7] rfl rfl ?_ ?_ rfl rfl
          · (repeat' (first | exact trivial | refine And.intro ?_ ?_ | fail)) <;> first | exact wk_u64 (by first | exact hul | exact hul.symm | fail) | rfl | exact wk_sl rfl (by first | rfl | fail) (by first | exact hDn.symm | fail) | fail
          · (repeat' (first | exact trivial | exact ren_eq (plainL_u8 _) hap | refine And.intro ?_ ?_ | (refine wk_cons ?_ ?_))) <;> first | rfl | exact ren_eq (by first | (simp; done) | fail) (by first | rfl | fail) | fail
        · rintro ⟨j, hj⟩
          dsimp only
          have hbl := blks_len_n k hsl D j
          by_cases hc : 64 * (j + 1) ≤ D.length
          · have hge : decide (((D.length - 64 * j : Nat) : Int) ≥ 64) = true := by simp; omega
            have hs := blks_s_n k S D j
            have q139 := f139D (blks_n k S D j) k D (64 * j) hbl hk (by omega) false
            rw [← hs] at q139
            conv => whnf
            first | refine brT (by exact hge) ?_ | fail
            conv => whnf
            repeat (first | (refine Exists.intro _ (And.intro rfl ?_); conv => whnf) | (refine And.intro (by first | omega | fail) ?_; conv => whnf) | fail)
            refine ok1_callF [0, 1, 2, 6] [false, true, false, false] true (q139) rfl rfl ⟨⟨rfl, by first | rfl | fail⟩, by (repeat' (first | exact trivial | refine And.intro ?_ ?_)) <;> first | rfl | exact ren_eq (by first | (simp; done) | fail) (by first | rfl | fail) | fail, by first | simp [plainHf, plainB], by first | rfl | fail, ?_⟩
            conv => whnf
            repeat (first | (refine Exists.intro _ (And.intro rfl ?_); conv => whnf) | (refine And.intro (by first | omega | fail) ?_; conv => whnf) | fail)
            refine ⟨⟨j + 1, hc⟩, by simp only; omega, ?_⟩
            dsimp only
            refine Weak.sel [0, 1, 2, 3, 4, 5, 6] rfl rfl ?_ ?_ rfl rfl
            · (repeat' (first | exact trivial | refine And.intro ?_ ?_ | fail)) <;> first | rfl | fail
            · (repeat' (first | exact trivial | refine And.intro ?_ ?_ | (refine wk_cons ?_ ?_))) <;> first | rfl | exact ren_eq (by first | (simp; done) | fail) (by first | rfl | fail) | fail
          · obtain rfl : j = D.length / 64 := by omega
            have hge : decide (((D.length - 64 * (D.length / 64) : Nat) : Int) ≥ 64) = false := by simp; omega
            rw [hq]
            conv => whnf
            first | refine brF (by exact hge) ?_ | fail
            conv => whnf
            repeat (fail)
            refine ⟨⟨(1, D, 64 * (D.length / 64)), by omega, by simp only; omega, hq2⟩, by simp only; omega, ?_⟩
            dsimp only
            refine Weak.sel [0, 1, 2, 3, 4, 5, 6] rfl rfl ?_ ?_ rfl rfl
            · (repeat' (first | exact trivial | refine And.intro ?_ ?_ | fail)) <;> first | rfl | fail
            · (repeat' (first | exact trivial | refine And.intro ?_ ?_ | (refine wk_cons ?_ ?_))) <;> first | rfl | exact ren_eq (by first | (simp; done) | fail) (by first | rfl | fail) | fail
      ·
        have hq := feed_st_n k h (tx 1) b1
        have hq2 := feed_rest_n (tx 1) b1
        rw [← hS] at hq
        rw [← tx2] at hq hq2
        rw [← hE] at hq hq2 hEl
        have hap : (E.drop o ++ b1).map SV.u8 = List.take ((E.length - o) * 1) (List.drop o (E.map SV.u8)) ++ List.take (b1.length * 1) (List.drop 0 (b1.map SV.u8)) := (cat8 rfl rfl).symm
        have hDl : (E.drop o ++ b1).length = E.length - o + b1.length := by rw [List.length_append, List.length_drop]
        have hel : E.length - o < 64 := by rw [← List.length_drop, hE, hrl]; omega
        have hul : UInt64.ofNat (tx 1).length + u64i (b1.length : Int) = UInt64.ofNat (tx 2).length := by rw [u64_add_i _ _ (by omega), tx2, List.length_append]
        clear hS hrl
        conv => whnf
        first | refine brT (by rfl) ?_ | fail
        conv => whnf
        repeat (first | (refine Exists.intro _ (And.intro rfl ?_); conv => whnf) | (refine And.intro (by first | omega | (simp [ti5]; omega)) ?_; conv => whnf) | fail)
        obtain ⟨D, hD⟩ : ∃ D, D = E.drop o ++ b1 := ⟨_, rfl⟩
        rw [← hD] at hq hq2 hap hDl
        refine loop_rule ttOk mixed (by kernel_rfl) (ι := { j : Nat // 64 * j ≤ D.length }) (fun j => [(0, .p 0 0), (5, .i 64), (6, .sl 6 (64 * j.1) (D.length - 64 * j.1) 1 false), (7, .u64 (UInt64.ofNat (tx 2).length)), (21, .sl 3 0 2 1 fl), (22, .i 2), (23, .i 1)]) (fun j => [some (.ro (mach_n 1 2)), some (.row 23 ((blks_n k S D j.1).map .u32)), some (.ro (k.map .u32)), some (.ro [.sl 4 0 b0.length 1 f0, .sl 5 0 b1.length 1 f1]), some (.ro (b0.map .u8)), some (.ro (b1.map .u8)), some (.row 5 (D.map .u8))]) (fun _ => 6 + 1) (fun j => D.length - 64 * j.1) ⟨0, by omega⟩ ?_ ?_
        · have hz := blks_z_n k S D
          have hDn : E.length - o + b1.length = D.length - 64 * 0 := by omega
          dsimp only
          rw [hz]
          refine Weak.sel [0, 1, 2, 3, 4, 5, 7] rfl rfl ?_ ?_ rfl rfl
          · (repeat' (first | exact trivial | refine And.intro ?_ ?_ | fail)) <;> first | exact wk_u64 (by first | exact hul | exact hul.symm | fail) | rfl | exact wk_sl rfl (by first | rfl | fail) (by first | exact hDn.symm | fail) | fail
          · (repeat' (first | exact trivial | exact ren_eq (plainL_u8 _) hap | refine And.intro ?_ ?_ | (refine wk_cons ?_ ?_))) <;> first | rfl | exact ren_eq (by first | (simp; done) | fail) (by first | rfl | fail) | fail
        · rintro ⟨j, hj⟩
          dsimp only
          have hbl := blks_len_n k hsl D j
          by_cases hc : 64 * (j + 1) ≤ D.length
          · have hge : decide (((D.length - 64 * j : Nat) : Int) ≥ 64) = true := by simp; omega
            have hs := blks_s_n k S D j
            have q139 := f139D (blks_n k S D j) k D (64 * j) hbl hk (by omega) false
            rw [← hs] at q139
            conv => whnf
            first | refine brT (by exact hge) ?_ | fail
            conv => whnf
            repeat (first | (refine Exists.intro _ (And.intro rfl ?_); conv => whnf) | (refine And.intro (by first | omega | fail) ?_; conv => whnf) | fail)
            refine ok1_callF [0, 1, 2, 6] [false, true, false, false] true (q139) rfl rfl ⟨⟨rfl, by first | rfl | fail⟩, by (repeat' (first | exact trivial | refine And.intro ?_ ?_)) <;> first | rfl | exact ren_eq (by first | (simp; done) | fail) (by first | rfl | fail) | fail, by first | simp [plainHf, plainB], by first | rfl | fail, ?_⟩
            conv => whnf
            repeat (first | (refine Exists.intro _ (And.intro rfl ?_); conv => whnf) | (refine And.intro (by first | omega | fail) ?_; conv => whnf) | fail)
            refine ⟨⟨j + 1, hc⟩, by simp only; omega, ?_⟩
            dsimp only
            refine Weak.sel [0, 1, 2, 3, 4, 5, 6] rfl rfl ?_ ?_ rfl rfl
            · (repeat' (first | exact trivial | refine And.intro ?_ ?_ | fail)) <;> first | rfl | fail
            · (repeat' (first | exact trivial | refine And.intro ?_ ?_ | (refine wk_cons ?_ ?_))) <;> first | rfl | exact ren_eq (by first | (simp; done) | fail) (by first | rfl | fail) | fail
          · obtain rfl : j = D.length / 64 := by omega
            have hge : decide (((D.length - 64 * (D.length / 64) : Nat) : Int) ≥ 64) = false := by simp; omega
            rw [hq]
            conv => whnf
            first | refine brF (by exact hge) ?_ | fail
            conv => whnf
            repeat (fail)
            refine ⟨⟨(2, D, 64 * (D.length / 64)), by omega, by simp only; omega, hq2⟩, by simp only; omega, ?_⟩
            dsimp only
            refine Weak.sel [0, 1, 2, 3, 4, 5, 6] rfl rfl ?_ ?_ rfl rfl
            · (repeat' (first | exact trivial | refine And.intro ?_ ?_ | fail)) <;> first | rfl | fail
            · (repeat' (first | exact trivial | refine And.intro ?_ ?_ | (refine wk_cons ?_ ?_))) <;> first | rfl | exact ren_eq (by first | (simp; done) | fail) (by first | rfl | fail) | fail
    · obtain rfl : i = 2 := by omega
      obtain ⟨n, hn⟩ : ∃ n, n = E.length - o := ⟨_, rfl⟩
      have hnE : o + n = E.length := by omega
      rw [← hn]
      have hcat : (rest_n (tx 2) ++ [128]).map SV.u8 = List.take (n * 1) (List.drop o (E.map SV.u8)) ++ List.take (1 * 1) (List.drop 0 [SV.u8 128]) := by rw [← hE]; exact (cat8 (b := [128]) hn rfl).symm
      have hdd : decide (((n : Nat) : Int).toNat = ((n : Nat) : Int).toNat) = true := by simp
      conv => whnf
      first | refine brF (by rfl) ?_ | fail
      conv => whnf
      repeat (first | (refine Exists.intro _ (And.intro rfl ?_); conv => whnf) | (refine And.intro (by first | omega | fail) ?_; conv => whnf) | fail)
      rw [hdd]
      rw [Int.toNat_natCast]
      have hnl : n = (rest_n (tx 2)).length := by rw [hn, ← hE, List.length_drop]
      have hn64 : n < 64 := by rw [hnl, hrl]; omega
      have hpz := pz_rest_n (tx 2)
      rw [← hnl] at hpz
      have hpl : pz_n n < 64 := by unfold pz_n; exact Nat.mod_lt _ (by decide)
      conv => whnf
      refine And.intro ⟨by show _ ≤ (E.map SV.u8).length; rw [List.length_map]; omega, by decide, by show _ * 1 ≤ _; omega, by decide⟩ ?_
      conv => whnf
      repeat (fail)
      refine loop_rule ttOk mixed (by kernel_rfl) (ι := { j : Nat // j ≤ pz_n n }) (fun j => [(0, .p 0 0), (5, .i 64), (6, .sl 6 0 (n + 1 + j.1) 1 false), (7, .u64 (UInt64.ofNat (tx 2).length))]) (fun j => [some (.ro (mach_n 1 2)), some (.row 23 (S.map .u32)), some (.ro (k.map .u32)), some (.ro [.sl 4 0 b0.length 1 f0, .sl 5 0 b1.length 1 f1]), some (.ro (b0.map .u8)), some (.ro (b1.map .u8)), some (.row 5 ((rest_n (tx 2) ++ [128] ++ List.replicate j.1 0).map .u8))]) (fun _ => 6 + 1) (fun j => pz_n n - j.1) ⟨0, by omega⟩ ?_ ?_
      · have hz : rest_n (tx 2) ++ [128] ++ List.replicate 0 0 = rest_n (tx 2) ++ [128] := List.append_nil _
        dsimp only
        rw [hz]
        refine Weak.sel [0, 1, 2, 3, 4, 5, 6 + 2] rfl rfl ?_ ?_ rfl rfl
        · (repeat' (first | exact trivial | refine And.intro ?_ ?_ | fail)) <;> first | rfl | fail
        · (repeat' (first | exact trivial | exact ren_eq (plainL_u8 _) hcat | refine And.intro ?_ ?_ | (refine wk_cons ?_ ?_))) <;> first | rfl | exact ren_eq (by first | (simp; done) | fail) (by first | rfl | fail) | fail
      · rintro ⟨j, hj⟩
        dsimp only
        obtain ⟨Y, hY⟩ : ∃ Y, Y = rest_n (tx 2) ++ [128] ++ List.replicate j 0 := ⟨_, rfl⟩
        have hYl : Y.length = n + 1 + j := by rw [hY, List.length_append, List.length_append, ← hnl, List.length_replicate]; rfl
        have hYs : rest_n (tx 2) ++ [128] ++ List.replicate (j + 1) 0 = Y ++ [0] := by rw [hY, List.replicate_succ', List.append_assoc]; simp
        by_cases hj2 : j < pz_n n
        · have hno := padz_no_n hj2
          have hcd : (((w64 (((n + 1 + j : Nat) : Int) + w64 (2 * 4))).tmod 64) != 0) = true := by
            have e : w64 (((n + 1 + j : Nat) : Int) + w64 (2 * 4)) = ((n + 1 + j + 8 : Nat) : Int) := by simp only [w64_eq]; omega
            rw [e, show (((n + 1 + j + 8 : Nat) : Int)).tmod 64 = (((n + 1 + j + 8) % 64 : Nat) : Int) from rfl]
            simp; omega
          rw [← hY]
          conv => whnf
          repeat (first | (refine Exists.intro _ (And.intro rfl ?_); conv => whnf) | fail)
          first | refine brT (by exact hcd) ?_ | fail
          conv => whnf
          repeat (first | (refine Exists.intro _ (And.intro rfl ?_); conv => whnf) | (refine And.intro (by first | omega | (simp [ti5]; omega)) ?_; conv => whnf) | fail)
          have hap2 : (Y ++ [0]).map SV.u8 = List.take ((n + 1 + j) * 1) (List.drop 0 (Y.map SV.u8)) ++ List.take (1 * 1) (List.drop 0 [SV.u8 0]) := (cat8 (o := 0) (n := n + 1 + j) (E := Y) (b := [0]) (by omega) rfl).symm
          refine ⟨⟨j + 1, by omega⟩, by simp only; omega, ?_⟩
          dsimp only
          rw [hYs]
          refine Weak.sel [0, 1, 2, 3, 4, 5, 6 + 2] rfl rfl ?_ ?_ rfl rfl
          · (repeat' (first | exact trivial | refine And.intro ?_ ?_ | fail)) <;> first | rfl | fail
          · (repeat' (first | exact trivial | exact ren_eq (plainL_u8 _) hap2 | refine And.intro ?_ ?_ | (refine wk_cons ?_ ?_))) <;> first | rfl | exact ren_eq (by first | (simp; done) | fail) (by first | rfl | fail) | fail
        · obtain rfl : j = pz_n n := by omega
          have hyes := padz_yes_n n
          have hcd : (((w64 (((n + 1 + pz_n n : Nat) : Int) + w64 (2 * 4))).tmod 64) != 0) = false := by
            have e : w64 (((n + 1 + pz_n n : Nat) : Int) + w64 (2 * 4)) = ((n + 1 + pz_n n + 8 : Nat) : Int) := by simp only [w64_eq]; omega
            rw [e, show (((n + 1 + pz_n n + 8 : Nat) : Int)).tmod 64 = (((n + 1 + pz_n n + 8) % 64 : Nat) : Int) from rfl, hyes]
            rfl
          rw [← hY]
          conv => whnf
          repeat (first | (refine Exists.intro _ (And.intro rfl ?_); conv => whnf) | fail)
          first | refine brF (by exact hcd) ?_ | fail
          conv => whnf
          repeat (first | (refine Exists.intro _ (And.intro rfl ?_); conv => whnf) | (refine And.intro ⟨by first | decide | fail, by first | decide | fail⟩ ?_; conv => whnf) | fail)
          obtain ⟨N, hN⟩ : ∃ N, N = (tx 2).length := ⟨_, rfl⟩
          rw [← hN]
          refine loop_rule ttOk mixed (by kernel_rfl) (ι := { i : Nat // i ≤ 8 }) (fun i => [(0, .p 0 0), (5, .i 64), (6, .sl 6 0 (n + 1 + pz_n n) 1 false), (7, .u64 (UInt64.ofNat N)), (10, .sl (6 + 1) 0 8 1 true), (76, .i (i.1 : Int))]) (fun i => [some (.ro (mach_n 1 2)), some (.row 23 (S.map .u32)), some (.ro (k.map .u32)), some (.ro [.sl 4 0 b0.length 1 f0, .sl 5 0 b1.length 1 f1]), some (.ro (b0.map .u8)), some (.ro (b1.map .u8)), some (.row 5 (Y.map .u8)), some (.row 5 ((lset_n N i.1).map .u8))]) (fun _ => 6 + 2) (fun i => 8 - i.1) ⟨0, by omega⟩ ?_ ?_
          · have hz := lset_z_n N
            dsimp only
            rw [hz]
            refine Weak.sel [0, 1, 2, 3, 4, 5, 6, 6 + 1] rfl rfl ?_ ?_ rfl rfl
            · (repeat' (first | exact trivial | refine And.intro ?_ ?_ | fail)) <;> first | rfl | fail
            · (repeat' (first | exact trivial | exact ren_z8 | refine And.intro ?_ ?_ | (refine wk_cons ?_ ?_))) <;> first | rfl | exact ren_eq (by first | (simp; done) | fail) (by first | rfl | fail) | fail
          · rintro ⟨i, hi⟩
            dsimp only
            have hll := lset_len_n N i
            by_cases hi8 : i < 8
            · have hlt : decide ((i : Int) < 8) = true := by simp; omega
              have hp := wp1i i (by omega)
              have h8 : w64 (8 * (i : Int)) = ((8 * i : Nat) : Int) := by simp only [w64_eq]; omega
              have h7 : w64 (w64 (8 - 1) - (i : Int)) = ((7 - i : Nat) : Int) := by simp only [w64_eq]; omega
              have hs := lset_s_n N i
              conv => whnf
              first | refine brT (by exact hlt) ?_ | fail
              conv => whnf
              repeat (fail)
              refine ⟨_, mshr_64 h8, ?_⟩
              conv => whnf
              repeat (first | (refine Exists.intro _ (And.intro (sput_m8 (i := 7 - i) (by first | rfl | omega | fail)) ?_); conv => whnf) | (refine Exists.intro _ (And.intro (idx_i (m := 7 - i) (by first | rfl | omega | fail)) ?_); conv => whnf) | (refine And.intro (by first | omega | (simp; omega) | fail) ?_; conv => whnf) | fail)
              refine ⟨⟨i + 1, by omega⟩, by simp only; omega, ?_⟩
              dsimp only
              rw [hs]
              refine Weak.sel [0, 1, 2, 3, 4, 5, 6, 6 + 1] rfl rfl ?_ ?_ rfl rfl
              · (repeat' (first | exact trivial | refine And.intro ?_ ?_ | fail)) <;> first | exact wk_i (by first | exact hp | exact hp.symm | fail) | rfl | fail
              · (repeat' (first | exact trivial | refine And.intro ?_ ?_ | (refine wk_cons ?_ ?_))) <;> first | rfl | exact ren_eq (by first | (simp; done) | fail) (by first | rfl | fail) | exact ren_m8 (by first | rfl | fail) | fail
            · obtain rfl : i = 8 := by omega
              have hap3 : (Y ++ lset_n N 8).map SV.u8 = List.take ((n + 1 + pz_n n) * 1) (List.drop 0 (Y.map SV.u8)) ++ List.take (8 * 1) (List.drop 0 ((lset_n N 8).map SV.u8)) := (cat8 (o := 0) (n := n + 1 + pz_n n) (E := Y) (b := lset_n N 8) (by omega) hll.symm).symm
              obtain ⟨D, hD⟩ : ∃ D, D = Y ++ lset_n N 8 := ⟨_, rfl⟩
              have hDl : D.length = n + 1 + pz_n n + 8 := by rw [hD, List.length_append, hYl, hll]
              have hDe : D = last_n (tx 2) := by rw [hD, hY, hpz, hN]; exact last_e_n _
              have hD64 := last_len_n (tx 2)
              have hfin := last_st_n k h (tx 2)
              rw [← hDe] at hD64 hfin
              rw [← hS] at hfin
              rw [← hD] at hap3
              conv => whnf
              first | refine brF (by rfl) ?_ | fail
              conv => whnf
              repeat (first | (refine And.intro (by first | omega | (simp [ti5]; omega)) ?_; conv => whnf) | fail)
              refine loop_rule ttOk mixed (by kernel_rfl) (ι := { j : Nat // 64 * j ≤ D.length }) (fun j => [(0, .p 0 0), (5, .i 64), (6, .sl 6 (64 * j.1) (D.length - 64 * j.1) 1 false)]) (fun j => [some (.ro (mach_n 1 2)), some (.row 23 ((blks_n k S D j.1).map .u32)), some (.ro (k.map .u32)), some (.ro [.sl 4 0 b0.length 1 f0, .sl 5 0 b1.length 1 f1]), some (.ro (b0.map .u8)), some (.ro (b1.map .u8)), some (.row 5 (D.map .u8))]) (fun _ => 6 + 1) (fun j => D.length - 64 * j.1) ⟨0, by omega⟩ ?_ ?_
              · have hz := blks_z_n k S D
                have hDn : n + 1 + pz_n n + 8 = D.length - 64 * 0 := by omega
                dsimp only
                rw [hz]
                refine Weak.sel [0, 1, 2, 3, 4, 5, 6 + 2] rfl rfl ?_ ?_ rfl rfl
                · (repeat' (first | exact trivial | refine And.intro ?_ ?_ | fail)) <;> first | rfl | exact wk_sl rfl (by first | rfl | fail) (by first | exact hDn.symm | fail) | fail
                · (repeat' (first | exact trivial | exact ren_eq (plainL_u8 _) hap3 | refine And.intro ?_ ?_ | (refine wk_cons ?_ ?_))) <;> first | rfl | exact ren_eq (by first | (simp; done) | fail) (by first | rfl | fail) | fail
              · rintro ⟨j, hj⟩
                dsimp only
                have hbl := blks_len_n k hsl D j
                by_cases hc : 64 * (j + 1) ≤ D.length
                · have hge : decide (((D.length - 64 * j : Nat) : Int) > 0) = true := by simp; omega
                  have hs := blks_s_n k S D j
                  have q139 := f139D (blks_n k S D j) k D (64 * j) hbl hk (by omega) false
                  rw [← hs] at q139
                  conv => whnf
                  first | refine brT (by exact hge) ?_ | fail
                  conv => whnf
                  repeat (first | (refine Exists.intro _ (And.intro rfl ?_); conv => whnf) | (refine And.intro (by first | omega | fail) ?_; conv => whnf) | fail)
                  refine ok1_callF [0, 1, 2, 6] [false, true, false, false] true (q139) rfl rfl ⟨⟨rfl, by first | rfl | fail⟩, by (repeat' (first | exact trivial | refine And.intro ?_ ?_)) <;> first | rfl | exact ren_eq (by first | (simp; done) | fail) (by first | rfl | fail) | fail, by first | simp [plainHf, plainB], by first | rfl | fail, ?_⟩
                  conv => whnf
                  repeat (first | (refine Exists.intro _ (And.intro rfl ?_); conv => whnf) | (refine And.intro (by first | omega | fail) ?_; conv => whnf) | fail)
                  refine ⟨⟨j + 1, hc⟩, by simp only; omega, ?_⟩
                  dsimp only
                  refine Weak.sel [0, 1, 2, 3, 4, 5, 6] rfl rfl ?_ ?_ rfl rfl
                  · (repeat' (first | exact trivial | refine And.intro ?_ ?_ | fail)) <;> first | rfl | fail
                  · (repeat' (first | exact trivial | refine And.intro ?_ ?_ | (refine wk_cons ?_ ?_))) <;> first | rfl | exact ren_eq (by first | (simp; done) | fail) (by first | rfl | fail) | fail
                · obtain rfl : j = D.length / 64 := by omega
                  have hge : decide (((D.length - 64 * (D.length / 64) : Nat) : Int) > 0) = false := by simp; omega
                  obtain ⟨H, hH⟩ : ∃ H, H = blks_n k S D (D.length / 64) := ⟨_, rfl⟩
                  rw [← hH] at hbl hfin ⊢
                  conv => whnf
                  first | refine brF (by exact hge) ?_ | fail
                  conv => whnf
                  repeat (first | (refine Exists.intro _ (And.intro rfl ?_); conv => whnf) | fail)
                  refine SWp.weak (Weak.virt 12 5 1 rfl) ?_
                  refine loop_rule ttOk mixed (by kernel_rfl) (ι := { i : Nat // i ≤ 8 }) (fun i => [(0, .p 0 0), (12, .sl 6 0 (4 * i.1) 1 false), (110, .sl 1 0 8 1 false), (111, .i 8), (112, .i (i.1 : Int))]) (fun i => [some (.ro (mach_n 1 2)), some (.row 23 (H.map .u32)), some (.ro (k.map .u32)), some (.ro [.sl 4 0 b0.length 1 f0, .sl 5 0 b1.length 1 f1]), some (.ro (b0.map .u8)), some (.ro (b1.map .u8)), some (.row 5 ((outl_n H (4 * i.1)).map .u8))]) (fun _ => 6 + 1) (fun i => 8 - i.1) ⟨0, by omega⟩ ?_ ?_
                  · have hz := outl_z_n H
                    dsimp only
                    rw [hz]
                    refine Weak.sel [0, 1, 2, 3, 4, 5, 6 + 1] rfl rfl ?_ ?_ rfl rfl
                    · (repeat' (first | exact trivial | refine And.intro ?_ ?_ | fail)) <;> first | rfl | fail
                    · (repeat' (first | exact trivial | refine And.intro ?_ ?_ | (refine wk_cons ?_ ?_))) <;> first | rfl | exact ren_eq (by first | (simp; done) | fail) (by first | rfl | fail) | fail
                  · rintro ⟨i, hi⟩
                    dsimp only
                    by_cases hi8 : i < 8
                    · have hlt : decide ((i : Int) < 8) = true := by simp; omega
                      have hp := wp1i i (by omega)
                      conv => whnf
                      first | refine brT (by exact hlt) ?_ | fail
                      conv => whnf
                      repeat (first | (refine Exists.intro _ (And.intro (sload_u32 (i := i) (by first | rfl | omega | fail) (by first | omega | fail)) ?_); conv => whnf) | (refine Exists.intro _ (And.intro (idx_i (m := i) (by first | rfl | fail)) ?_); conv => whnf) | (refine Exists.intro _ (And.intro rfl ?_); conv => whnf) | (refine And.intro (by first | omega | fail) ?_; conv => whnf) | fail)
                      refine loop_rule ttOk mixed (by kernel_rfl) (ι := { m : Nat // m ≤ 4 }) (fun m => [(0, .p 0 0), (12, .sl 6 0 (4 * i + m.1) 1 false), (14, .u32 (H.getD i 0)), (15, .i (3 - (m.1 : Int))), (110, .sl 1 0 8 1 false), (111, .i 8), (112, .i (i : Int))]) (fun m => [some (.ro (mach_n 1 2)), some (.row 23 (H.map .u32)), some (.ro (k.map .u32)), some (.ro [.sl 4 0 b0.length 1 f0, .sl 5 0 b1.length 1 f1]), some (.ro (b0.map .u8)), some (.ro (b1.map .u8)), some (.row 5 ((outl_n H (4 * i + m.1)).map .u8))]) (fun _ => 6 + 1) (fun m => 4 - m.1) ⟨0, by omega⟩ ?_ ?_
                      · refine Weak.sel [0, 1, 2, 3, 4, 5, 6] rfl rfl ?_ ?_ rfl rfl
                        · (repeat' (first | exact trivial | refine And.intro ?_ ?_ | fail)) <;> first | rfl | fail
                        · (repeat' (first | exact trivial | refine And.intro ?_ ?_ | (refine wk_cons ?_ ?_))) <;> first | rfl | exact ren_eq (by first | (simp; done) | fail) (by first | rfl | fail) | fail
                      · rintro ⟨m, hm⟩
                        dsimp only
                        have hol := outl_len_n H (4 * i + m)
                        by_cases hm4 : m < 4
                        · have hge : decide ((3 - (m : Int)) ≥ 0) = true := by simp; omega
                          have h8 : w64 (8 * (3 - (m : Int))) = ((8 * (3 - m) : Nat) : Int) := by simp only [w64_eq]; omega
                          have hp2 : w64 (3 - (m : Int) - 1) = 3 - ((m + 1 : Nat) : Int) := by simp only [w64_eq]; omega
                          have hs := outl_s_n H i m hm4
                          obtain ⟨Z, hZ⟩ : ∃ Z, Z = outl_n H (4 * i + m) := ⟨_, rfl⟩
                          rw [← hZ] at hol hs ⊢
                          have hap4 : (Z ++ [(shr32 (H.getD i 0) (8 * (3 - m))).toUInt8]).map SV.u8 = List.take ((4 * i + m) * 1) (List.drop 0 (Z.map SV.u8)) ++ List.take (1 * 1) (List.drop 0 [SV.u8 (shr32 (H.getD i 0) (8 * (3 - m))).toUInt8]) := (cat8 (o := 0) (n := 4 * i + m) (E := Z) (b := [(shr32 (H.getD i 0) (8 * (3 - m))).toUInt8]) (by omega) rfl).symm
                          conv => whnf
                          first | refine brT (by exact hge) ?_ | fail
                          conv => whnf
                          repeat (fail)
                          refine ⟨_, mshr_32 h8, ?_⟩
                          conv => whnf
                          repeat (first | (refine Exists.intro _ (And.intro rfl ?_); conv => whnf) | (refine And.intro (by first | omega | (simp [ti5]; omega)) ?_; conv => whnf) | fail)
                          refine ⟨⟨m + 1, by omega⟩, by simp only; omega, ?_⟩
                          dsimp only
                          rw [hs]
                          refine Weak.sel [0, 1, 2, 3, 4, 5, 6 + 2] rfl rfl ?_ ?_ rfl rfl
                          · (repeat' (first | exact trivial | refine And.intro ?_ ?_ | fail)) <;> first | exact wk_i (by first | exact hp2 | exact hp2.symm | fail) | rfl | fail
                          · (repeat' (first | exact trivial | exact ren_eq (plainL_u8 _) hap4 | refine And.intro ?_ ?_ | (refine wk_cons ?_ ?_))) <;> first | rfl | exact ren_eq (by first | (simp; done) | fail) (by first | rfl | fail) | fail
                        · obtain rfl : m = 4 := by omega
                          conv => whnf
                          first | refine brF (by rfl) ?_ | fail
                          conv => whnf
                          repeat (fail)
                          refine ⟨⟨i + 1, by omega⟩, by simp only; omega, ?_⟩
                          dsimp only
                          rw [show 4 * (i + 1) = 4 * i + 4 by omega]
                          refine Weak.sel [0, 1, 2, 3, 4, 5, 6] rfl rfl ?_ ?_ rfl rfl
                          · (repeat' (first | exact trivial | refine And.intro ?_ ?_ | fail)) <;> first | exact wk_i (by first | exact hp | exact hp.symm | fail) | rfl | fail
                          · (repeat' (first | exact trivial | refine And.intro ?_ ?_ | (refine wk_cons ?_ ?_))) <;> first | rfl | exact ren_eq (by first | (simp; done) | fail) (by first | rfl | fail) | fail
                    · obtain rfl : i = 8 := by omega
                      rw [outb_e_n] at hfin
                      rw [← hfin]
                      conv => whnf
                      first | refine brF (by rfl) ?_ | fail
                      conv => whnf
                      refine ⟨[0, 1, 2, 3, 4, 5, 6], ?_, rfl, rfl, ?_, rfl⟩
                      · (repeat' (fail)) <;> first | rfl | fail
                      · (repeat' (first | exact trivial | refine And.intro ?_ ?_ | (refine wk_cons ?_ ?_))) <;> first | rfl | exact ren_eq (by first | (simp; done) | fail) (by first | rfl | fail) | fail
end Go.Sh
/- sha: the narrow machine's sum (f102), walked, of texts in parts. -/
namespace Go.Sh
open Go.Proofs
set_option maxHeartbeats 4000000
set_option linter.unusedSimpArgs false
set_option linter.unusedVariables false

attribute [local irreducible] comp_n
attribute [local irreducible] blks_n st_n rest_n hash_n pz_n outl_n outb_n lset_n last_n
theorem f102_bobb (h k : List UInt32) (hh : h.length = 8) (hk : k.length = 64) (b0 b2 b3 : List UInt8) (hb0 : b0.length < 100000000000000) (hb2 : b2.length < 100000000000000) (hb3 : b3.length < 100000000000000) (f0 f2 f3 fl : Bool) : SCall Try.prog 102 [.p 0 0, .sl 3 0 4 1 fl] [some (.ro (mach_n 1 2)), some (.row 23 (h.map .u32)), some (.ro (k.map .u32)), some (.ro [.sl 4 0 b0.length 1 f0, .slnil, .sl 5 0 b2.length 1 f2, .sl 6 0 b3.length 1 f3]), some (.ro (b0.map .u8)), some (.ro (b2.map .u8)), some (.ro (b3.map .u8))] (.sl 7 0 32 1 false) [some (.ro (mach_n 1 2)), none, some (.ro (k.map .u32)), some (.ro [.sl 4 0 b0.length 1 f0, .slnil, .sl 5 0 b2.length 1 f2, .sl 6 0 b3.length 1 f3]), some (.ro (b0.map .u8)), some (.ro (b2.map .u8)), some (.ro (b3.map .u8)), some (.row 5 ((hash_n k h (b0 ++ b2 ++ b3)).map .u8))] := by
  obtain ⟨tx, htx⟩ : ∃ tx : Nat → List UInt8, tx = fun i => ([b0, [], b2, b3].take i).flatten := ⟨_, rfl⟩
  have tx0 : tx 0 = [] := by rw [htx]; rfl
  have tx1 : tx 1 = tx 0 ++ b0 := by rw [htx]; simp
  have tx2 : tx 2 = tx 1 ++ [] := by rw [htx]; simp
  have tx3 : tx 3 = tx 2 ++ b2 := by rw [htx]; simp
  have tx4 : tx 4 = tx 3 ++ b3 := by rw [htx]; simp
  have htp : tx 4 = b0 ++ b2 ++ b3 := by rw [htx]; simp
  have he : hash_n k h (b0 ++ b2 ++ b3) = hash_n k h (tx 4) := by rw [htp]
  rw [he]
  have hl0 : (tx 0).length = 0 := by rw [tx0]; rfl
  have hl1 : (tx 1).length = (tx 0).length + b0.length := by rw [tx1, List.length_append]
  have hl2 : (tx 2).length = (tx 1).length + 0 := by rw [tx2, List.length_append]; rfl
  have hl3 : (tx 3).length = (tx 2).length + b2.length := by rw [tx3, List.length_append]
  have hl4 : (tx 4).length = (tx 3).length + b3.length := by rw [tx4, List.length_append]
  clear htx
  refine scall_of ttOk (by kernel_rfl : Try.prog.funcs[102]? = some Try.f102) rfl rfl rfl ?_
  try simp only [List.length_cons, List.length_nil, Nat.zero_add, Nat.reduceAdd]
  refine sw_ok ttOk mixed (by kernel_rfl) ?_
  conv => whnf
  repeat (first | (refine Exists.intro _ (And.intro rfl ?_); conv => whnf) | fail)
  refine SWp.weak (Weak.virt 6 5 1 rfl) ?_
  refine loop_rule ttOk mixed (by kernel_rfl) (ι := { x : Nat × List UInt8 × Nat // x.1 ≤ 4 ∧ x.2.2 ≤ x.2.1.length ∧ x.2.1.drop x.2.2 = rest_n (tx x.1) }) (fun x => [(0, .p 0 0), (5, .i 64), (6, .sl 7 x.1.2.2 (x.1.2.1.length - x.1.2.2) 1 false), (7, .u64 (UInt64.ofNat (tx x.1.1).length)), (21, .sl 3 0 4 1 fl), (22, .i 4), (23, .i (x.1.1 : Int))]) (fun x => [some (.ro (mach_n 1 2)), some (.row 23 ((st_n k h (tx x.1.1)).map .u32)), some (.ro (k.map .u32)), some (.ro [.sl 4 0 b0.length 1 f0, .slnil, .sl 5 0 b2.length 1 f2, .sl 6 0 b3.length 1 f3]), some (.ro (b0.map .u8)), some (.ro (b2.map .u8)), some (.ro (b3.map .u8)), some (.row 5 (x.1.2.1.map .u8))]) (fun _ => 8) (fun x => 4 - x.1.1) ⟨(0, [], 0), by omega, by simp, by rw [tx0]; exact rest_nil_n.symm⟩ ?_ ?_
  · dsimp only
    rw [tx0, st_nil_n]
    refine Weak.sel [0, 1, 2, 3, 4, 5, 6, 7] rfl rfl ?_ ?_ rfl rfl
    · (repeat' (first | exact trivial | refine And.intro ?_ ?_ | fail)) <;> first | rfl | fail
    · (repeat' (first | exact trivial | refine And.intro ?_ ?_ | (refine wk_cons ?_ ?_))) <;> first | rfl | exact ren_eq (by first | (simp; done) | fail) (by first | rfl | fail) | fail
  · rintro ⟨⟨i, E, o⟩, hi, ho, hE⟩
    dsimp only at hi ho hE ⊢
    have hsl := st_len_n k hh (tx i)
    have hrl := rest_len_n (tx i)
    obtain ⟨S, hS⟩ : ∃ S, S = st_n k h (tx i) := ⟨_, rfl⟩
    rw [← hS] at hsl ⊢
    have hEl : E.length - o = (rest_n (tx i)).length := by rw [← hE, List.length_drop]
    by_cases hi2 : i < 4
    · have hic : i = 0 ∨ i = 1 ∨ i = 2 ∨ i = 3 := by omega
      rcases hic with rfl | rfl | rfl | rfl
      ·
        have hq := feed_st_n k h (tx 0) b0
        have hq2 := feed_rest_n (tx 0) b0
        rw [← hS] at hq
        rw [← tx1] at hq hq2
        rw [← hE] at hq hq2 hEl
        have hap : (E.drop o ++ b0).map SV.u8 = List.take ((E.length - o) * 1) (List.drop o (E.map SV.u8)) ++ List.take (b0.length * 1) (List.drop 0 (b0.map SV.u8)) := (cat8 rfl rfl).symm
        have hDl : (E.drop o ++ b0).length = E.length - o + b0.length := by rw [List.length_append, List.length_drop]
        have hel : E.length - o < 64 := by rw [← List.length_drop, hE, hrl]; omega
        have hul : UInt64.ofNat (tx 0).length + u64i (b0.length : Int) = UInt64.ofNat (tx 1).length := by rw [u64_add_i _ _ (by omega), tx1, List.length_append]
        clear hS hrl
        conv => whnf
        first | refine brT (by rfl) ?_ | fail
        conv => whnf
        repeat (first | (refine Exists.intro _ (And.intro rfl ?_); conv => whnf) | (refine And.intro (by first | omega | (simp [ti5]; omega)) ?_; conv => whnf) | fail)
        obtain ⟨D, hD⟩ : ∃ D, D = E.drop o ++ b0 := ⟨_, rfl⟩
        rw [← hD] at hq hq2 hap hDl
        refine loop_rule ttOk mixed (by kernel_rfl) (ι := { j : Nat // 64 * j ≤ D.length }) (fun j => [(0, .p 0 0), (5, .i 64), (6, .sl 7 (64 * j.1) (D.length - 64 * j.1) 1 false), (7, .u64 (UInt64.ofNat (tx 1).length)), (21, .sl 3 0 4 1 fl), (22, .i 4), (23, .i 0)]) (fun j => [some (.ro (mach_n 1 2)), some (.row 23 ((blks_n k S D j.1).map .u32)), some (.ro (k.map .u32)), some (.ro [.sl 4 0 b0.length 1 f0, .slnil, .sl 5 0 b2.length 1 f2, .sl 6 0 b3.length 1 f3]), some (.ro (b0.map .u8)), some (.ro (b2.map .u8)), some (.ro (b3.map .u8)), some (.row 5 (D.map .u8))]) (fun _ => 7 + 1) (fun j => D.length - 64 * j.1) ⟨0, by omega⟩ ?_ ?_
        · have hz := blks_z_n k S D
          have hDn : E.length - o + b0.length = D.length - 64 * 0 := by omega
          dsimp only
          rw [hz]
          refine Weak.sel [0, 1, 2, 3, 4, 5, 6, 8] rfl rfl ?_ ?_ rfl rfl
          · (repeat' (first | exact trivial | refine And.intro ?_ ?_ | fail)) <;> first | exact wk_u64 (by first | exact hul | exact hul.symm | fail) | rfl | exact wk_sl rfl (by first | rfl | fail) (by first | exact hDn.symm | fail) | fail
          · (repeat' (first | exact trivial | exact ren_eq (plainL_u8 _) hap | refine And.intro ?_ ?_ | (refine wk_cons ?_ ?_))) <;> first | rfl | exact ren_eq (by first | (simp; done) | fail) (by first | rfl | fail) | fail
        · rintro ⟨j, hj⟩
          dsimp only
          have hbl := blks_len_n k hsl D j
          by_cases hc : 64 * (j + 1) ≤ D.length
          · have hge : decide (((D.length - 64 * j : Nat) : Int) ≥ 64) = true := by simp; omega
            have hs := blks_s_n k S D j
            have q139 := f139D (blks_n k S D j) k D (64 * j) hbl hk (by omega) false
            rw [← hs] at q139
            conv => whnf
            first | refine brT (by exact hge) ?_ | fail
            conv => whnf
            repeat (first | (refine Exists.intro _ (And.intro rfl ?_); conv => whnf) | (refine And.intro (by first | omega | fail) ?_; conv => whnf) | fail)
            refine ok1_callF [0, 1, 2, 7] [false, true, false, false] true (q139) rfl rfl ⟨⟨rfl, by first | rfl | fail⟩, by (repeat' (first | exact trivial | refine And.intro ?_ ?_)) <;> first | rfl | exact ren_eq (by first | (simp; done) | fail) (by first | rfl | fail) | fail, by first | simp [plainHf, plainB], by first | rfl | fail, ?_⟩
            conv => whnf
            repeat (first | (refine Exists.intro _ (And.intro rfl ?_); conv => whnf) | (refine And.intro (by first | omega | fail) ?_; conv => whnf) | fail)
            refine ⟨⟨j + 1, hc⟩, by simp only; omega, ?_⟩
            dsimp only
            refine Weak.sel [0, 1, 2, 3, 4, 5, 6, 7] rfl rfl ?_ ?_ rfl rfl
            · (repeat' (first | exact trivial | refine And.intro ?_ ?_ | fail)) <;> first | rfl | fail
            · (repeat' (first | exact trivial | refine And.intro ?_ ?_ | (refine wk_cons ?_ ?_))) <;> first | rfl | exact ren_eq (by first | (simp; done) | fail) (by first | rfl | fail) | fail
          · obtain rfl : j = D.length / 64 := by omega
            have hge : decide (((D.length - 64 * (D.length / 64) : Nat) : Int) ≥ 64) = false := by simp; omega
            rw [hq]
            conv => whnf
            first | refine brF (by exact hge) ?_ | fail
            conv => whnf
            repeat (fail)
            refine ⟨⟨(1, D, 64 * (D.length / 64)), by omega, by simp only; omega, hq2⟩, by simp only; omega, ?_⟩
            dsimp only
            refine Weak.sel [0, 1, 2, 3, 4, 5, 6, 7] rfl rfl ?_ ?_ rfl rfl
            · (repeat' (first | exact trivial | refine And.intro ?_ ?_ | fail)) <;> first | rfl | fail
            · (repeat' (first | exact trivial | refine And.intro ?_ ?_ | (refine wk_cons ?_ ?_))) <;> first | rfl | exact ren_eq (by first | (simp; done) | fail) (by first | rfl | fail) | fail
      ·
        have hq : st_n k h (tx 2) = S := by rw [hS, tx2, List.append_nil]
        have hq2 : E.drop o = rest_n (tx 2) := by rw [hE, tx2, List.append_nil]
        have hel : E.length - o < 64 := by rw [← List.length_drop, hE, hrl]; omega
        have htJ : tx 1 = tx 2 := by rw [tx2, List.append_nil]
        have hge : decide (((E.length - o : Nat) : Int) ≥ 64) = false := by simp; omega
        have hul : UInt64.ofNat (tx 1).length + u64i (0 : Int) = UInt64.ofNat (tx 2).length := by rw [← htJ]; exact UInt64.add_zero _
        conv => whnf
        first | refine brT (by rfl) ?_ | fail
        conv => whnf
        repeat (first | (refine Exists.intro _ (And.intro rfl ?_); conv => whnf) | (refine And.intro (by first | omega | fail) ?_; conv => whnf) | fail)
        refine loop_rule ttOk mixed (by kernel_rfl) (ι := Unit) (fun _ => [(0, .p 0 0), (5, .i 64), (6, .sl 7 o (E.length - o) 1 false), (7, .u64 (UInt64.ofNat (tx 2).length)), (21, .sl 3 0 4 1 fl), (22, .i 4), (23, .i 1)]) (fun _ => [some (.ro (mach_n 1 2)), some (.row 23 (S.map .u32)), some (.ro (k.map .u32)), some (.ro [.sl 4 0 b0.length 1 f0, .slnil, .sl 5 0 b2.length 1 f2, .sl 6 0 b3.length 1 f3]), some (.ro (b0.map .u8)), some (.ro (b2.map .u8)), some (.ro (b3.map .u8)), some (.row 5 (E.map .u8))]) (fun _ => 7 + 1) (fun _ => 0) () ?_ ?_
        · refine Weak.sel [0, 1, 2, 3, 4, 5, 6, 7] rfl rfl ?_ ?_ rfl rfl
          · (repeat' (first | exact trivial | refine And.intro ?_ ?_ | fail)) <;> first | exact wk_u64 (by first | exact hul | exact hul.symm | fail) | rfl | fail
          · (repeat' (first | exact trivial | refine And.intro ?_ ?_ | (refine wk_cons ?_ ?_))) <;> first | rfl | exact ren_eq (by first | (simp; done) | fail) (by first | rfl | fail) | fail
        · intro _
          dsimp only
          conv => whnf
          first | refine brF (by exact hge) ?_ | fail
          conv => whnf
          repeat (fail)
          refine ⟨⟨(2, E, o), by omega, ho, hq2⟩, by simp only; omega, ?_⟩
          dsimp only
          rw [hq]
          refine Weak.sel [0, 1, 2, 3, 4, 5, 6, 7] rfl rfl ?_ ?_ rfl rfl
          · (repeat' (first | exact trivial | refine And.intro ?_ ?_ | fail)) <;> first | rfl | fail
          · (repeat' (first | exact trivial | refine And.intro ?_ ?_ | (refine wk_cons ?_ ?_))) <;> first | rfl | exact ren_eq (by first | (simp; done) | fail) (by first | rfl | fail) | fail
      ·
        have hq := feed_st_n k h (tx 2) b2
        have hq2 := feed_rest_n (tx 2) b2
        rw [← hS] at hq
        rw [← tx3] at hq hq2
        rw [← hE] at hq hq2 hEl
        have hap : (E.drop o ++ b2).map SV.u8 = List.take ((E.length - o) * 1) (List.drop o (E.map SV.u8)) ++ List.take (b2.length * 1) (List.drop 0 (b2.map SV.u8)) := (cat8 rfl rfl).symm
        have hDl : (E.drop o ++ b2).length = E.length - o + b2.length := by rw [List.length_append, List.length_drop]
        have hel : E.length - o < 64 := by rw [← List.length_drop, hE, hrl]; omega
        have hul : UInt64.ofNat (tx 2).length + u64i (b2.length : Int) = UInt64.ofNat (tx 3).length := by rw [u64_add_i _ _ (by omega), tx3, List.length_append]
        clear hS hrl
        conv => whnf
        first | refine brT (by rfl) ?_ | fail
        conv => whnf
        repeat (first | (refine Exists.intro _ (And.intro rfl ?_); conv => whnf) | (refine And.intro (by first | omega | (simp [ti5]; omega)) ?_; conv => whnf) | fail)
        obtain ⟨D, hD⟩ : ∃ D, D = E.drop o ++ b2 := ⟨_, rfl⟩
        rw [← hD] at hq hq2 hap hDl
        refine loop_rule ttOk mixed (by kernel_rfl) (ι := { j : Nat // 64 * j ≤ D.length }) (fun j => [(0, .p 0 0), (5, .i 64), (6, .sl 7 (64 * j.1) (D.length - 64 * j.1) 1 false), (7, .u64 (UInt64.ofNat (tx 3).length)), (21, .sl 3 0 4 1 fl), (22, .i 4), (23, .i 2)]) (fun j => [some (.ro (mach_n 1 2)), some (.row 23 ((blks_n k S D j.1).map .u32)), some (.ro (k.map .u32)), some (.ro [.sl 4 0 b0.length 1 f0, .slnil, .sl 5 0 b2.length 1 f2, .sl 6 0 b3.length 1 f3]), some (.ro (b0.map .u8)), some (.ro (b2.map .u8)), some (.ro (b3.map .u8)), some (.row 5 (D.map .u8))]) (fun _ => 7 + 1) (fun j => D.length - 64 * j.1) ⟨0, by omega⟩ ?_ ?_
        · have hz := blks_z_n k S D
          have hDn : E.length - o + b2.length = D.length - 64 * 0 := by omega
          dsimp only
          rw [hz]
          refine Weak.sel [0, 1, 2, 3, 4, 5, 6, 8] rfl rfl ?_ ?_ rfl rfl
          · (repeat' (first | exact trivial | refine And.intro ?_ ?_ | fail)) <;> first | exact wk_u64 (by first | exact hul | exact hul.symm | fail) | rfl | exact wk_sl rfl (by first | rfl | fail) (by first | exact hDn.symm | fail) | fail
          · (repeat' (first | exact trivial | exact ren_eq (plainL_u8 _) hap | refine And.intro ?_ ?_ | (refine wk_cons ?_ ?_))) <;> first | rfl | exact ren_eq (by first | (simp; done) | fail) (by first | rfl | fail) | fail
        · rintro ⟨j, hj⟩
          dsimp only
          have hbl := blks_len_n k hsl D j
          by_cases hc : 64 * (j + 1) ≤ D.length
          · have hge : decide (((D.length - 64 * j : Nat) : Int) ≥ 64) = true := by simp; omega
            have hs := blks_s_n k S D j
            have q139 := f139D (blks_n k S D j) k D (64 * j) hbl hk (by omega) false
            rw [← hs] at q139
            conv => whnf
            first | refine brT (by exact hge) ?_ | fail
            conv => whnf
            repeat (first | (refine Exists.intro _ (And.intro rfl ?_); conv => whnf) | (refine And.intro (by first | omega | fail) ?_; conv => whnf) | fail)
            refine ok1_callF [0, 1, 2, 7] [false, true, false, false] true (q139) rfl rfl ⟨⟨rfl, by first | rfl | fail⟩, by (repeat' (first | exact trivial | refine And.intro ?_ ?_)) <;> first | rfl | exact ren_eq (by first | (simp; done) | fail) (by first | rfl | fail) | fail, by first | simp [plainHf, plainB], by first | rfl | fail, ?_⟩
            conv => whnf
            repeat (first | (refine Exists.intro _ (And.intro rfl ?_); conv => whnf) | (refine And.intro (by first | omega | fail) ?_; conv => whnf) | fail)
            refine ⟨⟨j + 1, hc⟩, by simp only; omega, ?_⟩
            dsimp only
            refine Weak.sel [0, 1, 2, 3, 4, 5, 6, 7] rfl rfl ?_ ?_ rfl rfl
            · (repeat' (first | exact trivial | refine And.intro ?_ ?_ | fail)) <;> first | rfl | fail
            · (repeat' (first | exact trivial | refine And.intro ?_ ?_ | (refine wk_cons ?_ ?_))) <;> first | rfl | exact ren_eq (by first | (simp; done) | fail) (by first | rfl | fail) | fail
          · obtain rfl : j = D.length / 64 := by omega
            have hge : decide (((D.length - 64 * (D.length / 64) : Nat) : Int) ≥ 64) = false := by simp; omega
            rw [hq]
            conv => whnf
            first | refine brF (by exact hge) ?_ | fail
            conv => whnf
            repeat (fail)
            refine ⟨⟨(3, D, 64 * (D.length / 64)), by omega, by simp only; omega, hq2⟩, by simp only; omega, ?_⟩
            dsimp only
            refine Weak.sel [0, 1, 2, 3, 4, 5, 6, 7] rfl rfl ?_ ?_ rfl rfl
            · (repeat' (first | exact trivial | refine And.intro ?_ ?_ | fail)) <;> first | rfl | fail
            · (repeat' (first | exact trivial | refine And.intro ?_ ?_ | (refine wk_cons ?_ ?_))) <;> first | rfl | exact ren_eq (by first | (simp; done) | fail) (by first | rfl | fail) | fail
      ·
        have hq := feed_st_n k h (tx 3) b3
        have hq2 := feed_rest_n (tx 3) b3
        rw [← hS] at hq
        rw [← tx4] at hq hq2
        rw [← hE] at hq hq2 hEl
        have hap : (E.drop o ++ b3).map SV.u8 = List.take ((E.length - o) * 1) (List.drop o (E.map SV.u8)) ++ List.take (b3.length * 1) (List.drop 0 (b3.map SV.u8)) := (cat8 rfl rfl).symm
        have hDl : (E.drop o ++ b3).length = E.length - o + b3.length := by rw [List.length_append, List.length_drop]
        have hel : E.length - o < 64 := by rw [← List.length_drop, hE, hrl]; omega
        have hul : UInt64.ofNat (tx 3).length + u64i (b3.length : Int) = UInt64.ofNat (tx 4).length := by rw [u64_add_i _ _ (by omega), tx4, List.length_append]
        clear hS hrl
        conv => whnf
        first | refine brT (by rfl) ?_ | fail
        conv => whnf
        repeat (first | (refine Exists.intro _ (And.intro rfl ?_); conv => whnf) | (refine And.intro (by first | omega | (simp [ti5]; omega)) ?_; conv => whnf) | fail)
        obtain ⟨D, hD⟩ : ∃ D, D = E.drop o ++ b3 := ⟨_, rfl⟩
        rw [← hD] at hq hq2 hap hDl
        refine loop_rule ttOk mixed (by kernel_rfl) (ι := { j : Nat // 64 * j ≤ D.length }) (fun j => [(0, .p 0 0), (5, .i 64), (6, .sl 7 (64 * j.1) (D.length - 64 * j.1) 1 false), (7, .u64 (UInt64.ofNat (tx 4).length)), (21, .sl 3 0 4 1 fl), (22, .i 4), (23, .i 3)]) (fun j => [some (.ro (mach_n 1 2)), some (.row 23 ((blks_n k S D j.1).map .u32)), some (.ro (k.map .u32)), some (.ro [.sl 4 0 b0.length 1 f0, .slnil, .sl 5 0 b2.length 1 f2, .sl 6 0 b3.length 1 f3]), some (.ro (b0.map .u8)), some (.ro (b2.map .u8)), some (.ro (b3.map .u8)), some (.row 5 (D.map .u8))]) (fun _ => 7 + 1) (fun j => D.length - 64 * j.1) ⟨0, by omega⟩ ?_ ?_
        · have hz := blks_z_n k S D
          have hDn : E.length - o + b3.length = D.length - 64 * 0 := by omega
          dsimp only
          rw [hz]
          refine Weak.sel [0, 1, 2, 3, 4, 5, 6, 8] rfl rfl ?_ ?_ rfl rfl
          · (repeat' (first | exact trivial | refine And.intro ?_ ?_ | fail)) <;> first | exact wk_u64 (by first | exact hul | exact hul.symm | fail) | rfl | exact wk_sl rfl (by first | rfl | fail) (by first | exact hDn.symm | fail) | fail
          · (repeat' (first | exact trivial | exact ren_eq (plainL_u8 _) hap | refine And.intro ?_ ?_ | (refine wk_cons ?_ ?_))) <;> first | rfl | exact ren_eq (by first | (simp; done) | fail) (by first | rfl | fail) | fail
        · rintro ⟨j, hj⟩
          dsimp only
          have hbl := blks_len_n k hsl D j
          by_cases hc : 64 * (j + 1) ≤ D.length
          · have hge : decide (((D.length - 64 * j : Nat) : Int) ≥ 64) = true := by simp; omega
            have hs := blks_s_n k S D j
            have q139 := f139D (blks_n k S D j) k D (64 * j) hbl hk (by omega) false
            rw [← hs] at q139
            conv => whnf
            first | refine brT (by exact hge) ?_ | fail
            conv => whnf
            repeat (first | (refine Exists.intro _ (And.intro rfl ?_); conv => whnf) | (refine And.intro (by first | omega | fail) ?_; conv => whnf) | fail)
            refine ok1_callF [0, 1, 2, 7] [false, true, false, false] true (q139) rfl rfl ⟨⟨rfl, by first | rfl | fail⟩, by (repeat' (first | exact trivial | refine And.intro ?_ ?_)) <;> first | rfl | exact ren_eq (by first | (simp; done) | fail) (by first | rfl | fail) | fail, by first | simp [plainHf, plainB], by first | rfl | fail, ?_⟩
            conv => whnf
            repeat (first | (refine Exists.intro _ (And.intro rfl ?_); conv => whnf) | (refine And.intro (by first | omega | fail) ?_; conv => whnf) | fail)
            refine ⟨⟨j + 1, hc⟩, by simp only; omega, ?_⟩
            dsimp only
            refine Weak.sel [0, 1, 2, 3, 4, 5, 6, 7] rfl rfl ?_ ?_ rfl rfl
            · (repeat' (first | exact trivial | refine And.intro ?_ ?_ | fail)) <;> first | rfl | fail
            · (repeat' (first | exact trivial | refine And.intro ?_ ?_ | (refine wk_cons ?_ ?_))) <;> first | rfl | exact ren_eq (by first | (simp; done) | fail) (by first | rfl | fail) | fail
          · obtain rfl : j = D.length / 64 := by omega
            have hge : decide (((D.length - 64 * (D.length / 64) : Nat) : Int) ≥ 64) = false := by simp; omega
            rw [hq]
            conv => whnf
            first | refine brF (by exact hge) ?_ | fail
            conv => whnf
            repeat (fail)
            refine ⟨⟨(4, D, 64 * (D.length / 64)), by omega, by simp only; omega, hq2⟩, by simp only; omega, ?_⟩
            dsimp only
            refine Weak.sel [0, 1, 2, 3, 4, 5, 6, 7] rfl rfl ?_ ?_ rfl rfl
            · (repeat' (first | exact trivial | refine And.intro ?_ ?_ | fail)) <;> first | rfl | fail
            · (repeat' (first | exact trivial | refine And.intro ?_ ?_ | (refine wk_cons ?_ ?_))) <;> first | rfl | exact ren_eq (by first | (simp; done) | fail) (by first | rfl | fail) | fail
    · obtain rfl : i = 4 := by omega
      obtain ⟨n, hn⟩ : ∃ n, n = E.length - o := ⟨_, rfl⟩
      have hnE : o + n = E.length := by omega
      rw [← hn]
      have hcat : (rest_n (tx 4) ++ [128]).map SV.u8 = List.take (n * 1) (List.drop o (E.map SV.u8)) ++ List.take (1 * 1) (List.drop 0 [SV.u8 128]) := by rw [← hE]; exact (cat8 (b := [128]) hn rfl).symm
      have hdd : decide (((n : Nat) : Int).toNat = ((n : Nat) : Int).toNat) = true := by simp
      conv => whnf
      first | refine brF (by rfl) ?_ | fail
      conv => whnf
      repeat (first | (refine Exists.intro _ (And.intro rfl ?_); conv => whnf) | (refine And.intro (by first | omega | fail) ?_; conv => whnf) | fail)
      rw [hdd]
      rw [Int.toNat_natCast]
      have hnl : n = (rest_n (tx 4)).length := by rw [hn, ← hE, List.length_drop]
      have hn64 : n < 64 := by rw [hnl, hrl]; omega
      have hpz := pz_rest_n (tx 4)
      rw [← hnl] at hpz
      have hpl : pz_n n < 64 := by unfold pz_n; exact Nat.mod_lt _ (by decide)
      conv => whnf
      refine And.intro ⟨by show _ ≤ (E.map SV.u8).length; rw [List.length_map]; omega, by decide, by show _ * 1 ≤ _; omega, by decide⟩ ?_
      conv => whnf
      repeat (fail)
      refine loop_rule ttOk mixed (by kernel_rfl) (ι := { j : Nat // j ≤ pz_n n }) (fun j => [(0, .p 0 0), (5, .i 64), (6, .sl 7 0 (n + 1 + j.1) 1 false), (7, .u64 (UInt64.ofNat (tx 4).length))]) (fun j => [some (.ro (mach_n 1 2)), some (.row 23 (S.map .u32)), some (.ro (k.map .u32)), some (.ro [.sl 4 0 b0.length 1 f0, .slnil, .sl 5 0 b2.length 1 f2, .sl 6 0 b3.length 1 f3]), some (.ro (b0.map .u8)), some (.ro (b2.map .u8)), some (.ro (b3.map .u8)), some (.row 5 ((rest_n (tx 4) ++ [128] ++ List.replicate j.1 0).map .u8))]) (fun _ => 7 + 1) (fun j => pz_n n - j.1) ⟨0, by omega⟩ ?_ ?_
      · have hz : rest_n (tx 4) ++ [128] ++ List.replicate 0 0 = rest_n (tx 4) ++ [128] := List.append_nil _
        dsimp only
        rw [hz]
        refine Weak.sel [0, 1, 2, 3, 4, 5, 6, 7 + 2] rfl rfl ?_ ?_ rfl rfl
        · (repeat' (first | exact trivial | refine And.intro ?_ ?_ | fail)) <;> first | rfl | fail
        · (repeat' (first | exact trivial | exact ren_eq (plainL_u8 _) hcat | refine And.intro ?_ ?_ | (refine wk_cons ?_ ?_))) <;> first | rfl | exact ren_eq (by first | (simp; done) | fail) (by first | rfl | fail) | fail
      · rintro ⟨j, hj⟩
        dsimp only
        obtain ⟨Y, hY⟩ : ∃ Y, Y = rest_n (tx 4) ++ [128] ++ List.replicate j 0 := ⟨_, rfl⟩
        have hYl : Y.length = n + 1 + j := by rw [hY, List.length_append, List.length_append, ← hnl, List.length_replicate]; rfl
        have hYs : rest_n (tx 4) ++ [128] ++ List.replicate (j + 1) 0 = Y ++ [0] := by rw [hY, List.replicate_succ', List.append_assoc]; simp
        by_cases hj2 : j < pz_n n
        · have hno := padz_no_n hj2
          have hcd : (((w64 (((n + 1 + j : Nat) : Int) + w64 (2 * 4))).tmod 64) != 0) = true := by
            have e : w64 (((n + 1 + j : Nat) : Int) + w64 (2 * 4)) = ((n + 1 + j + 8 : Nat) : Int) := by simp only [w64_eq]; omega
            rw [e, show (((n + 1 + j + 8 : Nat) : Int)).tmod 64 = (((n + 1 + j + 8) % 64 : Nat) : Int) from rfl]
            simp; omega
          rw [← hY]
          conv => whnf
          repeat (first | (refine Exists.intro _ (And.intro rfl ?_); conv => whnf) | fail)
          first | refine brT (by exact hcd) ?_ | fail
          conv => whnf
          repeat (first | (refine Exists.intro _ (And.intro rfl ?_); conv => whnf) | (refine And.intro (by first | omega | (simp [ti5]; omega)) ?_; conv => whnf) | fail)
          have hap2 : (Y ++ [0]).map SV.u8 = List.take ((n + 1 + j) * 1) (List.drop 0 (Y.map SV.u8)) ++ List.take (1 * 1) (List.drop 0 [SV.u8 0]) := (cat8 (o := 0) (n := n + 1 + j) (E := Y) (b := [0]) (by omega) rfl).symm
          refine ⟨⟨j + 1, by omega⟩, by simp only; omega, ?_⟩
          dsimp only
          rw [hYs]
          refine Weak.sel [0, 1, 2, 3, 4, 5, 6, 7 + 2] rfl rfl ?_ ?_ rfl rfl
          · (repeat' (first | exact trivial | refine And.intro ?_ ?_ | fail)) <;> first | rfl | fail
          · (repeat' (first | exact trivial | exact ren_eq (plainL_u8 _) hap2 | refine And.intro ?_ ?_ | (refine wk_cons ?_ ?_))) <;> first | rfl | exact ren_eq (by first | (simp; done) | fail) (by first | rfl | fail) | fail
        · obtain rfl : j = pz_n n := by omega
          have hyes := padz_yes_n n
          have hcd : (((w64 (((n + 1 + pz_n n : Nat) : Int) + w64 (2 * 4))).tmod 64) != 0) = false := by
            have e : w64 (((n + 1 + pz_n n : Nat) : Int) + w64 (2 * 4)) = ((n + 1 + pz_n n + 8 : Nat) : Int) := by simp only [w64_eq]; omega
            rw [e, show (((n + 1 + pz_n n + 8 : Nat) : Int)).tmod 64 = (((n + 1 + pz_n n + 8) % 64 : Nat) : Int) from rfl, hyes]
            rfl
          rw [← hY]
          conv => whnf
          repeat (first | (refine Exists.intro _ (And.intro rfl ?_); conv => whnf) | fail)
          first | refine brF (by exact hcd) ?_ | fail
          conv => whnf
          repeat (first | (refine Exists.intro _ (And.intro rfl ?_); conv => whnf) | (refine And.intro ⟨by first | decide | fail, by first | decide | fail⟩ ?_; conv => whnf) | fail)
          obtain ⟨N, hN⟩ : ∃ N, N = (tx 4).length := ⟨_, rfl⟩
          rw [← hN]
          refine loop_rule ttOk mixed (by kernel_rfl) (ι := { i : Nat // i ≤ 8 }) (fun i => [(0, .p 0 0), (5, .i 64), (6, .sl 7 0 (n + 1 + pz_n n) 1 false), (7, .u64 (UInt64.ofNat N)), (10, .sl (7 + 1) 0 8 1 true), (76, .i (i.1 : Int))]) (fun i => [some (.ro (mach_n 1 2)), some (.row 23 (S.map .u32)), some (.ro (k.map .u32)), some (.ro [.sl 4 0 b0.length 1 f0, .slnil, .sl 5 0 b2.length 1 f2, .sl 6 0 b3.length 1 f3]), some (.ro (b0.map .u8)), some (.ro (b2.map .u8)), some (.ro (b3.map .u8)), some (.row 5 (Y.map .u8)), some (.row 5 ((lset_n N i.1).map .u8))]) (fun _ => 7 + 2) (fun i => 8 - i.1) ⟨0, by omega⟩ ?_ ?_
          · have hz := lset_z_n N
            dsimp only
            rw [hz]
            refine Weak.sel [0, 1, 2, 3, 4, 5, 6, 7, 7 + 1] rfl rfl ?_ ?_ rfl rfl
            · (repeat' (first | exact trivial | refine And.intro ?_ ?_ | fail)) <;> first | rfl | fail
            · (repeat' (first | exact trivial | exact ren_z8 | refine And.intro ?_ ?_ | (refine wk_cons ?_ ?_))) <;> first | rfl | exact ren_eq (by first | (simp; done) | fail) (by first | rfl | fail) | fail
          · rintro ⟨i, hi⟩
            dsimp only
            have hll := lset_len_n N i
            by_cases hi8 : i < 8
            · have hlt : decide ((i : Int) < 8) = true := by simp; omega
              have hp := wp1i i (by omega)
              have h8 : w64 (8 * (i : Int)) = ((8 * i : Nat) : Int) := by simp only [w64_eq]; omega
              have h7 : w64 (w64 (8 - 1) - (i : Int)) = ((7 - i : Nat) : Int) := by simp only [w64_eq]; omega
              have hs := lset_s_n N i
              conv => whnf
              first | refine brT (by exact hlt) ?_ | fail
              conv => whnf
              repeat (fail)
              refine ⟨_, mshr_64 h8, ?_⟩
              conv => whnf
              repeat (first | (refine Exists.intro _ (And.intro (sput_m8 (i := 7 - i) (by first | rfl | omega | fail)) ?_); conv => whnf) | (refine Exists.intro _ (And.intro (idx_i (m := 7 - i) (by first | rfl | omega | fail)) ?_); conv => whnf) | (refine And.intro (by first | omega | (simp; omega) | fail) ?_; conv => whnf) | fail)
              refine ⟨⟨i + 1, by omega⟩, by simp only; omega, ?_⟩
              dsimp only
              rw [hs]
              refine Weak.sel [0, 1, 2, 3, 4, 5, 6, 7, 7 + 1] rfl rfl ?_ ?_ rfl rfl
              · (repeat' (first | exact trivial | refine And.intro ?_ ?_ | fail)) <;> first | exact wk_i (by first | exact hp | exact hp.symm | fail) | rfl | fail
              · (repeat' (first | exact trivial | refine And.intro ?_ ?_ | (refine wk_cons ?_ ?_))) <;> first | rfl | exact ren_eq (by first | (simp; done) | fail) (by first | rfl | fail) | exact ren_m8 (by first | rfl | fail) | fail
            · obtain rfl : i = 8 := by omega
              have hap3 : (Y ++ lset_n N 8).map SV.u8 = List.take ((n + 1 + pz_n n) * 1) (List.drop 0 (Y.map SV.u8)) ++ List.take (8 * 1) (List.drop 0 ((lset_n N 8).map SV.u8)) := (cat8 (o := 0) (n := n + 1 + pz_n n) (E := Y) (b := lset_n N 8) (by omega) hll.symm).symm
              obtain ⟨D, hD⟩ : ∃ D, D = Y ++ lset_n N 8 := ⟨_, rfl⟩
              have hDl : D.length = n + 1 + pz_n n + 8 := by rw [hD, List.length_append, hYl, hll]
              have hDe : D = last_n (tx 4) := by rw [hD, hY, hpz, hN]; exact last_e_n _
              have hD64 := last_len_n (tx 4)
              have hfin := last_st_n k h (tx 4)
              rw [← hDe] at hD64 hfin
              rw [← hS] at hfin
              rw [← hD] at hap3
              conv => whnf
              first | refine brF (by rfl) ?_ | fail
              conv => whnf
              repeat (first | (refine And.intro (by first | omega | (simp [ti5]; omega)) ?_; conv => whnf) | fail)
              refine loop_rule ttOk mixed (by kernel_rfl) (ι := { j : Nat // 64 * j ≤ D.length }) (fun j => [(0, .p 0 0), (5, .i 64), (6, .sl 7 (64 * j.1) (D.length - 64 * j.1) 1 false)]) (fun j => [some (.ro (mach_n 1 2)), some (.row 23 ((blks_n k S D j.1).map .u32)), some (.ro (k.map .u32)), some (.ro [.sl 4 0 b0.length 1 f0, .slnil, .sl 5 0 b2.length 1 f2, .sl 6 0 b3.length 1 f3]), some (.ro (b0.map .u8)), some (.ro (b2.map .u8)), some (.ro (b3.map .u8)), some (.row 5 (D.map .u8))]) (fun _ => 7 + 1) (fun j => D.length - 64 * j.1) ⟨0, by omega⟩ ?_ ?_
              · have hz := blks_z_n k S D
                have hDn : n + 1 + pz_n n + 8 = D.length - 64 * 0 := by omega
                dsimp only
                rw [hz]
                refine Weak.sel [0, 1, 2, 3, 4, 5, 6, 7 + 2] rfl rfl ?_ ?_ rfl rfl
                · (repeat' (first | exact trivial | refine And.intro ?_ ?_ | fail)) <;> first | rfl | exact wk_sl rfl (by first | rfl | fail) (by first | exact hDn.symm | fail) | fail
                · (repeat' (first | exact trivial | exact ren_eq (plainL_u8 _) hap3 | refine And.intro ?_ ?_ | (refine wk_cons ?_ ?_))) <;> first | rfl | exact ren_eq (by first | (simp; done) | fail) (by first | rfl | fail) | fail
              · rintro ⟨j, hj⟩
                dsimp only
                have hbl := blks_len_n k hsl D j
                by_cases hc : 64 * (j + 1) ≤ D.length
                · have hge : decide (((D.length - 64 * j : Nat) : Int) > 0) = true := by simp; omega
                  have hs := blks_s_n k S D j
                  have q139 := f139D (blks_n k S D j) k D (64 * j) hbl hk (by omega) false
                  rw [← hs] at q139
                  conv => whnf
                  first | refine brT (by exact hge) ?_ | fail
                  conv => whnf
                  repeat (first | (refine Exists.intro _ (And.intro rfl ?_); conv => whnf) | (refine And.intro (by first | omega | fail) ?_; conv => whnf) | fail)
                  refine ok1_callF [0, 1, 2, 7] [false, true, false, false] true (q139) rfl rfl ⟨⟨rfl, by first | rfl | fail⟩, by (repeat' (first | exact trivial | refine And.intro ?_ ?_)) <;> first | rfl | exact ren_eq (by first | (simp; done) | fail) (by first | rfl | fail) | fail, by first | simp [plainHf, plainB], by first | rfl | fail, ?_⟩
                  conv => whnf
                  repeat (first | (refine Exists.intro _ (And.intro rfl ?_); conv => whnf) | (refine And.intro (by first | omega | fail) ?_; conv => whnf) | fail)
                  refine ⟨⟨j + 1, hc⟩, by simp only; omega, ?_⟩
                  dsimp only
                  refine Weak.sel [0, 1, 2, 3, 4, 5, 6, 7] rfl rfl ?_ ?_ rfl rfl
                  · (repeat' (first | exact trivial | refine And.intro ?_ ?_ | fail)) <;> first | rfl | fail
                  · (repeat' (first | exact trivial | refine And.intro ?_ ?_ | (refine wk_cons ?_ ?_))) <;> first | rfl | exact ren_eq (by first | (simp; done) | fail) (by first | rfl | fail) | fail
                · obtain rfl : j = D.length / 64 := by omega
                  have hge : decide (((D.length - 64 * (D.length / 64) : Nat) : Int) > 0) = false := by simp; omega
                  obtain ⟨H, hH⟩ : ∃ H, H = blks_n k S D (D.length / 64) := ⟨_, rfl⟩
                  rw [← hH] at hbl hfin ⊢
                  conv => whnf
                  first | refine brF (by exact hge) ?_ | fail
                  conv => whnf
                  repeat (first | (refine Exists.intro _ (And.intro rfl ?_); conv => whnf) | fail)
                  refine SWp.weak (Weak.virt 12 5 1 rfl) ?_
                  refine loop_rule ttOk mixed (by kernel_rfl) (ι := { i : Nat // i ≤ 8 }) (fun i => [(0, .p 0 0), (12, .sl 7 0 (4 * i.1) 1 false), (110, .sl 1 0 8 1 false), (111, .i 8), (112, .i (i.1 : Int))]) (fun i => [some (.ro (mach_n 1 2)), some (.row 23 (H.map .u32)), some (.ro (k.map .u32)), some (.ro [.sl 4 0 b0.length 1 f0, .slnil, .sl 5 0 b2.length 1 f2, .sl 6 0 b3.length 1 f3]), some (.ro (b0.map .u8)), some (.ro (b2.map .u8)), some (.ro (b3.map .u8)), some (.row 5 ((outl_n H (4 * i.1)).map .u8))]) (fun _ => 7 + 1) (fun i => 8 - i.1) ⟨0, by omega⟩ ?_ ?_
                  · have hz := outl_z_n H
                    dsimp only
                    rw [hz]
                    refine Weak.sel [0, 1, 2, 3, 4, 5, 6, 7 + 1] rfl rfl ?_ ?_ rfl rfl
                    · (repeat' (first | exact trivial | refine And.intro ?_ ?_ | fail)) <;> first | rfl | fail
                    · (repeat' (first | exact trivial | refine And.intro ?_ ?_ | (refine wk_cons ?_ ?_))) <;> first | rfl | exact ren_eq (by first | (simp; done) | fail) (by first | rfl | fail) | fail
                  · rintro ⟨i, hi⟩
                    dsimp only
                    by_cases hi8 : i < 8
                    · have hlt : decide ((i : Int) < 8) = true := by simp; omega
                      have hp := wp1i i (by omega)
                      conv => whnf
                      first | refine brT (by exact hlt) ?_ | fail
                      conv => whnf
                      repeat (first | (refine Exists.intro _ (And.intro (sload_u32 (i := i) (by first | rfl | omega | fail) (by first | omega | fail)) ?_); conv => whnf) | (refine Exists.intro _ (And.intro (idx_i (m := i) (by first | rfl | fail)) ?_); conv => whnf) | (refine Exists.intro _ (And.intro rfl ?_); conv => whnf) | (refine And.intro (by first | omega | fail) ?_; conv => whnf) | fail)
                      refine loop_rule ttOk mixed (by kernel_rfl) (ι := { m : Nat // m ≤ 4 }) (fun m => [(0, .p 0 0), (12, .sl 7 0 (4 * i + m.1) 1 false), (14, .u32 (H.getD i 0)), (15, .i (3 - (m.1 : Int))), (110, .sl 1 0 8 1 false), (111, .i 8), (112, .i (i : Int))]) (fun m => [some (.ro (mach_n 1 2)), some (.row 23 (H.map .u32)), some (.ro (k.map .u32)), some (.ro [.sl 4 0 b0.length 1 f0, .slnil, .sl 5 0 b2.length 1 f2, .sl 6 0 b3.length 1 f3]), some (.ro (b0.map .u8)), some (.ro (b2.map .u8)), some (.ro (b3.map .u8)), some (.row 5 ((outl_n H (4 * i + m.1)).map .u8))]) (fun _ => 7 + 1) (fun m => 4 - m.1) ⟨0, by omega⟩ ?_ ?_
                      · refine Weak.sel [0, 1, 2, 3, 4, 5, 6, 7] rfl rfl ?_ ?_ rfl rfl
                        · (repeat' (first | exact trivial | refine And.intro ?_ ?_ | fail)) <;> first | rfl | fail
                        · (repeat' (first | exact trivial | refine And.intro ?_ ?_ | (refine wk_cons ?_ ?_))) <;> first | rfl | exact ren_eq (by first | (simp; done) | fail) (by first | rfl | fail) | fail
                      · rintro ⟨m, hm⟩
                        dsimp only
                        have hol := outl_len_n H (4 * i + m)
                        by_cases hm4 : m < 4
                        · have hge : decide ((3 - (m : Int)) ≥ 0) = true := by simp; omega
                          have h8 : w64 (8 * (3 - (m : Int))) = ((8 * (3 - m) : Nat) : Int) := by simp only [w64_eq]; omega
                          have hp2 : w64 (3 - (m : Int) - 1) = 3 - ((m + 1 : Nat) : Int) := by simp only [w64_eq]; omega
                          have hs := outl_s_n H i m hm4
                          obtain ⟨Z, hZ⟩ : ∃ Z, Z = outl_n H (4 * i + m) := ⟨_, rfl⟩
                          rw [← hZ] at hol hs ⊢
                          have hap4 : (Z ++ [(shr32 (H.getD i 0) (8 * (3 - m))).toUInt8]).map SV.u8 = List.take ((4 * i + m) * 1) (List.drop 0 (Z.map SV.u8)) ++ List.take (1 * 1) (List.drop 0 [SV.u8 (shr32 (H.getD i 0) (8 * (3 - m))).toUInt8]) := (cat8 (o := 0) (n := 4 * i + m) (E := Z) (b := [(shr32 (H.getD i 0) (8 * (3 - m))).toUInt8]) (by omega) rfl).symm
                          conv => whnf
                          first | refine brT (by exact hge) ?_ | fail
                          conv => whnf
                          repeat (fail)
                          refine ⟨_, mshr_32 h8, ?_⟩
                          conv => whnf
                          repeat (first | (refine Exists.intro _ (And.intro rfl ?_); conv => whnf) | (refine And.intro (by first | omega | (simp [ti5]; omega)) ?_; conv => whnf) | fail)
                          refine ⟨⟨m + 1, by omega⟩, by simp only; omega, ?_⟩
                          dsimp only
                          rw [hs]
                          refine Weak.sel [0, 1, 2, 3, 4, 5, 6, 7 + 2] rfl rfl ?_ ?_ rfl rfl
                          · (repeat' (first | exact trivial | refine And.intro ?_ ?_ | fail)) <;> first | exact wk_i (by first | exact hp2 | exact hp2.symm | fail) | rfl | fail
                          · (repeat' (first | exact trivial | exact ren_eq (plainL_u8 _) hap4 | refine And.intro ?_ ?_ | (refine wk_cons ?_ ?_))) <;> first | rfl | exact ren_eq (by first | (simp; done) | fail) (by first | rfl | fail) | fail
                        · obtain rfl : m = 4 := by omega
                          conv => whnf
                          first | refine brF (by rfl) ?_ | fail
                          conv => whnf
                          repeat (fail)
                          refine ⟨⟨i + 1, by omega⟩, by simp only; omega, ?_⟩
                          dsimp only
                          rw [show 4 * (i + 1) = 4 * i + 4 by omega]
                          refine Weak.sel [0, 1, 2, 3, 4, 5, 6, 7] rfl rfl ?_ ?_ rfl rfl
                          · (repeat' (first | exact trivial | refine And.intro ?_ ?_ | fail)) <;> first | exact wk_i (by first | exact hp | exact hp.symm | fail) | rfl | fail
                          · (repeat' (first | exact trivial | refine And.intro ?_ ?_ | (refine wk_cons ?_ ?_))) <;> first | rfl | exact ren_eq (by first | (simp; done) | fail) (by first | rfl | fail) | fail
                    · obtain rfl : i = 8 := by omega
                      rw [outb_e_n] at hfin
                      rw [← hfin]
                      conv => whnf
                      first | refine brF (by rfl) ?_ | fail
                      conv => whnf
                      refine ⟨[0, 1, 2, 3, 4, 5, 6, 7], ?_, rfl, rfl, ?_, rfl⟩
                      · (repeat' (fail)) <;> first | rfl | fail
                      · (repeat' (first | exact trivial | refine And.intro ?_ ?_ | (refine wk_cons ?_ ?_))) <;> first | rfl | exact ren_eq (by first | (simp; done) | fail) (by first | rfl | fail) | fail
end Go.Sh
/- sha: the narrow machine's sum (f102), walked, of texts in parts. -/
namespace Go.Sh
open Go.Proofs
set_option maxHeartbeats 4000000
set_option linter.unusedSimpArgs false
set_option linter.unusedVariables false

attribute [local irreducible] comp_n
attribute [local irreducible] blks_n st_n rest_n hash_n pz_n outl_n outb_n lset_n last_n
theorem f102_bbbb (h k : List UInt32) (hh : h.length = 8) (hk : k.length = 64) (b0 b1 b2 b3 : List UInt8) (hb0 : b0.length < 100000000000000) (hb1 : b1.length < 100000000000000) (hb2 : b2.length < 100000000000000) (hb3 : b3.length < 100000000000000) (f0 f1 f2 f3 fl : Bool) : SCall Try.prog 102 [.p 0 0, .sl 3 0 4 1 fl] [some (.ro (mach_n 1 2)), some (.row 23 (h.map .u32)), some (.ro (k.map .u32)), some (.ro [.sl 4 0 b0.length 1 f0, .sl 5 0 b1.length 1 f1, .sl 6 0 b2.length 1 f2, .sl 7 0 b3.length 1 f3]), some (.ro (b0.map .u8)), some (.ro (b1.map .u8)), some (.ro (b2.map .u8)), some (.ro (b3.map .u8))] (.sl 8 0 32 1 false) [some (.ro (mach_n 1 2)), none, some (.ro (k.map .u32)), some (.ro [.sl 4 0 b0.length 1 f0, .sl 5 0 b1.length 1 f1, .sl 6 0 b2.length 1 f2, .sl 7 0 b3.length 1 f3]), some (.ro (b0.map .u8)), some (.ro (b1.map .u8)), some (.ro (b2.map .u8)), some (.ro (b3.map .u8)), some (.row 5 ((hash_n k h (b0 ++ b1 ++ b2 ++ b3)).map .u8))] := by
  obtain ⟨tx, htx⟩ : ∃ tx : Nat → List UInt8, tx = fun i => ([b0, b1, b2, b3].take i).flatten := ⟨_, rfl⟩
  have tx0 : tx 0 = [] := by rw [htx]; rfl
  have tx1 : tx 1 = tx 0 ++ b0 := by rw [htx]; simp
  have tx2 : tx 2 = tx 1 ++ b1 := by rw [htx]; simp
  have tx3 : tx 3 = tx 2 ++ b2 := by rw [htx]; simp
  have tx4 : tx 4 = tx 3 ++ b3 := by rw [htx]; simp
  have htp : tx 4 = b0 ++ b1 ++ b2 ++ b3 := by rw [htx]; simp
  have he : hash_n k h (b0 ++ b1 ++ b2 ++ b3) = hash_n k h (tx 4) := by rw [htp]
  rw [he]
  have hl0 : (tx 0).length = 0 := by rw [tx0]; rfl
  have hl1 : (tx 1).length = (tx 0).length + b0.length := by rw [tx1, List.length_append]
  have hl2 : (tx 2).length = (tx 1).length + b1.length := by rw [tx2, List.length_append]
  have hl3 : (tx 3).length = (tx 2).length + b2.length := by rw [tx3, List.length_append]
  have hl4 : (tx 4).length = (tx 3).length + b3.length := by rw [tx4, List.length_append]
  clear htx
  refine scall_of ttOk (by kernel_rfl : Try.prog.funcs[102]? = some Try.f102) rfl rfl rfl ?_
  try simp only [List.length_cons, List.length_nil, Nat.zero_add, Nat.reduceAdd]
  refine sw_ok ttOk mixed (by kernel_rfl) ?_
  conv => whnf
  repeat (first | (refine Exists.intro _ (And.intro rfl ?_); conv => whnf) | fail)
  refine SWp.weak (Weak.virt 6 5 1 rfl) ?_
  refine loop_rule ttOk mixed (by kernel_rfl) (ι := { x : Nat × List UInt8 × Nat // x.1 ≤ 4 ∧ x.2.2 ≤ x.2.1.length ∧ x.2.1.drop x.2.2 = rest_n (tx x.1) }) (fun x => [(0, .p 0 0), (5, .i 64), (6, .sl 8 x.1.2.2 (x.1.2.1.length - x.1.2.2) 1 false), (7, .u64 (UInt64.ofNat (tx x.1.1).length)), (21, .sl 3 0 4 1 fl), (22, .i 4), (23, .i (x.1.1 : Int))]) (fun x => [some (.ro (mach_n 1 2)), some (.row 23 ((st_n k h (tx x.1.1)).map .u32)), some (.ro (k.map .u32)), some (.ro [.sl 4 0 b0.length 1 f0, .sl 5 0 b1.length 1 f1, .sl 6 0 b2.length 1 f2, .sl 7 0 b3.length 1 f3]), some (.ro (b0.map .u8)), some (.ro (b1.map .u8)), some (.ro (b2.map .u8)), some (.ro (b3.map .u8)), some (.row 5 (x.1.2.1.map .u8))]) (fun _ => 9) (fun x => 4 - x.1.1) ⟨(0, [], 0), by omega, by simp, by rw [tx0]; exact rest_nil_n.symm⟩ ?_ ?_
  · dsimp only
    rw [tx0, st_nil_n]
    refine Weak.sel [0, 1, 2, 3, 4, 5, 6, 7, 8] rfl rfl ?_ ?_ rfl rfl
    · (repeat' (first | exact trivial | refine And.intro ?_ ?_ | fail)) <;> first | rfl | fail
    · (repeat' (first | exact trivial | refine And.intro ?_ ?_ | (refine wk_cons ?_ ?_))) <;> first | rfl | exact ren_eq (by first | (simp; done) | fail) (by first | rfl | fail) | fail
  · rintro ⟨⟨i, E, o⟩, hi, ho, hE⟩
    dsimp only at hi ho hE ⊢
    have hsl := st_len_n k hh (tx i)
    have hrl := rest_len_n (tx i)
    obtain ⟨S, hS⟩ : ∃ S, S = st_n k h (tx i) := ⟨_, rfl⟩
    rw [← hS] at hsl ⊢
    have hEl : E.length - o = (rest_n (tx i)).length := by rw [← hE, List.length_drop]
    by_cases hi2 : i < 4
    · have hic : i = 0 ∨ i = 1 ∨ i = 2 ∨ i = 3 := by omega
      rcases hic with rfl | rfl | rfl | rfl
      ·
        have hq := feed_st_n k h (tx 0) b0
        have hq2 := feed_rest_n (tx 0) b0
        rw [← hS] at hq
        rw [← tx1] at hq hq2
        rw [← hE] at hq hq2 hEl
        have hap : (E.drop o ++ b0).map SV.u8 = List.take ((E.length - o) * 1) (List.drop o (E.map SV.u8)) ++ List.take (b0.length * 1) (List.drop 0 (b0.map SV.u8)) := (cat8 rfl rfl).symm
        have hDl : (E.drop o ++ b0).length = E.length - o + b0.length := by rw [List.length_append, List.length_drop]
        have hel : E.length - o < 64 := by rw [← List.length_drop, hE, hrl]; omega
        have hul : UInt64.ofNat (tx 0).length + u64i (b0.length : Int) = UInt64.ofNat (tx 1).length := by rw [u64_add_i _ _ (by omega), tx1, List.length_append]
        clear hS hrl
        conv => whnf
        first | refine brT (by rfl) ?_ | fail
        conv => whnf
        repeat (first | (refine Exists.intro _ (And.intro rfl ?_); conv => whnf) | (refine And.intro (by first | omega | (simp [ti5]; omega)) ?_; conv => whnf) | fail)
        obtain ⟨D, hD⟩ : ∃ D, D = E.drop o ++ b0 := ⟨_, rfl⟩
        rw [← hD] at hq hq2 hap hDl
        refine loop_rule ttOk mixed (by kernel_rfl) (ι := { j : Nat // 64 * j ≤ D.length }) (fun j => [(0, .p 0 0), (5, .i 64), (6, .sl 8 (64 * j.1) (D.length - 64 * j.1) 1 false), (7, .u64 (UInt64.ofNat (tx 1).length)), (21, .sl 3 0 4 1 fl), (22, .i 4), (23, .i 0)]) (fun j => [some (.ro (mach_n 1 2)), some (.row 23 ((blks_n k S D j.1).map .u32)), some (.ro (k.map .u32)), some (.ro [.sl 4 0 b0.length 1 f0, .sl 5 0 b1.length 1 f1, .sl 6 0 b2.length 1 f2, .sl 7 0 b3.length 1 f3]), some (.ro (b0.map .u8)), some (.ro (b1.map .u8)), some (.ro (b2.map .u8)), some (.ro (b3.map .u8)), some (.row 5 (D.map .u8))]) (fun _ => 8 + 1) (fun j => D.length - 64 * j.1) ⟨0, by omega⟩ ?_ ?_
        · have hz := blks_z_n k S D
          have hDn : E.length - o + b0.length = D.length - 64 * 0 := by omega
          dsimp only
          rw [hz]
          refine Weak.sel [0, 1, 2, 3, 4, 5, 6, 7, 9] rfl rfl ?_ ?_ rfl rfl
          · (repeat' (first | exact trivial | refine And.intro ?_ ?_ | fail)) <;> first | exact wk_u64 (by first | exact hul | exact hul.symm | fail) | rfl | exact wk_sl rfl (by first | rfl | fail) (by first | exact hDn.symm | fail) | fail
          · (repeat' (first | exact trivial | exact ren_eq (plainL_u8 _) hap | refine And.intro ?_ ?_ | (refine wk_cons ?_ ?_))) <;> first | rfl | exact ren_eq (by first | (simp; done) | fail) (by first | rfl | fail) | fail
        · rintro ⟨j, hj⟩
          dsimp only
          have hbl := blks_len_n k hsl D j
          by_cases hc : 64 * (j + 1) ≤ D.length
          · have hge : decide (((D.length - 64 * j : Nat) : Int) ≥ 64) = true := by simp; omega
            have hs := blks_s_n k S D j
            have q139 := f139D (blks_n k S D j) k D (64 * j) hbl hk (by omega) false
            rw [← hs] at q139
            conv => whnf
            first | refine brT (by exact hge) ?_ | fail
            conv => whnf
            repeat (first | (refine Exists.intro _ (And.intro rfl ?_); conv => whnf) | (refine And.intro (by first | omega | fail) ?_; conv => whnf) | fail)
            refine ok1_callF [0, 1, 2, 8] [false, true, false, false] true (q139) rfl rfl ⟨⟨rfl, by first | rfl | fail⟩, by (repeat' (first | exact trivial | refine And.intro ?_ ?_)) <;> first | rfl | exact ren_eq (by first | (simp; done) | fail) (by first | rfl | fail) | fail, by first | simp [plainHf, plainB], by first | rfl | fail, ?_⟩
            conv => whnf
            repeat (first | (refine Exists.intro _ (And.intro rfl ?_); conv => whnf) | (refine And.intro (by first | omega | fail) ?_; conv => whnf) | fail)
            refine ⟨⟨j + 1, hc⟩, by simp only; omega, ?_⟩
            dsimp only
            refine Weak.sel [0, 1, 2, 3, 4, 5, 6, 7, 8] rfl rfl ?_ ?_ rfl rfl
            · (repeat' (first | exact trivial | refine And.intro ?_ ?_ | fail)) <;> first | rfl | fail
            · (repeat' (first | exact trivial | refine And.intro ?_ ?_ | (refine wk_cons ?_ ?_))) <;> first | rfl | exact ren_eq (by first | (simp; done) | fail) (by first | rfl | fail) | fail
          · obtain rfl : j = D.length / 64 := by omega
            have hge : decide (((D.length - 64 * (D.length / 64) : Nat) : Int) ≥ 64) = false := by simp; omega
            rw [hq]
            conv => whnf
            first | refine brF (by exact hge) ?_ | fail
            conv => whnf
            repeat (fail)
            refine ⟨⟨(1, D, 64 * (D.length / 64)), by omega, by simp only; omega, hq2⟩, by simp only; omega, ?_⟩
            dsimp only
            refine Weak.sel [0, 1, 2, 3, 4, 5, 6, 7, 8] rfl rfl ?_ ?_ rfl rfl
            · (repeat' (first | exact trivial | refine And.intro ?_ ?_ | fail)) <;> first | rfl | fail
            · (repeat' (first | exact trivial | refine And.intro ?_ ?_ | (refine wk_cons ?_ ?_))) <;> first | rfl | exact ren_eq (by first | (simp; done) | fail) (by first | rfl | fail) | fail
      ·
        have hq := feed_st_n k h (tx 1) b1
        have hq2 := feed_rest_n (tx 1) b1
        rw [← hS] at hq
        rw [← tx2] at hq hq2
        rw [← hE] at hq hq2 hEl
        have hap : (E.drop o ++ b1).map SV.u8 = List.take ((E.length - o) * 1) (List.drop o (E.map SV.u8)) ++ List.take (b1.length * 1) (List.drop 0 (b1.map SV.u8)) := (cat8 rfl rfl).symm
        have hDl : (E.drop o ++ b1).length = E.length - o + b1.length := by rw [List.length_append, List.length_drop]
        have hel : E.length - o < 64 := by rw [← List.length_drop, hE, hrl]; omega
        have hul : UInt64.ofNat (tx 1).length + u64i (b1.length : Int) = UInt64.ofNat (tx 2).length := by rw [u64_add_i _ _ (by omega), tx2, List.length_append]
        clear hS hrl
        conv => whnf
        first | refine brT (by rfl) ?_ | fail
        conv => whnf
        repeat (first | (refine Exists.intro _ (And.intro rfl ?_); conv => whnf) | (refine And.intro (by first | omega | (simp [ti5]; omega)) ?_; conv => whnf) | fail)
        obtain ⟨D, hD⟩ : ∃ D, D = E.drop o ++ b1 := ⟨_, rfl⟩
        rw [← hD] at hq hq2 hap hDl
        refine loop_rule ttOk mixed (by kernel_rfl) (ι := { j : Nat // 64 * j ≤ D.length }) (fun j => [(0, .p 0 0), (5, .i 64), (6, .sl 8 (64 * j.1) (D.length - 64 * j.1) 1 false), (7, .u64 (UInt64.ofNat (tx 2).length)), (21, .sl 3 0 4 1 fl), (22, .i 4), (23, .i 1)]) (fun j => [some (.ro (mach_n 1 2)), some (.row 23 ((blks_n k S D j.1).map .u32)), some (.ro (k.map .u32)), some (.ro [.sl 4 0 b0.length 1 f0, .sl 5 0 b1.length 1 f1, .sl 6 0 b2.length 1 f2, .sl 7 0 b3.length 1 f3]), some (.ro (b0.map .u8)), some (.ro (b1.map .u8)), some (.ro (b2.map .u8)), some (.ro (b3.map .u8)), some (.row 5 (D.map .u8))]) (fun _ => 8 + 1) (fun j => D.length - 64 * j.1) ⟨0, by omega⟩ ?_ ?_
        · have hz := blks_z_n k S D
          have hDn : E.length - o + b1.length = D.length - 64 * 0 := by omega
          dsimp only
          rw [hz]
          refine Weak.sel [0, 1, 2, 3, 4, 5, 6, 7, 9] rfl rfl ?_ ?_ rfl rfl
          · (repeat' (first | exact trivial | refine And.intro ?_ ?_ | fail)) <;> first | exact wk_u64 (by first | exact hul | exact hul.symm | fail) | rfl | exact wk_sl rfl (by first | rfl | fail) (by first | exact hDn.symm | fail) | fail
          · (repeat' (first | exact trivial | exact ren_eq (plainL_u8 _) hap | refine And.intro ?_ ?_ | (refine wk_cons ?_ ?_))) <;> first | rfl | exact ren_eq (by first | (simp; done) | fail) (by first | rfl | fail) | fail
        · rintro ⟨j, hj⟩
          dsimp only
          have hbl := blks_len_n k hsl D j
          by_cases hc : 64 * (j + 1) ≤ D.length
          · have hge : decide (((D.length - 64 * j : Nat) : Int) ≥ 64) = true := by simp; omega
            have hs := blks_s_n k S D j
            have q139 := f139D (blks_n k S D j) k D (64 * j) hbl hk (by omega) false
            rw [← hs] at q139
            conv => whnf
            first | refine brT (by exact hge) ?_ | fail
            conv => whnf
            repeat (first | (refine Exists.intro _ (And.intro rfl ?_); conv => whnf) | (refine And.intro (by first | omega | fail) ?_; conv => whnf) | fail)
            refine ok1_callF [0, 1, 2, 8] [false, true, false, false] true (q139) rfl rfl ⟨⟨rfl, by first | rfl | fail⟩, by (repeat' (first | exact trivial | refine And.intro ?_ ?_)) <;> first | rfl | exact ren_eq (by first | (simp; done) | fail) (by first | rfl | fail) | fail, by first | simp [plainHf, plainB], by first | rfl | fail, ?_⟩
            conv => whnf
            repeat (first | (refine Exists.intro _ (And.intro rfl ?_); conv => whnf) | (refine And.intro (by first | omega | fail) ?_; conv => whnf) | fail)
            refine ⟨⟨j + 1, hc⟩, by simp only; omega, ?_⟩
            dsimp only
            refine Weak.sel [0, 1, 2, 3, 4, 5, 6, 7, 8] rfl rfl ?_ ?_ rfl rfl
            · (repeat' (first | exact trivial | refine And.intro ?_ ?_ | fail)) <;> first | rfl | fail
            · (repeat' (first | exact trivial | refine And.intro ?_ ?_ | (refine wk_cons ?_ ?_))) <;> first | rfl | exact ren_eq (by first | (simp; done) | fail) (by first | rfl | fail) | fail
          · obtain rfl : j = D.length / 64 := by omega
            have hge : decide (((D.length - 64 * (D.length / 64) : Nat) : Int) ≥ 64) = false := by simp; omega
            rw [hq]
            conv => whnf
            first | refine brF (by exact hge) ?_ | fail
            conv => whnf
            repeat (fail)
            refine ⟨⟨(2, D, 64 * (D.length / 64)), by omega, by simp only; omega, hq2⟩, by simp only; omega, ?_⟩
            dsimp only
            refine Weak.sel [0, 1, 2, 3, 4, 5, 6, 7, 8] rfl rfl ?_ ?_ rfl rfl
            · (repeat' (first | exact trivial | refine And.intro ?_ ?_ | fail)) <;> first | rfl | fail
            · (repeat' (first | exact trivial | refine And.intro ?_ ?_ | (refine wk_cons ?_ ?_))) <;> first | rfl | exact ren_eq (by first | (simp; done) | fail) (by first | rfl | fail) | fail
      ·
        have hq := feed_st_n k h (tx 2) b2
        have hq2 := feed_rest_n (tx 2) b2
        rw [← hS] at hq
        rw [← tx3] at hq hq2
        rw [← hE] at hq hq2 hEl
        have hap : (E.drop o ++ b2).map SV.u8 = List.take ((E.length - o) * 1) (List.drop o (E.map SV.u8)) ++ List.take (b2.length * 1) (List.drop 0 (b2.map SV.u8)) := (cat8 rfl rfl).symm
        have hDl : (E.drop o ++ b2).length = E.length - o + b2.length := by rw [List.length_append, List.length_drop]
        have hel : E.length - o < 64 := by rw [← List.length_drop, hE, hrl]; omega
        have hul : UInt64.ofNat (tx 2).length + u64i (b2.length : Int) = UInt64.ofNat (tx 3).length := by rw [u64_add_i _ _ (by omega), tx3, List.length_append]
        clear hS hrl
        conv => whnf
        first | refine brT (by rfl) ?_ | fail
        conv => whnf
        repeat (first | (refine Exists.intro _ (And.intro rfl ?_); conv => whnf) | (refine And.intro (by first | omega | (simp [ti5]; omega)) ?_; conv => whnf) | fail)
        obtain ⟨D, hD⟩ : ∃ D, D = E.drop o ++ b2 := ⟨_, rfl⟩
        rw [← hD] at hq hq2 hap hDl
        refine loop_rule ttOk mixed (by kernel_rfl) (ι := { j : Nat // 64 * j ≤ D.length }) (fun j => [(0, .p 0 0), (5, .i 64), (6, .sl 8 (64 * j.1) (D.length - 64 * j.1) 1 false), (7, .u64 (UInt64.ofNat (tx 3).length)), (21, .sl 3 0 4 1 fl), (22, .i 4), (23, .i 2)]) (fun j => [some (.ro (mach_n 1 2)), some (.row 23 ((blks_n k S D j.1).map .u32)), some (.ro (k.map .u32)), some (.ro [.sl 4 0 b0.length 1 f0, .sl 5 0 b1.length 1 f1, .sl 6 0 b2.length 1 f2, .sl 7 0 b3.length 1 f3]), some (.ro (b0.map .u8)), some (.ro (b1.map .u8)), some (.ro (b2.map .u8)), some (.ro (b3.map .u8)), some (.row 5 (D.map .u8))]) (fun _ => 8 + 1) (fun j => D.length - 64 * j.1) ⟨0, by omega⟩ ?_ ?_
        · have hz := blks_z_n k S D
          have hDn : E.length - o + b2.length = D.length - 64 * 0 := by omega
          dsimp only
          rw [hz]
          refine Weak.sel [0, 1, 2, 3, 4, 5, 6, 7, 9] rfl rfl ?_ ?_ rfl rfl
          · (repeat' (first | exact trivial | refine And.intro ?_ ?_ | fail)) <;> first | exact wk_u64 (by first | exact hul | exact hul.symm | fail) | rfl | exact wk_sl rfl (by first | rfl | fail) (by first | exact hDn.symm | fail) | fail
          · (repeat' (first | exact trivial | exact ren_eq (plainL_u8 _) hap | refine And.intro ?_ ?_ | (refine wk_cons ?_ ?_))) <;> first | rfl | exact ren_eq (by first | (simp; done) | fail) (by first | rfl | fail) | fail
        · rintro ⟨j, hj⟩
          dsimp only
          have hbl := blks_len_n k hsl D j
          by_cases hc : 64 * (j + 1) ≤ D.length
          · have hge : decide (((D.length - 64 * j : Nat) : Int) ≥ 64) = true := by simp; omega
            have hs := blks_s_n k S D j
            have q139 := f139D (blks_n k S D j) k D (64 * j) hbl hk (by omega) false
            rw [← hs] at q139
            conv => whnf
            first | refine brT (by exact hge) ?_ | fail
            conv => whnf
            repeat (first | (refine Exists.intro _ (And.intro rfl ?_); conv => whnf) | (refine And.intro (by first | omega | fail) ?_; conv => whnf) | fail)
            refine ok1_callF [0, 1, 2, 8] [false, true, false, false] true (q139) rfl rfl ⟨⟨rfl, by first | rfl | fail⟩, by (repeat' (first | exact trivial | refine And.intro ?_ ?_)) <;> first | rfl | exact ren_eq (by first | (simp; done) | fail) (by first | rfl | fail) | fail, by first | simp [plainHf, plainB], by first | rfl | fail, ?_⟩
            conv => whnf
            repeat (first | (refine Exists.intro _ (And.intro rfl ?_); conv => whnf) | (refine And.intro (by first | omega | fail) ?_; conv => whnf) | fail)
            refine ⟨⟨j + 1, hc⟩, by simp only; omega, ?_⟩
            dsimp only
            refine Weak.sel [0, 1, 2, 3, 4, 5, 6, 7, 8] rfl rfl ?_ ?_ rfl rfl
            · (repeat' (first | exact trivial | refine And.intro ?_ ?_ | fail)) <;> first | rfl | fail
            · (repeat' (first | exact trivial | refine And.intro ?_ ?_ | (refine wk_cons ?_ ?_))) <;> first | rfl | exact ren_eq (by first | (simp; done) | fail) (by first | rfl | fail) | fail
          · obtain rfl : j = D.length / 64 := by omega
            have hge : decide (((D.length - 64 * (D.length / 64) : Nat) : Int) ≥ 64) = false := by simp; omega
            rw [hq]
            conv => whnf
            first | refine brF (by exact hge) ?_ | fail
            conv => whnf
            repeat (fail)
            refine ⟨⟨(3, D, 64 * (D.length / 64)), by omega, by simp only; omega, hq2⟩, by simp only; omega, ?_⟩
            dsimp only
            refine Weak.sel [0, 1, 2, 3, 4, 5, 6, 7, 8] rfl rfl ?_ ?_ rfl rfl
            · (repeat' (first | exact trivial | refine And.intro ?_ ?_ | fail)) <;> first | rfl | fail
            · (repeat' (first | exact trivial | refine And.intro ?_ ?_ | (refine wk_cons ?_ ?_))) <;> first | rfl | exact ren_eq (by first | (simp; done) | fail) (by first | rfl | fail) | fail
      ·
        have hq := feed_st_n k h (tx 3) b3
        have hq2 := feed_rest_n (tx 3) b3
        rw [← hS] at hq
        rw [← tx4] at hq hq2
        rw [← hE] at hq hq2 hEl
        have hap : (E.drop o ++ b3).map SV.u8 = List.take ((E.length - o) * 1) (List.drop o (E.map SV.u8)) ++ List.take (b3.length * 1) (List.drop 0 (b3.map SV.u8)) := (cat8 rfl rfl).symm
        have hDl : (E.drop o ++ b3).length = E.length - o + b3.length := by rw [List.length_append, List.length_drop]
        have hel : E.length - o < 64 := by rw [← List.length_drop, hE, hrl]; omega
        have hul : UInt64.ofNat (tx 3).length + u64i (b3.length : Int) = UInt64.ofNat (tx 4).length := by rw [u64_add_i _ _ (by omega), tx4, List.length_append]
        clear hS hrl
        conv => whnf
        first | refine brT (by rfl) ?_ | fail
        conv => whnf
        repeat (first | (refine Exists.intro _ (And.intro rfl ?_); conv => whnf) | (refine And.intro (by first | omega | (simp [ti5]; omega)) ?_; conv => whnf) | fail)
        obtain ⟨D, hD⟩ : ∃ D, D = E.drop o ++ b3 := ⟨_, rfl⟩
        rw [← hD] at hq hq2 hap hDl
        refine loop_rule ttOk mixed (by kernel_rfl) (ι := { j : Nat // 64 * j ≤ D.length }) (fun j => [(0, .p 0 0), (5, .i 64), (6, .sl 8 (64 * j.1) (D.length - 64 * j.1) 1 false), (7, .u64 (UInt64.ofNat (tx 4).length)), (21, .sl 3 0 4 1 fl), (22, .i 4), (23, .i 3)]) (fun j => [some (.ro (mach_n 1 2)), some (.row 23 ((blks_n k S D j.1).map .u32)), some (.ro (k.map .u32)), some (.ro [.sl 4 0 b0.length 1 f0, .sl 5 0 b1.length 1 f1, .sl 6 0 b2.length 1 f2, .sl 7 0 b3.length 1 f3]), some (.ro (b0.map .u8)), some (.ro (b1.map .u8)), some (.ro (b2.map .u8)), some (.ro (b3.map .u8)), some (.row 5 (D.map .u8))]) (fun _ => 8 + 1) (fun j => D.length - 64 * j.1) ⟨0, by omega⟩ ?_ ?_
        · have hz := blks_z_n k S D
          have hDn : E.length - o + b3.length = D.length - 64 * 0 := by omega
          dsimp only
          rw [hz]
          refine Weak.sel [0, 1, 2, 3, 4, 5, 6, 7, 9] rfl rfl ?_ ?_ rfl rfl
          · (repeat' (first | exact trivial | refine And.intro ?_ ?_ | fail)) <;> first | exact wk_u64 (by first | exact hul | exact hul.symm | fail) | rfl | exact wk_sl rfl (by first | rfl | fail) (by first | exact hDn.symm | fail) | fail
          · (repeat' (first | exact trivial | exact ren_eq (plainL_u8 _) hap | refine And.intro ?_ ?_ | (refine wk_cons ?_ ?_))) <;> first | rfl | exact ren_eq (by first | (simp; done) | fail) (by first | rfl | fail) | fail
        · rintro ⟨j, hj⟩
          dsimp only
          have hbl := blks_len_n k hsl D j
          by_cases hc : 64 * (j + 1) ≤ D.length
          · have hge : decide (((D.length - 64 * j : Nat) : Int) ≥ 64) = true := by simp; omega
            have hs := blks_s_n k S D j
            have q139 := f139D (blks_n k S D j) k D (64 * j) hbl hk (by omega) false
            rw [← hs] at q139
            conv => whnf
            first | refine brT (by exact hge) ?_ | fail
            conv => whnf
            repeat (first | (refine Exists.intro _ (And.intro rfl ?_); conv => whnf) | (refine And.intro (by first | omega | fail) ?_; conv => whnf) | fail)
            refine ok1_callF [0, 1, 2, 8] [false, true, false, false] true (q139) rfl rfl ⟨⟨rfl, by first | rfl | fail⟩, by (repeat' (first | exact trivial | refine And.intro ?_ ?_)) <;> first | rfl | exact ren_eq (by first | (simp; done) | fail) (by first | rfl | fail) | fail, by first | simp [plainHf, plainB], by first | rfl | fail, ?_⟩
            conv => whnf
            repeat (first | (refine Exists.intro _ (And.intro rfl ?_); conv => whnf) | (refine And.intro (by first | omega | fail) ?_; conv => whnf) | fail)
            refine ⟨⟨j + 1, hc⟩, by simp only; omega, ?_⟩
            dsimp only
            refine Weak.sel [0, 1, 2, 3, 4, 5, 6, 7, 8] rfl rfl ?_ ?_ rfl rfl
            · (repeat' (first | exact trivial | refine And.intro ?_ ?_ | fail)) <;> first | rfl | fail
            · (repeat' (first | exact trivial | refine And.intro ?_ ?_ | (refine wk_cons ?_ ?_))) <;> first | rfl | exact ren_eq (by first | (simp; done) | fail) (by first | rfl | fail) | fail
          · obtain rfl : j = D.length / 64 := by omega
            have hge : decide (((D.length - 64 * (D.length / 64) : Nat) : Int) ≥ 64) = false := by simp; omega
            rw [hq]
            conv => whnf
            first | refine brF (by exact hge) ?_ | fail
            conv => whnf
            repeat (fail)
            refine ⟨⟨(4, D, 64 * (D.length / 64)), by omega, by simp only; omega, hq2⟩, by simp only; omega, ?_⟩
            dsimp only
            refine Weak.sel [0, 1, 2, 3, 4, 5, 6, 7, 8] rfl rfl ?_ ?_ rfl rfl
            · (repeat' (first | exact trivial | refine And.intro ?_ ?_ | fail)) <;> first | rfl | fail
            · (repeat' (first | exact trivial | refine And.intro ?_ ?_ | (refine wk_cons ?_ ?_))) <;> first | rfl | exact ren_eq (by first | (simp; done) | fail) (by first | rfl | fail) | fail
    · obtain rfl : i = 4 := by omega
      obtain ⟨n, hn⟩ : ∃ n, n = E.length - o := ⟨_, rfl⟩
      have hnE : o + n = E.length := by omega
      rw [← hn]
      have hcat : (rest_n (tx 4) ++ [128]).map SV.u8 = List.take (n * 1) (List.drop o (E.map SV.u8)) ++ List.take (1 * 1) (List.drop 0 [SV.u8 128]) := by rw [← hE]; exact (cat8 (b := [128]) hn rfl).symm
      have hdd : decide (((n : Nat) : Int).toNat = ((n : Nat) : Int).toNat) = true := by simp
      conv => whnf
      first | refine brF (by rfl) ?_ | fail
      conv => whnf
      repeat (first | (refine Exists.intro _ (And.intro rfl ?_); conv => whnf) | (refine And.intro (by first | omega | fail) ?_; conv => whnf) | fail)
      rw [hdd]
      rw [Int.toNat_natCast]
      have hnl : n = (rest_n (tx 4)).length := by rw [hn, ← hE, List.length_drop]
      have hn64 : n < 64 := by rw [hnl, hrl]; omega
      have hpz := pz_rest_n (tx 4)
      rw [← hnl] at hpz
      have hpl : pz_n n < 64 := by unfold pz_n; exact Nat.mod_lt _ (by decide)
      conv => whnf
      refine And.intro ⟨by show _ ≤ (E.map SV.u8).length; rw [List.length_map]; omega, by decide, by show _ * 1 ≤ _; omega, by decide⟩ ?_
      conv => whnf
      repeat (fail)
      refine loop_rule ttOk mixed (by kernel_rfl) (ι := { j : Nat // j ≤ pz_n n }) (fun j => [(0, .p 0 0), (5, .i 64), (6, .sl 8 0 (n + 1 + j.1) 1 false), (7, .u64 (UInt64.ofNat (tx 4).length))]) (fun j => [some (.ro (mach_n 1 2)), some (.row 23 (S.map .u32)), some (.ro (k.map .u32)), some (.ro [.sl 4 0 b0.length 1 f0, .sl 5 0 b1.length 1 f1, .sl 6 0 b2.length 1 f2, .sl 7 0 b3.length 1 f3]), some (.ro (b0.map .u8)), some (.ro (b1.map .u8)), some (.ro (b2.map .u8)), some (.ro (b3.map .u8)), some (.row 5 ((rest_n (tx 4) ++ [128] ++ List.replicate j.1 0).map .u8))]) (fun _ => 8 + 1) (fun j => pz_n n - j.1) ⟨0, by omega⟩ ?_ ?_
      · have hz : rest_n (tx 4) ++ [128] ++ List.replicate 0 0 = rest_n (tx 4) ++ [128] := List.append_nil _
        dsimp only
        rw [hz]
        refine Weak.sel [0, 1, 2, 3, 4, 5, 6, 7, 8 + 2] rfl rfl ?_ ?_ rfl rfl
        · (repeat' (first | exact trivial | refine And.intro ?_ ?_ | fail)) <;> first | rfl | fail
        · (repeat' (first | exact trivial | exact ren_eq (plainL_u8 _) hcat | refine And.intro ?_ ?_ | (refine wk_cons ?_ ?_))) <;> first | rfl | exact ren_eq (by first | (simp; done) | fail) (by first | rfl | fail) | fail
      · rintro ⟨j, hj⟩
        dsimp only
        obtain ⟨Y, hY⟩ : ∃ Y, Y = rest_n (tx 4) ++ [128] ++ List.replicate j 0 := ⟨_, rfl⟩
        have hYl : Y.length = n + 1 + j := by rw [hY, List.length_append, List.length_append, ← hnl, List.length_replicate]; rfl
        have hYs : rest_n (tx 4) ++ [128] ++ List.replicate (j + 1) 0 = Y ++ [0] := by rw [hY, List.replicate_succ', List.append_assoc]; simp
        by_cases hj2 : j < pz_n n
        · have hno := padz_no_n hj2
          have hcd : (((w64 (((n + 1 + j : Nat) : Int) + w64 (2 * 4))).tmod 64) != 0) = true := by
            have e : w64 (((n + 1 + j : Nat) : Int) + w64 (2 * 4)) = ((n + 1 + j + 8 : Nat) : Int) := by simp only [w64_eq]; omega
            rw [e, show (((n + 1 + j + 8 : Nat) : Int)).tmod 64 = (((n + 1 + j + 8) % 64 : Nat) : Int) from rfl]
            simp; omega
          rw [← hY]
          conv => whnf
          repeat (first | (refine Exists.intro _ (And.intro rfl ?_); conv => whnf) | fail)
          first | refine brT (by exact hcd) ?_ | fail
          conv => whnf
          repeat (first | (refine Exists.intro _ (And.intro rfl ?_); conv => whnf) | (refine And.intro (by first | omega | (simp [ti5]; omega)) ?_; conv => whnf) | fail)
          have hap2 : (Y ++ [0]).map SV.u8 = List.take ((n + 1 + j) * 1) (List.drop 0 (Y.map SV.u8)) ++ List.take (1 * 1) (List.drop 0 [SV.u8 0]) := (cat8 (o := 0) (n := n + 1 + j) (E := Y) (b := [0]) (by omega) rfl).symm
          refine ⟨⟨j + 1, by omega⟩, by simp only; omega, ?_⟩
          dsimp only
          rw [hYs]
          refine Weak.sel [0, 1, 2, 3, 4, 5, 6, 7, 8 + 2] rfl rfl ?_ ?_ rfl rfl
          · (repeat' (first | exact trivial | refine And.intro ?_ ?_ | fail)) <;> first | rfl | fail
          · (repeat' (first | exact trivial | exact ren_eq (plainL_u8 _) hap2 | refine And.intro ?_ ?_ | (refine wk_cons ?_ ?_))) <;> first | rfl | exact ren_eq (by first | (simp; done) | fail) (by first | rfl | fail) | fail
        · obtain rfl : j = pz_n n := by omega
          have hyes := padz_yes_n n
          have hcd : (((w64 (((n + 1 + pz_n n : Nat) : Int) + w64 (2 * 4))).tmod 64) != 0) = false := by
            have e : w64 (((n + 1 + pz_n n : Nat) : Int) + w64 (2 * 4)) = ((n + 1 + pz_n n + 8 : Nat) : Int) := by simp only [w64_eq]; omega
            rw [e, show (((n + 1 + pz_n n + 8 : Nat) : Int)).tmod 64 = (((n + 1 + pz_n n + 8) % 64 : Nat) : Int) from rfl, hyes]
            rfl
          rw [← hY]
          conv => whnf
          repeat (first | (refine Exists.intro _ (And.intro rfl ?_); conv => whnf) | fail)
          first | refine brF (by exact hcd) ?_ | fail
          conv => whnf
          repeat (first | (refine Exists.intro _ (And.intro rfl ?_); conv => whnf) | (refine And.intro ⟨by first | decide | fail, by first | decide | fail⟩ ?_; conv => whnf) | fail)
          obtain ⟨N, hN⟩ : ∃ N, N = (tx 4).length := ⟨_, rfl⟩
          rw [← hN]
          refine loop_rule ttOk mixed (by kernel_rfl) (ι := { i : Nat // i ≤ 8 }) (fun i => [(0, .p 0 0), (5, .i 64), (6, .sl 8 0 (n + 1 + pz_n n) 1 false), (7, .u64 (UInt64.ofNat N)), (10, .sl (8 + 1) 0 8 1 true), (76, .i (i.1 : Int))]) (fun i => [some (.ro (mach_n 1 2)), some (.row 23 (S.map .u32)), some (.ro (k.map .u32)), some (.ro [.sl 4 0 b0.length 1 f0, .sl 5 0 b1.length 1 f1, .sl 6 0 b2.length 1 f2, .sl 7 0 b3.length 1 f3]), some (.ro (b0.map .u8)), some (.ro (b1.map .u8)), some (.ro (b2.map .u8)), some (.ro (b3.map .u8)), some (.row 5 (Y.map .u8)), some (.row 5 ((lset_n N i.1).map .u8))]) (fun _ => 8 + 2) (fun i => 8 - i.1) ⟨0, by omega⟩ ?_ ?_
          · have hz := lset_z_n N
            dsimp only
            rw [hz]
            refine Weak.sel [0, 1, 2, 3, 4, 5, 6, 7, 8, 8 + 1] rfl rfl ?_ ?_ rfl rfl
            · (repeat' (first | exact trivial | refine And.intro ?_ ?_ | fail)) <;> first | rfl | fail
            · (repeat' (first | exact trivial | exact ren_z8 | refine And.intro ?_ ?_ | (refine wk_cons ?_ ?_))) <;> first | rfl | exact ren_eq (by first | (simp; done) | fail) (by first | rfl | fail) | fail
          · rintro ⟨i, hi⟩
            dsimp only
            have hll := lset_len_n N i
            by_cases hi8 : i < 8
            · have hlt : decide ((i : Int) < 8) = true := by simp; omega
              have hp := wp1i i (by omega)
              have h8 : w64 (8 * (i : Int)) = ((8 * i : Nat) : Int) := by simp only [w64_eq]; omega
              have h7 : w64 (w64 (8 - 1) - (i : Int)) = ((7 - i : Nat) : Int) := by simp only [w64_eq]; omega
              have hs := lset_s_n N i
              conv => whnf
              first | refine brT (by exact hlt) ?_ | fail
              conv => whnf
              repeat (fail)
              refine ⟨_, mshr_64 h8, ?_⟩
              conv => whnf
              repeat (first | (refine Exists.intro _ (And.intro (sput_m8 (i := 7 - i) (by first | rfl | omega | fail)) ?_); conv => whnf) | (refine Exists.intro _ (And.intro (idx_i (m := 7 - i) (by first | rfl | omega | fail)) ?_); conv => whnf) | (refine And.intro (by first | omega | (simp; omega) | fail) ?_; conv => whnf) | fail)
              refine ⟨⟨i + 1, by omega⟩, by simp only; omega, ?_⟩
              dsimp only
              rw [hs]
              refine Weak.sel [0, 1, 2, 3, 4, 5, 6, 7, 8, 8 + 1] rfl rfl ?_ ?_ rfl rfl
              · (repeat' (first | exact trivial | refine And.intro ?_ ?_ | fail)) <;> first | exact wk_i (by first | exact hp | exact hp.symm | fail) | rfl | fail
              · (repeat' (first | exact trivial | refine And.intro ?_ ?_ | (refine wk_cons ?_ ?_))) <;> first | rfl | exact ren_eq (by first | (simp; done) | fail) (by first | rfl | fail) | exact ren_m8 (by first | rfl | fail) | fail
            · obtain rfl : i = 8 := by omega
              have hap3 : (Y ++ lset_n N 8).map SV.u8 = List.take ((n + 1 + pz_n n) * 1) (List.drop 0 (Y.map SV.u8)) ++ List.take (8 * 1) (List.drop 0 ((lset_n N 8).map SV.u8)) := (cat8 (o := 0) (n := n + 1 + pz_n n) (E := Y) (b := lset_n N 8) (by omega) hll.symm).symm
              obtain ⟨D, hD⟩ : ∃ D, D = Y ++ lset_n N 8 := ⟨_, rfl⟩
              have hDl : D.length = n + 1 + pz_n n + 8 := by rw [hD, List.length_append, hYl, hll]
              have hDe : D = last_n (tx 4) := by rw [hD, hY, hpz, hN]; exact last_e_n _
              have hD64 := last_len_n (tx 4)
              have hfin := last_st_n k h (tx 4)
              rw [← hDe] at hD64 hfin
              rw [← hS] at hfin
              rw [← hD] at hap3
              conv => whnf
              first | refine brF (by rfl) ?_ | fail
              conv => whnf
              repeat (first | (refine And.intro (by first | omega | (simp [ti5]; omega)) ?_; conv => whnf) | fail)
              refine loop_rule ttOk mixed (by kernel_rfl) (ι := { j : Nat // 64 * j ≤ D.length }) (fun j => [(0, .p 0 0), (5, .i 64), (6, .sl 8 (64 * j.1) (D.length - 64 * j.1) 1 false)]) (fun j => [some (.ro (mach_n 1 2)), some (.row 23 ((blks_n k S D j.1).map .u32)), some (.ro (k.map .u32)), some (.ro [.sl 4 0 b0.length 1 f0, .sl 5 0 b1.length 1 f1, .sl 6 0 b2.length 1 f2, .sl 7 0 b3.length 1 f3]), some (.ro (b0.map .u8)), some (.ro (b1.map .u8)), some (.ro (b2.map .u8)), some (.ro (b3.map .u8)), some (.row 5 (D.map .u8))]) (fun _ => 8 + 1) (fun j => D.length - 64 * j.1) ⟨0, by omega⟩ ?_ ?_
              · have hz := blks_z_n k S D
                have hDn : n + 1 + pz_n n + 8 = D.length - 64 * 0 := by omega
                dsimp only
                rw [hz]
                refine Weak.sel [0, 1, 2, 3, 4, 5, 6, 7, 8 + 2] rfl rfl ?_ ?_ rfl rfl
                · (repeat' (first | exact trivial | refine And.intro ?_ ?_ | fail)) <;> first | rfl | exact wk_sl rfl (by first | rfl | fail) (by first | exact hDn.symm | fail) | fail
                · (repeat' (first | exact trivial | exact ren_eq (plainL_u8 _) hap3 | refine And.intro ?_ ?_ | (refine wk_cons ?_ ?_))) <;> first | rfl | exact ren_eq (by first | (simp; done) | fail) (by first | rfl | fail) | fail
              · rintro ⟨j, hj⟩
                dsimp only
                have hbl := blks_len_n k hsl D j
                by_cases hc : 64 * (j + 1) ≤ D.length
                · have hge : decide (((D.length - 64 * j : Nat) : Int) > 0) = true := by simp; omega
                  have hs := blks_s_n k S D j
                  have q139 := f139D (blks_n k S D j) k D (64 * j) hbl hk (by omega) false
                  rw [← hs] at q139
                  conv => whnf
                  first | refine brT (by exact hge) ?_ | fail
                  conv => whnf
                  repeat (first | (refine Exists.intro _ (And.intro rfl ?_); conv => whnf) | (refine And.intro (by first | omega | fail) ?_; conv => whnf) | fail)
                  refine ok1_callF [0, 1, 2, 8] [false, true, false, false] true (q139) rfl rfl ⟨⟨rfl, by first | rfl | fail⟩, by (repeat' (first | exact trivial | refine And.intro ?_ ?_)) <;> first | rfl | exact ren_eq (by first | (simp; done) | fail) (by first | rfl | fail) | fail, by first | simp [plainHf, plainB], by first | rfl | fail, ?_⟩
                  conv => whnf
                  repeat (first | (refine Exists.intro _ (And.intro rfl ?_); conv => whnf) | (refine And.intro (by first | omega | fail) ?_; conv => whnf) | fail)
                  refine ⟨⟨j + 1, hc⟩, by simp only; omega, ?_⟩
                  dsimp only
                  refine Weak.sel [0, 1, 2, 3, 4, 5, 6, 7, 8] rfl rfl ?_ ?_ rfl rfl
                  · (repeat' (first | exact trivial | refine And.intro ?_ ?_ | fail)) <;> first | rfl | fail
                  · (repeat' (first | exact trivial | refine And.intro ?_ ?_ | (refine wk_cons ?_ ?_))) <;> first | rfl | exact ren_eq (by first | (simp; done) | fail) (by first | rfl | fail) | fail
                · obtain rfl : j = D.length / 64 := by omega
                  have hge : decide (((D.length - 64 * (D.length / 64) : Nat) : Int) > 0) = false := by simp; omega
                  obtain ⟨H, hH⟩ : ∃ H, H = blks_n k S D (D.length / 64) := ⟨_, rfl⟩
                  rw [← hH] at hbl hfin ⊢
                  conv => whnf
                  first | refine brF (by exact hge) ?_ | fail
                  conv => whnf
                  repeat (first | (refine Exists.intro _ (And.intro rfl ?_); conv => whnf) | fail)
                  refine SWp.weak (Weak.virt 12 5 1 rfl) ?_
                  refine loop_rule ttOk mixed (by kernel_rfl) (ι := { i : Nat // i ≤ 8 }) (fun i => [(0, .p 0 0), (12, .sl 8 0 (4 * i.1) 1 false), (110, .sl 1 0 8 1 false), (111, .i 8), (112, .i (i.1 : Int))]) (fun i => [some (.ro (mach_n 1 2)), some (.row 23 (H.map .u32)), some (.ro (k.map .u32)), some (.ro [.sl 4 0 b0.length 1 f0, .sl 5 0 b1.length 1 f1, .sl 6 0 b2.length 1 f2, .sl 7 0 b3.length 1 f3]), some (.ro (b0.map .u8)), some (.ro (b1.map .u8)), some (.ro (b2.map .u8)), some (.ro (b3.map .u8)), some (.row 5 ((outl_n H (4 * i.1)).map .u8))]) (fun _ => 8 + 1) (fun i => 8 - i.1) ⟨0, by omega⟩ ?_ ?_
                  · have hz := outl_z_n H
                    dsimp only
                    rw [hz]
                    refine Weak.sel [0, 1, 2, 3, 4, 5, 6, 7, 8 + 1] rfl rfl ?_ ?_ rfl rfl
                    · (repeat' (first | exact trivial | refine And.intro ?_ ?_ | fail)) <;> first | rfl | fail
                    · (repeat' (first | exact trivial | refine And.intro ?_ ?_ | (refine wk_cons ?_ ?_))) <;> first | rfl | exact ren_eq (by first | (simp; done) | fail) (by first | rfl | fail) | fail
                  · rintro ⟨i, hi⟩
                    dsimp only
                    by_cases hi8 : i < 8
                    · have hlt : decide ((i : Int) < 8) = true := by simp; omega
                      have hp := wp1i i (by omega)
                      conv => whnf
                      first | refine brT (by exact hlt) ?_ | fail
                      conv => whnf
                      repeat (first | (refine Exists.intro _ (And.intro (sload_u32 (i := i) (by first | rfl | omega | fail) (by first | omega | fail)) ?_); conv => whnf) | (refine Exists.intro _ (And.intro (idx_i (m := i) (by first | rfl | fail)) ?_); conv => whnf) | (refine Exists.intro _ (And.intro rfl ?_); conv => whnf) | (refine And.intro (by first | omega | fail) ?_; conv => whnf) | fail)
                      refine loop_rule ttOk mixed (by kernel_rfl) (ι := { m : Nat // m ≤ 4 }) (fun m => [(0, .p 0 0), (12, .sl 8 0 (4 * i + m.1) 1 false), (14, .u32 (H.getD i 0)), (15, .i (3 - (m.1 : Int))), (110, .sl 1 0 8 1 false), (111, .i 8), (112, .i (i : Int))]) (fun m => [some (.ro (mach_n 1 2)), some (.row 23 (H.map .u32)), some (.ro (k.map .u32)), some (.ro [.sl 4 0 b0.length 1 f0, .sl 5 0 b1.length 1 f1, .sl 6 0 b2.length 1 f2, .sl 7 0 b3.length 1 f3]), some (.ro (b0.map .u8)), some (.ro (b1.map .u8)), some (.ro (b2.map .u8)), some (.ro (b3.map .u8)), some (.row 5 ((outl_n H (4 * i + m.1)).map .u8))]) (fun _ => 8 + 1) (fun m => 4 - m.1) ⟨0, by omega⟩ ?_ ?_
                      · refine Weak.sel [0, 1, 2, 3, 4, 5, 6, 7, 8] rfl rfl ?_ ?_ rfl rfl
                        · (repeat' (first | exact trivial | refine And.intro ?_ ?_ | fail)) <;> first | rfl | fail
                        · (repeat' (first | exact trivial | refine And.intro ?_ ?_ | (refine wk_cons ?_ ?_))) <;> first | rfl | exact ren_eq (by first | (simp; done) | fail) (by first | rfl | fail) | fail
                      · rintro ⟨m, hm⟩
                        dsimp only
                        have hol := outl_len_n H (4 * i + m)
                        by_cases hm4 : m < 4
                        · have hge : decide ((3 - (m : Int)) ≥ 0) = true := by simp; omega
                          have h8 : w64 (8 * (3 - (m : Int))) = ((8 * (3 - m) : Nat) : Int) := by simp only [w64_eq]; omega
                          have hp2 : w64 (3 - (m : Int) - 1) = 3 - ((m + 1 : Nat) : Int) := by simp only [w64_eq]; omega
                          have hs := outl_s_n H i m hm4
                          obtain ⟨Z, hZ⟩ : ∃ Z, Z = outl_n H (4 * i + m) := ⟨_, rfl⟩
                          rw [← hZ] at hol hs ⊢
                          have hap4 : (Z ++ [(shr32 (H.getD i 0) (8 * (3 - m))).toUInt8]).map SV.u8 = List.take ((4 * i + m) * 1) (List.drop 0 (Z.map SV.u8)) ++ List.take (1 * 1) (List.drop 0 [SV.u8 (shr32 (H.getD i 0) (8 * (3 - m))).toUInt8]) := (cat8 (o := 0) (n := 4 * i + m) (E := Z) (b := [(shr32 (H.getD i 0) (8 * (3 - m))).toUInt8]) (by omega) rfl).symm
                          conv => whnf
                          first | refine brT (by exact hge) ?_ | fail
                          conv => whnf
                          repeat (fail)
                          refine ⟨_, mshr_32 h8, ?_⟩
                          conv => whnf
                          repeat (first | (refine Exists.intro _ (And.intro rfl ?_); conv => whnf) | (refine And.intro (by first | omega | (simp [ti5]; omega)) ?_; conv => whnf) | fail)
                          refine ⟨⟨m + 1, by omega⟩, by simp only; omega, ?_⟩
                          dsimp only
                          rw [hs]
                          refine Weak.sel [0, 1, 2, 3, 4, 5, 6, 7, 8 + 2] rfl rfl ?_ ?_ rfl rfl
                          · (repeat' (first | exact trivial | refine And.intro ?_ ?_ | fail)) <;> first | exact wk_i (by first | exact hp2 | exact hp2.symm | fail) | rfl | fail
                          · (repeat' (first | exact trivial | exact ren_eq (plainL_u8 _) hap4 | refine And.intro ?_ ?_ | (refine wk_cons ?_ ?_))) <;> first | rfl | exact ren_eq (by first | (simp; done) | fail) (by first | rfl | fail) | fail
                        · obtain rfl : m = 4 := by omega
                          conv => whnf
                          first | refine brF (by rfl) ?_ | fail
                          conv => whnf
                          repeat (fail)
                          refine ⟨⟨i + 1, by omega⟩, by simp only; omega, ?_⟩
                          dsimp only
                          rw [show 4 * (i + 1) = 4 * i + 4 by omega]
                          refine Weak.sel [0, 1, 2, 3, 4, 5, 6, 7, 8] rfl rfl ?_ ?_ rfl rfl
                          · (repeat' (first | exact trivial | refine And.intro ?_ ?_ | fail)) <;> first | exact wk_i (by first | exact hp | exact hp.symm | fail) | rfl | fail
                          · (repeat' (first | exact trivial | refine And.intro ?_ ?_ | (refine wk_cons ?_ ?_))) <;> first | rfl | exact ren_eq (by first | (simp; done) | fail) (by first | rfl | fail) | fail
                    · obtain rfl : i = 8 := by omega
                      rw [outb_e_n] at hfin
                      rw [← hfin]
                      conv => whnf
                      first | refine brF (by rfl) ?_ | fail
                      conv => whnf
                      refine ⟨[0, 1, 2, 3, 4, 5, 6, 7, 8], ?_, rfl, rfl, ?_, rfl⟩
                      · (repeat' (fail)) <;> first | rfl | fail
                      · (repeat' (first | exact trivial | refine And.intro ?_ ?_ | (refine wk_cons ?_ ?_))) <;> first | rfl | exact ren_eq (by first | (simp; done) | fail) (by first | rfl | fail) | fail
end Go.Sh
/- sha: the wide machine's sum (f104), walked, of texts in parts. -/
namespace Go.Sh
open Go.Proofs
set_option maxHeartbeats 4000000
set_option linter.unusedSimpArgs false
set_option linter.unusedVariables false

attribute [local irreducible] comp_w
theorem f140D (h k : List UInt64) (D : List UInt8) (o : Nat) (hh : h.length = 8) (hk : k.length = 80) (ho : o + 128 ≤ D.length) (fl : Bool) : SCall Try.prog 140 [.p 0 0, .sl 3 o 128 1 fl] [some (.ro (mach_w 1 2)), some (.row 25 (h.map .u64)), some (.ro (k.map .u64)), some (.ro (D.map .u8))] (.tup []) [some (.ro (mach_w 1 2)), some (.row 25 ((comp_w k h ((D.drop o).take 128)).map .u64)), some (.ro (k.map .u64)), some (.ro (D.map .u8))] :=
  have hl : ((D.drop o).take 128).length = 128 := (by rw [List.length_take, List.length_drop]; omega)
  (f140 h k ((D.drop o).take 128) hh hk hl fl).sub 3 o (D.map .u8) (((D.drop o).take 128).map .u8) 4 rfl rfl (by rw [List.length_map, hl, ← List.map_drop, ← List.map_take]) (plainL_u8 _) (plainL_u8 _) (by decide) ⟨.inr ⟨rfl, rfl⟩, .inl rfl, trivial⟩ rfl
    ⟨.inr (.inr rfl), .inr (.inl (by simp [plainB])), .inr (.inl (by simp [plainB])), .inl rfl, trivial⟩ ⟨.inr (.inr rfl), .inr (.inl (by simp [plainB])), .inr (.inl (by simp [plainB])), .inl rfl, trivial⟩
theorem blks_s_w (k h : List UInt64) (D : List UInt8) (j : Nat) : blks_w k h D (j + 1) = comp_w k (blks_w k h D j) ((D.drop (128 * j)).take 128) := rfl
theorem blks_z_w (k h : List UInt64) (D : List UInt8) : blks_w k h D 0 = h := rfl
theorem cat8w {E b : List UInt8} {o n m : Nat} (hn : n = E.length - o) (hm : m = b.length) : List.take (n * 1) (List.drop o (E.map SV.u8)) ++ List.take (m * 1) (List.drop 0 (b.map SV.u8)) = (E.drop o ++ b).map SV.u8 := by
  subst hn; subst hm
  rw [Nat.mul_one, Nat.mul_one, List.drop_zero, List.take_of_length_le (l := b.map SV.u8) (by rw [List.length_map]; exact Nat.le_refl _), List.take_of_length_le (by rw [List.length_drop, List.length_map]; exact Nat.le_refl _), List.map_append, List.map_drop]
theorem outl_z_w (H : List UInt64) : outl_w H (8 * 0) = [] := rfl
theorem outl_s_w (H : List UInt64) (i m : Nat) (hm : m < 8) : outl_w H (8 * i + (m + 1)) = outl_w H (8 * i + m) ++ [(shr64 (H.getD i 0) (8 * (7 - m))).toUInt8] := by
  show outl_w H (8 * i + m) ++ [(shr64 (H.getD ((8 * i + m) / 8) 0) (8 * (8 - 1 - (8 * i + m) % 8))).toUInt8] = _
  rw [show (8 * i + m) / 8 = i by omega, show 8 - 1 - (8 * i + m) % 8 = 7 - m by omega]
theorem outb_e_w (H : List UInt64) : outb_w H = outl_w H (8 * 8) := rfl
theorem lset_z_w (N : Nat) : lset_w N 0 = List.replicate 16 0 := rfl
theorem lset_s_w (N i : Nat) : lset_w N (i + 1) = (lset_w N i).set (15 - i) (shr64 (shl64 (UInt64.ofNat N) (UInt64.ofNat (Int.toNat 3)).toNat) (8 * i)).toUInt8 := rfl
theorem last_e_w (T : List UInt8) : rest_w T ++ [128] ++ List.replicate (pz_w T.length) 0 ++ lset_w T.length 8 = last_w T := rfl
attribute [local irreducible] blks_w st_w rest_w hash_w pz_w outl_w outb_w lset_w last_w
theorem f104_b (h k : List UInt64) (hh : h.length = 8) (hk : k.length = 80) (b0 : List UInt8) (hb0 : b0.length < 100000000000000) (f0 fl : Bool) : SCall Try.prog 104 [.p 0 0, .sl 3 0 1 1 fl] [some (.ro (mach_w 1 2)), some (.row 25 (h.map .u64)), some (.ro (k.map .u64)), some (.ro [.sl 4 0 b0.length 1 f0]), some (.ro (b0.map .u8))] (.sl 5 0 64 1 false) [some (.ro (mach_w 1 2)), none, some (.ro (k.map .u64)), some (.ro [.sl 4 0 b0.length 1 f0]), some (.ro (b0.map .u8)), some (.row 5 ((hash_w k h (b0)).map .u8))] := by
  obtain ⟨tx, htx⟩ : ∃ tx : Nat → List UInt8, tx = fun i => ([b0].take i).flatten := ⟨_, rfl⟩
  have tx0 : tx 0 = [] := by rw [htx]; rfl
  have tx1 : tx 1 = tx 0 ++ b0 := by rw [htx]; simp
  have htp : tx 1 = b0 := by rw [htx]; simp
  have he : hash_w k h (b0) = hash_w k h (tx 1) := by rw [htp]
  rw [he]
  have hl0 : (tx 0).length = 0 := by rw [tx0]; rfl
  have hl1 : (tx 1).length = (tx 0).length + b0.length := by rw [tx1, List.length_append]
  clear htx
  refine scall_of ttOk (by kernel_rfl : Try.prog.funcs[104]? = some Try.f104) rfl rfl rfl ?_
  try simp only [List.length_cons, List.length_nil, Nat.zero_add, Nat.reduceAdd]
  refine sw_ok ttOk mixed (by kernel_rfl) ?_
  conv => whnf
  repeat (first | (refine Exists.intro _ (And.intro rfl ?_); conv => whnf) | fail)
  refine SWp.weak (Weak.virt 6 5 1 rfl) ?_
  refine loop_rule ttOk mixed (by kernel_rfl) (ι := { x : Nat × List UInt8 × Nat // x.1 ≤ 1 ∧ x.2.2 ≤ x.2.1.length ∧ x.2.1.drop x.2.2 = rest_w (tx x.1) }) (fun x => [(0, .p 0 0), (5, .i 128), (6, .sl 5 x.1.2.2 (x.1.2.1.length - x.1.2.2) 1 false), (7, .u64 (UInt64.ofNat (tx x.1.1).length)), (21, .sl 3 0 1 1 fl), (22, .i 1), (23, .i (x.1.1 : Int))]) (fun x => [some (.ro (mach_w 1 2)), some (.row 25 ((st_w k h (tx x.1.1)).map .u64)), some (.ro (k.map .u64)), some (.ro [.sl 4 0 b0.length 1 f0]), some (.ro (b0.map .u8)), some (.row 5 (x.1.2.1.map .u8))]) (fun _ => 6) (fun x => 1 - x.1.1) ⟨(0, [], 0), by omega, by simp, by rw [tx0]; exact rest_nil_w.symm⟩ ?_ ?_
  · dsimp only
    rw [tx0, st_nil_w]
    refine Weak.sel [0, 1, 2, 3, 4, 5] rfl rfl ?_ ?_ rfl rfl
    · (repeat' (first | exact trivial | refine And.intro ?_ ?_ | fail)) <;> first | rfl | fail
    · (repeat' (first | exact trivial | refine And.intro ?_ ?_ | (refine wk_cons ?_ ?_))) <;> first | rfl | exact ren_eq (by first | (simp; done) | fail) (by first | rfl | fail) | fail
  · rintro ⟨⟨i, E, o⟩, hi, ho, hE⟩
    dsimp only at hi ho hE ⊢
    have hsl := st_len_w k hh (tx i)
    have hrl := rest_len_w (tx i)
    obtain ⟨S, hS⟩ : ∃ S, S = st_w k h (tx i) := ⟨_, rfl⟩
    rw [← hS] at hsl ⊢
    have hEl : E.length - o = (rest_w (tx i)).length := by rw [← hE, List.length_drop]
    by_cases hi2 : i < 1
    · have hic : i = 0 := by omega
      rcases hic with rfl
      ·
        have hq := feed_st_w k h (tx 0) b0
        have hq2 := feed_rest_w (tx 0) b0
        rw [← hS] at hq
        rw [← tx1] at hq hq2
        rw [← hE] at hq hq2 hEl
        have hap : (E.drop o ++ b0).map SV.u8 = List.take ((E.length - o) * 1) (List.drop o (E.map SV.u8)) ++ List.take (b0.length * 1) (List.drop 0 (b0.map SV.u8)) := (cat8w rfl rfl).symm
        have hDl : (E.drop o ++ b0).length = E.length - o + b0.length := by rw [List.length_append, List.length_drop]
        have hel : E.length - o < 128 := by rw [← List.length_drop, hE, hrl]; omega
        have hul : UInt64.ofNat (tx 0).length + u64i (b0.length : Int) = UInt64.ofNat (tx 1).length := by rw [u64_add_i _ _ (by omega), tx1, List.length_append]
        clear hS hrl
        conv => whnf
        first | refine brT (by rfl) ?_ | fail
        conv => whnf
        repeat (first | (refine Exists.intro _ (And.intro rfl ?_); conv => whnf) | (refine And.intro (by first | omega | (simp [ti5]; omega)) ?_; conv => whnf) | fail)
        obtain ⟨D, hD⟩ : ∃ D, D = E.drop o ++ b0 := ⟨_, rfl⟩
        rw [← hD] at hq hq2 hap hDl
        refine loop_rule ttOk mixed (by kernel_rfl) (ι := { j : Nat // 128 * j ≤ D.length }) (fun j => [(0, .p 0 0), (5, .i 128), (6, .sl 5 (128 * j.1) (D.length - 128 * j.1) 1 false), (7, .u64 (UInt64.ofNat (tx 1).length)), (21, .sl 3 0 1 1 fl), (22, .i 1), (23, .i 0)]) (fun j => [some (.ro (mach_w 1 2)), some (.row 25 ((blks_w k S D j.1).map .u64)), some (.ro (k.map .u64)), some (.ro [.sl 4 0 b0.length 1 f0]), some (.ro (b0.map .u8)), some (.row 5 (D.map .u8))]) (fun _ => 5 + 1) (fun j => D.length - 128 * j.1) ⟨0, by omega⟩ ?_ ?_
        · have hz := blks_z_w k S D
          have hDn : E.length - o + b0.length = D.length - 128 * 0 := by omega
          dsimp only
          rw [hz]
          refine Weak.sel [0, 1, 2, 3, 4, 6] rfl rfl ?_ ?_ rfl rfl
          · (repeat' (first | exact trivial | refine And.intro ?_ ?_ | fail)) <;> first | exact wk_u64 (by first | exact hul | exact hul.symm | fail) | rfl | exact wk_sl rfl (by first | rfl | fail) (by first | exact hDn.symm | fail) | fail
          · (repeat' (first | exact trivial | exact ren_eq (plainL_u8 _) hap | refine And.intro ?_ ?_ | (refine wk_cons ?_ ?_))) <;> first | rfl | exact ren_eq (by first | (simp; done) | fail) (by first | rfl | fail) | fail
        · rintro ⟨j, hj⟩
          dsimp only
          have hbl := blks_len_w k hsl D j
          by_cases hc : 128 * (j + 1) ≤ D.length
          · have hge : decide (((D.length - 128 * j : Nat) : Int) ≥ 128) = true := by simp; omega
            have hs := blks_s_w k S D j
            have q140 := f140D (blks_w k S D j) k D (128 * j) hbl hk (by omega) false
            rw [← hs] at q140
            conv => whnf
            first | refine brT (by exact hge) ?_ | fail
            conv => whnf
            repeat (first | (refine Exists.intro _ (And.intro rfl ?_); conv => whnf) | (refine And.intro (by first | omega | fail) ?_; conv => whnf) | fail)
            refine ok1_callF [0, 1, 2, 5] [false, true, false, false] true (q140) rfl rfl ⟨⟨rfl, by first | rfl | fail⟩, by (repeat' (first | exact trivial | refine And.intro ?_ ?_)) <;> first | rfl | exact ren_eq (by first | (simp; done) | fail) (by first | rfl | fail) | fail, by first | simp [plainHf, plainB], by first | rfl | fail, ?_⟩
            conv => whnf
            repeat (first | (refine Exists.intro _ (And.intro rfl ?_); conv => whnf) | (refine And.intro (by first | omega | fail) ?_; conv => whnf) | fail)
            refine ⟨⟨j + 1, hc⟩, by simp only; omega, ?_⟩
            dsimp only
            refine Weak.sel [0, 1, 2, 3, 4, 5] rfl rfl ?_ ?_ rfl rfl
            · (repeat' (first | exact trivial | refine And.intro ?_ ?_ | fail)) <;> first | rfl | fail
            · (repeat' (first | exact trivial | refine And.intro ?_ ?_ | (refine wk_cons ?_ ?_))) <;> first | rfl | exact ren_eq (by first | (simp; done) | fail) (by first | rfl | fail) | fail
          · obtain rfl : j = D.length / 128 := by omega
            have hge : decide (((D.length - 128 * (D.length / 128) : Nat) : Int) ≥ 128) = false := by simp; omega
            rw [hq]
            conv => whnf
            first | refine brF (by exact hge) ?_ | fail
            conv => whnf
            repeat (fail)
            refine ⟨⟨(1, D, 128 * (D.length / 128)), by omega, by simp only; omega, hq2⟩, by simp only; omega, ?_⟩
            dsimp only
            refine Weak.sel [0, 1, 2, 3, 4, 5] rfl rfl ?_ ?_ rfl rfl
            · (repeat' (first | exact trivial | refine And.intro ?_ ?_ | fail)) <;> first | rfl | fail
            · (repeat' (first | exact trivial | refine And.intro ?_ ?_ | (refine wk_cons ?_ ?_))) <;> first | rfl | exact ren_eq (by first | (simp; done) | fail) (by first | rfl | fail) | fail
    · obtain rfl : i = 1 := by omega
      obtain ⟨n, hn⟩ : ∃ n, n = E.length - o := ⟨_, rfl⟩
      have hnE : o + n = E.length := by omega
      rw [← hn]
      have hcat : (rest_w (tx 1) ++ [128]).map SV.u8 = List.take (n * 1) (List.drop o (E.map SV.u8)) ++ List.take (1 * 1) (List.drop 0 [SV.u8 128]) := by rw [← hE]; exact (cat8w (b := [128]) hn rfl).symm
      have hdd : decide (((n : Nat) : Int).toNat = ((n : Nat) : Int).toNat) = true := by simp
      conv => whnf
      first | refine brF (by rfl) ?_ | fail
      conv => whnf
      repeat (first | (refine Exists.intro _ (And.intro rfl ?_); conv => whnf) | (refine And.intro (by first | omega | fail) ?_; conv => whnf) | fail)
      rw [hdd]
      rw [Int.toNat_natCast]
      have hnl : n = (rest_w (tx 1)).length := by rw [hn, ← hE, List.length_drop]
      have hn64 : n < 128 := by rw [hnl, hrl]; omega
      have hpz := pz_rest_w (tx 1)
      rw [← hnl] at hpz
      have hpl : pz_w n < 128 := by unfold pz_w; exact Nat.mod_lt _ (by decide)
      conv => whnf
      refine And.intro ⟨by show _ ≤ (E.map SV.u8).length; rw [List.length_map]; omega, by decide, by show _ * 1 ≤ _; omega, by decide⟩ ?_
      conv => whnf
      repeat (fail)
      refine loop_rule ttOk mixed (by kernel_rfl) (ι := { j : Nat // j ≤ pz_w n }) (fun j => [(0, .p 0 0), (5, .i 128), (6, .sl 5 0 (n + 1 + j.1) 1 false), (7, .u64 (UInt64.ofNat (tx 1).length))]) (fun j => [some (.ro (mach_w 1 2)), some (.row 25 (S.map .u64)), some (.ro (k.map .u64)), some (.ro [.sl 4 0 b0.length 1 f0]), some (.ro (b0.map .u8)), some (.row 5 ((rest_w (tx 1) ++ [128] ++ List.replicate j.1 0).map .u8))]) (fun _ => 5 + 1) (fun j => pz_w n - j.1) ⟨0, by omega⟩ ?_ ?_
      · have hz : rest_w (tx 1) ++ [128] ++ List.replicate 0 0 = rest_w (tx 1) ++ [128] := List.append_nil _
        dsimp only
        rw [hz]
        refine Weak.sel [0, 1, 2, 3, 4, 5 + 2] rfl rfl ?_ ?_ rfl rfl
        · (repeat' (first | exact trivial | refine And.intro ?_ ?_ | fail)) <;> first | rfl | fail
        · (repeat' (first | exact trivial | exact ren_eq (plainL_u8 _) hcat | refine And.intro ?_ ?_ | (refine wk_cons ?_ ?_))) <;> first | rfl | exact ren_eq (by first | (simp; done) | fail) (by first | rfl | fail) | fail
      · rintro ⟨j, hj⟩
        dsimp only
        obtain ⟨Y, hY⟩ : ∃ Y, Y = rest_w (tx 1) ++ [128] ++ List.replicate j 0 := ⟨_, rfl⟩
        have hYl : Y.length = n + 1 + j := by rw [hY, List.length_append, List.length_append, ← hnl, List.length_replicate]; rfl
        have hYs : rest_w (tx 1) ++ [128] ++ List.replicate (j + 1) 0 = Y ++ [0] := by rw [hY, List.replicate_succ', List.append_assoc]; simp
        by_cases hj2 : j < pz_w n
        · have hno := padz_no_w hj2
          have hcd : (((w64 (((n + 1 + j : Nat) : Int) + w64 (2 * 8))).tmod 128) != 0) = true := by
            have e : w64 (((n + 1 + j : Nat) : Int) + w64 (2 * 8)) = ((n + 1 + j + 16 : Nat) : Int) := by simp only [w64_eq]; omega
            rw [e, show (((n + 1 + j + 16 : Nat) : Int)).tmod 128 = (((n + 1 + j + 16) % 128 : Nat) : Int) from rfl]
            simp; omega
          rw [← hY]
          conv => whnf
          repeat (first | (refine Exists.intro _ (And.intro rfl ?_); conv => whnf) | fail)
          first | refine brT (by exact hcd) ?_ | fail
          conv => whnf
          repeat (first | (refine Exists.intro _ (And.intro rfl ?_); conv => whnf) | (refine And.intro (by first | omega | (simp [ti5]; omega)) ?_; conv => whnf) | fail)
          have hap2 : (Y ++ [0]).map SV.u8 = List.take ((n + 1 + j) * 1) (List.drop 0 (Y.map SV.u8)) ++ List.take (1 * 1) (List.drop 0 [SV.u8 0]) := (cat8w (o := 0) (n := n + 1 + j) (E := Y) (b := [0]) (by omega) rfl).symm
          refine ⟨⟨j + 1, by omega⟩, by simp only; omega, ?_⟩
          dsimp only
          rw [hYs]
          refine Weak.sel [0, 1, 2, 3, 4, 5 + 2] rfl rfl ?_ ?_ rfl rfl
          · (repeat' (first | exact trivial | refine And.intro ?_ ?_ | fail)) <;> first | rfl | fail
          · (repeat' (first | exact trivial | exact ren_eq (plainL_u8 _) hap2 | refine And.intro ?_ ?_ | (refine wk_cons ?_ ?_))) <;> first | rfl | exact ren_eq (by first | (simp; done) | fail) (by first | rfl | fail) | fail
        · obtain rfl : j = pz_w n := by omega
          have hyes := padz_yes_w n
          have hcd : (((w64 (((n + 1 + pz_w n : Nat) : Int) + w64 (2 * 8))).tmod 128) != 0) = false := by
            have e : w64 (((n + 1 + pz_w n : Nat) : Int) + w64 (2 * 8)) = ((n + 1 + pz_w n + 16 : Nat) : Int) := by simp only [w64_eq]; omega
            rw [e, show (((n + 1 + pz_w n + 16 : Nat) : Int)).tmod 128 = (((n + 1 + pz_w n + 16) % 128 : Nat) : Int) from rfl, hyes]
            rfl
          rw [← hY]
          conv => whnf
          repeat (first | (refine Exists.intro _ (And.intro rfl ?_); conv => whnf) | fail)
          first | refine brF (by exact hcd) ?_ | fail
          conv => whnf
          repeat (first | (refine Exists.intro _ (And.intro rfl ?_); conv => whnf) | (refine And.intro ⟨by first | decide | fail, by first | decide | fail⟩ ?_; conv => whnf) | fail)
          obtain ⟨N, hN⟩ : ∃ N, N = (tx 1).length := ⟨_, rfl⟩
          rw [← hN]
          refine loop_rule ttOk mixed (by kernel_rfl) (ι := { i : Nat // i ≤ 8 }) (fun i => [(0, .p 0 0), (5, .i 128), (6, .sl 5 0 (n + 1 + pz_w n) 1 false), (7, .u64 (UInt64.ofNat N)), (10, .sl (5 + 1) 0 16 1 true), (76, .i (i.1 : Int))]) (fun i => [some (.ro (mach_w 1 2)), some (.row 25 (S.map .u64)), some (.ro (k.map .u64)), some (.ro [.sl 4 0 b0.length 1 f0]), some (.ro (b0.map .u8)), some (.row 5 (Y.map .u8)), some (.row 5 ((lset_w N i.1).map .u8))]) (fun _ => 5 + 2) (fun i => 8 - i.1) ⟨0, by omega⟩ ?_ ?_
          · have hz := lset_z_w N
            dsimp only
            rw [hz]
            refine Weak.sel [0, 1, 2, 3, 4, 5, 5 + 1] rfl rfl ?_ ?_ rfl rfl
            · (repeat' (first | exact trivial | refine And.intro ?_ ?_ | fail)) <;> first | rfl | fail
            · (repeat' (first | exact trivial | exact ren_z8 | refine And.intro ?_ ?_ | (refine wk_cons ?_ ?_))) <;> first | rfl | exact ren_eq (by first | (simp; done) | fail) (by first | rfl | fail) | fail
          · rintro ⟨i, hi⟩
            dsimp only
            have hll := lset_len_w N i
            by_cases hi8 : i < 8
            · have hlt : decide ((i : Int) < 8) = true := by simp; omega
              have hp := wp1i i (by omega)
              have h8 : w64 (8 * (i : Int)) = ((8 * i : Nat) : Int) := by simp only [w64_eq]; omega
              have h7 : w64 (w64 (16 - 1) - (i : Int)) = ((15 - i : Nat) : Int) := by simp only [w64_eq]; omega
              have hs := lset_s_w N i
              conv => whnf
              first | refine brT (by exact hlt) ?_ | fail
              conv => whnf
              repeat (fail)
              refine ⟨_, mshr_64 h8, ?_⟩
              conv => whnf
              repeat (first | (refine Exists.intro _ (And.intro (sput_m8 (i := 15 - i) (by first | rfl | omega | fail)) ?_); conv => whnf) | (refine Exists.intro _ (And.intro (idx_i (m := 15 - i) (by first | rfl | omega | fail)) ?_); conv => whnf) | (refine And.intro (by first | omega | (simp; omega) | fail) ?_; conv => whnf) | fail)
              refine ⟨⟨i + 1, by omega⟩, by simp only; omega, ?_⟩
              dsimp only
              rw [hs]
              refine Weak.sel [0, 1, 2, 3, 4, 5, 5 + 1] rfl rfl ?_ ?_ rfl rfl
              · (repeat' (first | exact trivial | refine And.intro ?_ ?_ | fail)) <;> first | exact wk_i (by first | exact hp | exact hp.symm | fail) | rfl | fail
              · (repeat' (first | exact trivial | refine And.intro ?_ ?_ | (refine wk_cons ?_ ?_))) <;> first | rfl | exact ren_eq (by first | (simp; done) | fail) (by first | rfl | fail) | exact ren_m8 (by first | rfl | fail) | fail
            · obtain rfl : i = 8 := by omega
              have hap3 : (Y ++ lset_w N 8).map SV.u8 = List.take ((n + 1 + pz_w n) * 1) (List.drop 0 (Y.map SV.u8)) ++ List.take (16 * 1) (List.drop 0 ((lset_w N 8).map SV.u8)) := (cat8w (o := 0) (n := n + 1 + pz_w n) (E := Y) (b := lset_w N 8) (by omega) hll.symm).symm
              obtain ⟨D, hD⟩ : ∃ D, D = Y ++ lset_w N 8 := ⟨_, rfl⟩
              have hDl : D.length = n + 1 + pz_w n + 16 := by rw [hD, List.length_append, hYl, hll]
              have hDe : D = last_w (tx 1) := by rw [hD, hY, hpz, hN]; exact last_e_w _
              have hD64 := last_len_w (tx 1)
              have hfin := last_st_w k h (tx 1)
              rw [← hDe] at hD64 hfin
              rw [← hS] at hfin
              rw [← hD] at hap3
              conv => whnf
              first | refine brF (by rfl) ?_ | fail
              conv => whnf
              repeat (first | (refine And.intro (by first | omega | (simp [ti5]; omega)) ?_; conv => whnf) | fail)
              refine loop_rule ttOk mixed (by kernel_rfl) (ι := { j : Nat // 128 * j ≤ D.length }) (fun j => [(0, .p 0 0), (5, .i 128), (6, .sl 5 (128 * j.1) (D.length - 128 * j.1) 1 false)]) (fun j => [some (.ro (mach_w 1 2)), some (.row 25 ((blks_w k S D j.1).map .u64)), some (.ro (k.map .u64)), some (.ro [.sl 4 0 b0.length 1 f0]), some (.ro (b0.map .u8)), some (.row 5 (D.map .u8))]) (fun _ => 5 + 1) (fun j => D.length - 128 * j.1) ⟨0, by omega⟩ ?_ ?_
              · have hz := blks_z_w k S D
                have hDn : n + 1 + pz_w n + 16 = D.length - 128 * 0 := by omega
                dsimp only
                rw [hz]
                refine Weak.sel [0, 1, 2, 3, 4, 5 + 2] rfl rfl ?_ ?_ rfl rfl
                · (repeat' (first | exact trivial | refine And.intro ?_ ?_ | fail)) <;> first | rfl | exact wk_sl rfl (by first | rfl | fail) (by first | exact hDn.symm | fail) | fail
                · (repeat' (first | exact trivial | exact ren_eq (plainL_u8 _) hap3 | refine And.intro ?_ ?_ | (refine wk_cons ?_ ?_))) <;> first | rfl | exact ren_eq (by first | (simp; done) | fail) (by first | rfl | fail) | fail
              · rintro ⟨j, hj⟩
                dsimp only
                have hbl := blks_len_w k hsl D j
                by_cases hc : 128 * (j + 1) ≤ D.length
                · have hge : decide (((D.length - 128 * j : Nat) : Int) > 0) = true := by simp; omega
                  have hs := blks_s_w k S D j
                  have q140 := f140D (blks_w k S D j) k D (128 * j) hbl hk (by omega) false
                  rw [← hs] at q140
                  conv => whnf
                  first | refine brT (by exact hge) ?_ | fail
                  conv => whnf
                  repeat (first | (refine Exists.intro _ (And.intro rfl ?_); conv => whnf) | (refine And.intro (by first | omega | fail) ?_; conv => whnf) | fail)
                  refine ok1_callF [0, 1, 2, 5] [false, true, false, false] true (q140) rfl rfl ⟨⟨rfl, by first | rfl | fail⟩, by (repeat' (first | exact trivial | refine And.intro ?_ ?_)) <;> first | rfl | exact ren_eq (by first | (simp; done) | fail) (by first | rfl | fail) | fail, by first | simp [plainHf, plainB], by first | rfl | fail, ?_⟩
                  conv => whnf
                  repeat (first | (refine Exists.intro _ (And.intro rfl ?_); conv => whnf) | (refine And.intro (by first | omega | fail) ?_; conv => whnf) | fail)
                  refine ⟨⟨j + 1, hc⟩, by simp only; omega, ?_⟩
                  dsimp only
                  refine Weak.sel [0, 1, 2, 3, 4, 5] rfl rfl ?_ ?_ rfl rfl
                  · (repeat' (first | exact trivial | refine And.intro ?_ ?_ | fail)) <;> first | rfl | fail
                  · (repeat' (first | exact trivial | refine And.intro ?_ ?_ | (refine wk_cons ?_ ?_))) <;> first | rfl | exact ren_eq (by first | (simp; done) | fail) (by first | rfl | fail) | fail
                · obtain rfl : j = D.length / 128 := by omega
                  have hge : decide (((D.length - 128 * (D.length / 128) : Nat) : Int) > 0) = false := by simp; omega
                  obtain ⟨H, hH⟩ : ∃ H, H = blks_w k S D (D.length / 128) := ⟨_, rfl⟩
                  rw [← hH] at hbl hfin ⊢
                  conv => whnf
                  first | refine brF (by exact hge) ?_ | fail
                  conv => whnf
                  repeat (first | (refine Exists.intro _ (And.intro rfl ?_); conv => whnf) | fail)
                  refine SWp.weak (Weak.virt 12 5 1 rfl) ?_
                  refine loop_rule ttOk mixed (by kernel_rfl) (ι := { i : Nat // i ≤ 8 }) (fun i => [(0, .p 0 0), (12, .sl 5 0 (8 * i.1) 1 false), (110, .sl 1 0 8 1 true), (111, .i 8), (112, .i (i.1 : Int))]) (fun i => [some (.ro (mach_w 1 2)), some (.row 25 (H.map .u64)), some (.ro (k.map .u64)), some (.ro [.sl 4 0 b0.length 1 f0]), some (.ro (b0.map .u8)), some (.row 5 ((outl_w H (8 * i.1)).map .u8))]) (fun _ => 5 + 1) (fun i => 8 - i.1) ⟨0, by omega⟩ ?_ ?_
                  · have hz := outl_z_w H
                    dsimp only
                    rw [hz]
                    refine Weak.sel [0, 1, 2, 3, 4, 5 + 1] rfl rfl ?_ ?_ rfl rfl
                    · (repeat' (first | exact trivial | refine And.intro ?_ ?_ | fail)) <;> first | rfl | fail
                    · (repeat' (first | exact trivial | refine And.intro ?_ ?_ | (refine wk_cons ?_ ?_))) <;> first | rfl | exact ren_eq (by first | (simp; done) | fail) (by first | rfl | fail) | fail
                  · rintro ⟨i, hi⟩
                    dsimp only
                    by_cases hi8 : i < 8
                    · have hlt : decide ((i : Int) < 8) = true := by simp; omega
                      have hp := wp1i i (by omega)
                      conv => whnf
                      first | refine brT (by exact hlt) ?_ | fail
                      conv => whnf
                      repeat (first | (refine Exists.intro _ (And.intro (sload_u64 (i := i) (by first | rfl | omega | fail) (by first | omega | fail)) ?_); conv => whnf) | (refine Exists.intro _ (And.intro (idx_i (m := i) (by first | rfl | fail)) ?_); conv => whnf) | (refine Exists.intro _ (And.intro rfl ?_); conv => whnf) | (refine And.intro (by first | omega | fail) ?_; conv => whnf) | fail)
                      refine loop_rule ttOk mixed (by kernel_rfl) (ι := { m : Nat // m ≤ 8 }) (fun m => [(0, .p 0 0), (12, .sl 5 0 (8 * i + m.1) 1 false), (14, .u64 (H.getD i 0)), (15, .i (7 - (m.1 : Int))), (110, .sl 1 0 8 1 true), (111, .i 8), (112, .i (i : Int))]) (fun m => [some (.ro (mach_w 1 2)), some (.row 25 (H.map .u64)), some (.ro (k.map .u64)), some (.ro [.sl 4 0 b0.length 1 f0]), some (.ro (b0.map .u8)), some (.row 5 ((outl_w H (8 * i + m.1)).map .u8))]) (fun _ => 5 + 1) (fun m => 8 - m.1) ⟨0, by omega⟩ ?_ ?_
                      · refine Weak.sel [0, 1, 2, 3, 4, 5] rfl rfl ?_ ?_ rfl rfl
                        · (repeat' (first | exact trivial | refine And.intro ?_ ?_ | fail)) <;> first | rfl | fail
                        · (repeat' (first | exact trivial | refine And.intro ?_ ?_ | (refine wk_cons ?_ ?_))) <;> first | rfl | exact ren_eq (by first | (simp; done) | fail) (by first | rfl | fail) | fail
                      · rintro ⟨m, hm⟩
                        dsimp only
                        have hol := outl_len_w H (8 * i + m)
                        by_cases hm8 : m < 8
                        · have hge : decide ((7 - (m : Int)) ≥ 0) = true := by simp; omega
                          have h8 : w64 (8 * (7 - (m : Int))) = ((8 * (7 - m) : Nat) : Int) := by simp only [w64_eq]; omega
                          have hp2 : w64 (7 - (m : Int) - 1) = 7 - ((m + 1 : Nat) : Int) := by simp only [w64_eq]; omega
                          have hs := outl_s_w H i m hm8
                          obtain ⟨Z, hZ⟩ : ∃ Z, Z = outl_w H (8 * i + m) := ⟨_, rfl⟩
                          rw [← hZ] at hol hs ⊢
                          have hap4 : (Z ++ [(shr64 (H.getD i 0) (8 * (7 - m))).toUInt8]).map SV.u8 = List.take ((8 * i + m) * 1) (List.drop 0 (Z.map SV.u8)) ++ List.take (1 * 1) (List.drop 0 [SV.u8 (shr64 (H.getD i 0) (8 * (7 - m))).toUInt8]) := (cat8w (o := 0) (n := 8 * i + m) (E := Z) (b := [(shr64 (H.getD i 0) (8 * (7 - m))).toUInt8]) (by omega) rfl).symm
                          conv => whnf
                          first | refine brT (by exact hge) ?_ | fail
                          conv => whnf
                          repeat (fail)
                          refine ⟨_, mshr_64 h8, ?_⟩
                          conv => whnf
                          repeat (first | (refine Exists.intro _ (And.intro rfl ?_); conv => whnf) | (refine And.intro (by first | omega | (simp [ti5]; omega)) ?_; conv => whnf) | fail)
                          refine ⟨⟨m + 1, by omega⟩, by simp only; omega, ?_⟩
                          dsimp only
                          rw [hs]
                          refine Weak.sel [0, 1, 2, 3, 4, 5 + 2] rfl rfl ?_ ?_ rfl rfl
                          · (repeat' (first | exact trivial | refine And.intro ?_ ?_ | fail)) <;> first | exact wk_i (by first | exact hp2 | exact hp2.symm | fail) | rfl | fail
                          · (repeat' (first | exact trivial | exact ren_eq (plainL_u8 _) hap4 | refine And.intro ?_ ?_ | (refine wk_cons ?_ ?_))) <;> first | rfl | exact ren_eq (by first | (simp; done) | fail) (by first | rfl | fail) | fail
                        · obtain rfl : m = 8 := by omega
                          conv => whnf
                          first | refine brF (by rfl) ?_ | fail
                          conv => whnf
                          repeat (fail)
                          refine ⟨⟨i + 1, by omega⟩, by simp only; omega, ?_⟩
                          dsimp only
                          rw [show 8 * (i + 1) = 8 * i + 8 by omega]
                          refine Weak.sel [0, 1, 2, 3, 4, 5] rfl rfl ?_ ?_ rfl rfl
                          · (repeat' (first | exact trivial | refine And.intro ?_ ?_ | fail)) <;> first | exact wk_i (by first | exact hp | exact hp.symm | fail) | rfl | fail
                          · (repeat' (first | exact trivial | refine And.intro ?_ ?_ | (refine wk_cons ?_ ?_))) <;> first | rfl | exact ren_eq (by first | (simp; done) | fail) (by first | rfl | fail) | fail
                    · obtain rfl : i = 8 := by omega
                      rw [outb_e_w] at hfin
                      rw [← hfin]
                      conv => whnf
                      first | refine brF (by rfl) ?_ | fail
                      conv => whnf
                      refine ⟨[0, 1, 2, 3, 4, 5], ?_, rfl, rfl, ?_, rfl⟩
                      · (repeat' (fail)) <;> first | rfl | fail
                      · (repeat' (first | exact trivial | refine And.intro ?_ ?_ | (refine wk_cons ?_ ?_))) <;> first | rfl | exact ren_eq (by first | (simp; done) | fail) (by first | rfl | fail) | fail
end Go.Sh
/- sha: the wide machine's sum (f104), walked, of texts in parts. -/
namespace Go.Sh
open Go.Proofs
set_option maxHeartbeats 4000000
set_option linter.unusedSimpArgs false
set_option linter.unusedVariables false

attribute [local irreducible] comp_w
attribute [local irreducible] blks_w st_w rest_w hash_w pz_w outl_w outb_w lset_w last_w
theorem f104_bb (h k : List UInt64) (hh : h.length = 8) (hk : k.length = 80) (b0 b1 : List UInt8) (hb0 : b0.length < 100000000000000) (hb1 : b1.length < 100000000000000) (f0 f1 fl : Bool) : SCall Try.prog 104 [.p 0 0, .sl 3 0 2 1 fl] [some (.ro (mach_w 1 2)), some (.row 25 (h.map .u64)), some (.ro (k.map .u64)), some (.ro [.sl 4 0 b0.length 1 f0, .sl 5 0 b1.length 1 f1]), some (.ro (b0.map .u8)), some (.ro (b1.map .u8))] (.sl 6 0 64 1 false) [some (.ro (mach_w 1 2)), none, some (.ro (k.map .u64)), some (.ro [.sl 4 0 b0.length 1 f0, .sl 5 0 b1.length 1 f1]), some (.ro (b0.map .u8)), some (.ro (b1.map .u8)), some (.row 5 ((hash_w k h (b0 ++ b1)).map .u8))] := by
  obtain ⟨tx, htx⟩ : ∃ tx : Nat → List UInt8, tx = fun i => ([b0, b1].take i).flatten := ⟨_, rfl⟩
  have tx0 : tx 0 = [] := by rw [htx]; rfl
  have tx1 : tx 1 = tx 0 ++ b0 := by rw [htx]; simp
  have tx2 : tx 2 = tx 1 ++ b1 := by rw [htx]; simp
  have htp : tx 2 = b0 ++ b1 := by rw [htx]; simp
  have he : hash_w k h (b0 ++ b1) = hash_w k h (tx 2) := by rw [htp]
  rw [he]
  have hl0 : (tx 0).length = 0 := by rw [tx0]; rfl
  have hl1 : (tx 1).length = (tx 0).length + b0.length := by rw [tx1, List.length_append]
  have hl2 : (tx 2).length = (tx 1).length + b1.length := by rw [tx2, List.length_append]
  clear htx
  refine scall_of ttOk (by kernel_rfl : Try.prog.funcs[104]? = some Try.f104) rfl rfl rfl ?_
  try simp only [List.length_cons, List.length_nil, Nat.zero_add, Nat.reduceAdd]
  refine sw_ok ttOk mixed (by kernel_rfl) ?_
  conv => whnf
  repeat (first | (refine Exists.intro _ (And.intro rfl ?_); conv => whnf) | fail)
  refine SWp.weak (Weak.virt 6 5 1 rfl) ?_
  refine loop_rule ttOk mixed (by kernel_rfl) (ι := { x : Nat × List UInt8 × Nat // x.1 ≤ 2 ∧ x.2.2 ≤ x.2.1.length ∧ x.2.1.drop x.2.2 = rest_w (tx x.1) }) (fun x => [(0, .p 0 0), (5, .i 128), (6, .sl 6 x.1.2.2 (x.1.2.1.length - x.1.2.2) 1 false), (7, .u64 (UInt64.ofNat (tx x.1.1).length)), (21, .sl 3 0 2 1 fl), (22, .i 2), (23, .i (x.1.1 : Int))]) (fun x => [some (.ro (mach_w 1 2)), some (.row 25 ((st_w k h (tx x.1.1)).map .u64)), some (.ro (k.map .u64)), some (.ro [.sl 4 0 b0.length 1 f0, .sl 5 0 b1.length 1 f1]), some (.ro (b0.map .u8)), some (.ro (b1.map .u8)), some (.row 5 (x.1.2.1.map .u8))]) (fun _ => 7) (fun x => 2 - x.1.1) ⟨(0, [], 0), by omega, by simp, by rw [tx0]; exact rest_nil_w.symm⟩ ?_ ?_
  · dsimp only
    rw [tx0, st_nil_w]
    refine Weak.sel [0, 1, 2, 3, 4, 5, 6] rfl rfl ?_ ?_ rfl rfl
    · (repeat' (first | exact trivial | refine And.intro ?_ ?_ | fail)) <;> first | rfl | fail
    · (repeat' (first | exact trivial | refine And.intro ?_ ?_ | (refine wk_cons ?_ ?_))) <;> first | rfl | exact ren_eq (by first | (simp; done) | fail) (by first | rfl | fail) | fail
  · rintro ⟨⟨i, E, o⟩, hi, ho, hE⟩
    dsimp only at hi ho hE ⊢
    have hsl := st_len_w k hh (tx i)
    have hrl := rest_len_w (tx i)
    obtain ⟨S, hS⟩ : ∃ S, S = st_w k h (tx i) := ⟨_, rfl⟩
    rw [← hS] at hsl ⊢
    have hEl : E.length - o = (rest_w (tx i)).length := by rw [← hE, List.length_drop]
    by_cases hi2 : i < 2
    · have hic : i = 0 ∨ i = 1 := by omega
      rcases hic with rfl | rfl
      ·
        have hq := feed_st_w k h (tx 0) b0
        have hq2 := feed_rest_w (tx 0) b0
        rw [← hS] at hq
        rw [← tx1] at hq hq2
        rw [← hE] at hq hq2 hEl
        have hap : (E.drop o ++ b0).map SV.u8 = List.take ((E.length - o) * 1) (List.drop o (E.map SV.u8)) ++ List.take (b0.length * 1) (List.drop 0 (b0.map SV.u8)) := (cat8w rfl rfl).symm
        have hDl : (E.drop o ++ b0).length = E.length - o + b0.length := by rw [List.length_append, List.length_drop]
        have hel : E.length - o < 128 := by rw [← List.length_drop, hE, hrl]; omega
        have hul : UInt64.ofNat (tx 0).length + u64i (b0.length : Int) = UInt64.ofNat (tx 1).length := by rw [u64_add_i _ _ (by omega), tx1, List.length_append]
        clear hS hrl
        conv => whnf
        first | refine brT (by rfl) ?_ | fail
        conv => whnf
        repeat (first | (refine Exists.intro _ (And.intro rfl ?_); conv => whnf) | (refine And.intro (by first | omega | (simp [ti5]; omega)) ?_; conv => whnf) | fail)
        obtain ⟨D, hD⟩ : ∃ D, D = E.drop o ++ b0 := ⟨_, rfl⟩
        rw [← hD] at hq hq2 hap hDl
        refine loop_rule ttOk mixed (by kernel_rfl) (ι := { j : Nat // 128 * j ≤ D.length }) (fun j => [(0, .p 0 0), (5, .i 128), (6, .sl 6 (128 * j.1) (D.length - 128 * j.1) 1 false), (7, .u64 (UInt64.ofNat (tx 1).length)), (21, .sl 3 0 2 1 fl), (22, .i 2), (23, .i 0)]) (fun j => [some (.ro (mach_w 1 2)), some (.row 25 ((blks_w k S D j.1).map .u64)), some (.ro (k.map .u64)), some (.ro [.sl 4 0 b0.length 1 f0, .sl 5 0 b1.length 1 f1]), some (.ro (b0.map .u8)), some (.ro (b1.map .u8)), some (.row 5 (D.map .u8))]) (fun _ => 6 + 1) (fun j => D.length - 128 * j.1) ⟨0, by omega⟩ ?_ ?_
        · have hz := blks_z_w k S D
          have hDn : E.length - o + b0.length = D.length - 128 * 0 := by omega
          dsimp only
          rw [hz]
          refine Weak.sel [0, 1, 2, 3, 4, 5, 7] rfl rfl ?_ ?_ rfl rfl
          · (repeat' (first | exact trivial | refine And.intro ?_ ?_ | fail)) <;> first | exact wk_u64 (by first | exact hul | exact hul.symm | fail) | rfl | exact wk_sl rfl (by first | rfl | fail) (by first | exact hDn.symm | fail) | fail
          · (repeat' (first | exact trivial | exact ren_eq (plainL_u8 _) hap | refine And.intro ?_ ?_ | (refine wk_cons ?_ ?_))) <;> first | rfl | exact ren_eq (by first | (simp; done) | fail) (by first | rfl | fail) | fail
        · rintro ⟨j, hj⟩
          dsimp only
          have hbl := blks_len_w k hsl D j
          by_cases hc : 128 * (j + 1) ≤ D.length
          · have hge : decide (((D.length - 128 * j : Nat) : Int) ≥ 128) = true := by simp; omega
            have hs := blks_s_w k S D j
            have q140 := f140D (blks_w k S D j) k D (128 * j) hbl hk (by omega) false
            rw [← hs] at q140
            conv => whnf
            first | refine brT (by exact hge) ?_ | fail
            conv => whnf
            repeat (first | (refine Exists.intro _ (And.intro rfl ?_); conv => whnf) | (refine And.intro (by first | omega | fail) ?_; conv => whnf) | fail)
            refine ok1_callF [0, 1, 2, 6] [false, true, false, false] true (q140) rfl rfl ⟨⟨rfl, by first | rfl | fail⟩, by (repeat' (first | exact trivial | refine And.intro ?_ ?_)) <;> first | rfl | exact ren_eq (by first | (simp; done) | fail) (by first | rfl | fail) | fail, by first | simp [plainHf, plainB], by first | rfl | fail, ?_⟩
            conv => whnf
            repeat (first | (refine Exists.intro _ (And.intro rfl ?_); conv => whnf) | (refine And.intro (by first | omega | fail) ?_; conv => whnf) | fail)
            refine ⟨⟨j + 1, hc⟩, by simp only; omega, ?_⟩
            dsimp only
            refine Weak.sel [0, 1, 2, 3, 4, 5, 6] rfl rfl ?_ ?_ rfl rfl
            · (repeat' (first | exact trivial | refine And.intro ?_ ?_ | fail)) <;> first | rfl | fail
            · (repeat' (first | exact trivial | refine And.intro ?_ ?_ | (refine wk_cons ?_ ?_))) <;> first | rfl | exact ren_eq (by first | (simp; done) | fail) (by first | rfl | fail) | fail
          · obtain rfl : j = D.length / 128 := by omega
            have hge : decide (((D.length - 128 * (D.length / 128) : Nat) : Int) ≥ 128) = false := by simp; omega
            rw [hq]
            conv => whnf
            first | refine brF (by exact hge) ?_ | fail
            conv => whnf
            repeat (fail)
            refine ⟨⟨(1, D, 128 * (D.length / 128)), by omega, by simp only; omega, hq2⟩, by simp only; omega, ?_⟩
            dsimp only
            refine Weak.sel [0, 1, 2, 3, 4, 5, 6] rfl rfl ?_ ?_ rfl rfl
            · (repeat' (first | exact trivial | refine And.intro ?_ ?_ | fail)) <;> first | rfl | fail
            · (repeat' (first | exact trivial | refine And.intro ?_ ?_ | (refine wk_cons ?_ ?_))) <;> first | rfl | exact ren_eq (by first | (simp; done) | fail) (by first | rfl | fail) | fail
      ·
        have hq := feed_st_w k h (tx 1) b1
        have hq2 := feed_rest_w (tx 1) b1
        rw [← hS] at hq
        rw [← tx2] at hq hq2
        rw [← hE] at hq hq2 hEl
        have hap : (E.drop o ++ b1).map SV.u8 = List.take ((E.length - o) * 1) (List.drop o (E.map SV.u8)) ++ List.take (b1.length * 1) (List.drop 0 (b1.map SV.u8)) := (cat8w rfl rfl).symm
        have hDl : (E.drop o ++ b1).length = E.length - o + b1.length := by rw [List.length_append, List.length_drop]
        have hel : E.length - o < 128 := by rw [← List.length_drop, hE, hrl]; omega
        have hul : UInt64.ofNat (tx 1).length + u64i (b1.length : Int) = UInt64.ofNat (tx 2).length := by rw [u64_add_i _ _ (by omega), tx2, List.length_append]
        clear hS hrl
        conv => whnf
        first | refine brT (by rfl) ?_ | fail
        conv => whnf
        repeat (first | (refine Exists.intro _ (And.intro rfl ?_); conv => whnf) | (refine And.intro (by first | omega | (simp [ti5]; omega)) ?_; conv => whnf) | fail)
        obtain ⟨D, hD⟩ : ∃ D, D = E.drop o ++ b1 := ⟨_, rfl⟩
        rw [← hD] at hq hq2 hap hDl
        refine loop_rule ttOk mixed (by kernel_rfl) (ι := { j : Nat // 128 * j ≤ D.length }) (fun j => [(0, .p 0 0), (5, .i 128), (6, .sl 6 (128 * j.1) (D.length - 128 * j.1) 1 false), (7, .u64 (UInt64.ofNat (tx 2).length)), (21, .sl 3 0 2 1 fl), (22, .i 2), (23, .i 1)]) (fun j => [some (.ro (mach_w 1 2)), some (.row 25 ((blks_w k S D j.1).map .u64)), some (.ro (k.map .u64)), some (.ro [.sl 4 0 b0.length 1 f0, .sl 5 0 b1.length 1 f1]), some (.ro (b0.map .u8)), some (.ro (b1.map .u8)), some (.row 5 (D.map .u8))]) (fun _ => 6 + 1) (fun j => D.length - 128 * j.1) ⟨0, by omega⟩ ?_ ?_
        · have hz := blks_z_w k S D
          have hDn : E.length - o + b1.length = D.length - 128 * 0 := by omega
          dsimp only
          rw [hz]
          refine Weak.sel [0, 1, 2, 3, 4, 5, 7] rfl rfl ?_ ?_ rfl rfl
          · (repeat' (first | exact trivial | refine And.intro ?_ ?_ | fail)) <;> first | exact wk_u64 (by first | exact hul | exact hul.symm | fail) | rfl | exact wk_sl rfl (by first | rfl | fail) (by first | exact hDn.symm | fail) | fail
          · (repeat' (first | exact trivial | exact ren_eq (plainL_u8 _) hap | refine And.intro ?_ ?_ | (refine wk_cons ?_ ?_))) <;> first | rfl | exact ren_eq (by first | (simp; done) | fail) (by first | rfl | fail) | fail
        · rintro ⟨j, hj⟩
          dsimp only
          have hbl := blks_len_w k hsl D j
          by_cases hc : 128 * (j + 1) ≤ D.length
          · have hge : decide (((D.length - 128 * j : Nat) : Int) ≥ 128) = true := by simp; omega
            have hs := blks_s_w k S D j
            have q140 := f140D (blks_w k S D j) k D (128 * j) hbl hk (by omega) false
            rw [← hs] at q140
            conv => whnf
            first | refine brT (by exact hge) ?_ | fail
            conv => whnf
            repeat (first | (refine Exists.intro _ (And.intro rfl ?_); conv => whnf) | (refine And.intro (by first | omega | fail) ?_; conv => whnf) | fail)
            refine ok1_callF [0, 1, 2, 6] [false, true, false, false] true (q140) rfl rfl ⟨⟨rfl, by first | rfl | fail⟩, by (repeat' (first | exact trivial | refine And.intro ?_ ?_)) <;> first | rfl | exact ren_eq (by first | (simp; done) | fail) (by first | rfl | fail) | fail, by first | simp [plainHf, plainB], by first | rfl | fail, ?_⟩
            conv => whnf
            repeat (first | (refine Exists.intro _ (And.intro rfl ?_); conv => whnf) | (refine And.intro (by first | omega | fail) ?_; conv => whnf) | fail)
            refine ⟨⟨j + 1, hc⟩, by simp only; omega, ?_⟩
            dsimp only
            refine Weak.sel [0, 1, 2, 3, 4, 5, 6] rfl rfl ?_ ?_ rfl rfl
            · (repeat' (first | exact trivial | refine And.intro ?_ ?_ | fail)) <;> first | rfl | fail
            · (repeat' (first | exact trivial | refine And.intro ?_ ?_ | (refine wk_cons ?_ ?_))) <;> first | rfl | exact ren_eq (by first | (simp; done) | fail) (by first | rfl | fail) | fail
          · obtain rfl : j = D.length / 128 := by omega
            have hge : decide (((D.length - 128 * (D.length / 128) : Nat) : Int) ≥ 128) = false := by simp; omega
            rw [hq]
            conv => whnf
            first | refine brF (by exact hge) ?_ | fail
            conv => whnf
            repeat (fail)
            refine ⟨⟨(2, D, 128 * (D.length / 128)), by omega, by simp only; omega, hq2⟩, by simp only; omega, ?_⟩
            dsimp only
            refine Weak.sel [0, 1, 2, 3, 4, 5, 6] rfl rfl ?_ ?_ rfl rfl
            · (repeat' (first | exact trivial | refine And.intro ?_ ?_ | fail)) <;> first | rfl | fail
            · (repeat' (first | exact trivial | refine And.intro ?_ ?_ | (refine wk_cons ?_ ?_))) <;> first | rfl | exact ren_eq (by first | (simp; done) | fail) (by first | rfl | fail) | fail
    · obtain rfl : i = 2 := by omega
      obtain ⟨n, hn⟩ : ∃ n, n = E.length - o := ⟨_, rfl⟩
      have hnE : o + n = E.length := by omega
      rw [← hn]
      have hcat : (rest_w (tx 2) ++ [128]).map SV.u8 = List.take (n * 1) (List.drop o (E.map SV.u8)) ++ List.take (1 * 1) (List.drop 0 [SV.u8 128]) := by rw [← hE]; exact (cat8w (b := [128]) hn rfl).symm
      have hdd : decide (((n : Nat) : Int).toNat = ((n : Nat) : Int).toNat) = true := by simp
      conv => whnf
      first | refine brF (by rfl) ?_ | fail
      conv => whnf
      repeat (first | (refine Exists.intro _ (And.intro rfl ?_); conv => whnf) | (refine And.intro (by first | omega | fail) ?_; conv => whnf) | fail)
      rw [hdd]
      rw [Int.toNat_natCast]
      have hnl : n = (rest_w (tx 2)).length := by rw [hn, ← hE, List.length_drop]
      have hn64 : n < 128 := by rw [hnl, hrl]; omega
      have hpz := pz_rest_w (tx 2)
      rw [← hnl] at hpz
      have hpl : pz_w n < 128 := by unfold pz_w; exact Nat.mod_lt _ (by decide)
      conv => whnf
      refine And.intro ⟨by show _ ≤ (E.map SV.u8).length; rw [List.length_map]; omega, by decide, by show _ * 1 ≤ _; omega, by decide⟩ ?_
      conv => whnf
      repeat (fail)
      refine loop_rule ttOk mixed (by kernel_rfl) (ι := { j : Nat // j ≤ pz_w n }) (fun j => [(0, .p 0 0), (5, .i 128), (6, .sl 6 0 (n + 1 + j.1) 1 false), (7, .u64 (UInt64.ofNat (tx 2).length))]) (fun j => [some (.ro (mach_w 1 2)), some (.row 25 (S.map .u64)), some (.ro (k.map .u64)), some (.ro [.sl 4 0 b0.length 1 f0, .sl 5 0 b1.length 1 f1]), some (.ro (b0.map .u8)), some (.ro (b1.map .u8)), some (.row 5 ((rest_w (tx 2) ++ [128] ++ List.replicate j.1 0).map .u8))]) (fun _ => 6 + 1) (fun j => pz_w n - j.1) ⟨0, by omega⟩ ?_ ?_
      · have hz : rest_w (tx 2) ++ [128] ++ List.replicate 0 0 = rest_w (tx 2) ++ [128] := List.append_nil _
        dsimp only
        rw [hz]
        refine Weak.sel [0, 1, 2, 3, 4, 5, 6 + 2] rfl rfl ?_ ?_ rfl rfl
        · (repeat' (first | exact trivial | refine And.intro ?_ ?_ | fail)) <;> first | rfl | fail
        · (repeat' (first | exact trivial | exact ren_eq (plainL_u8 _) hcat | refine And.intro ?_ ?_ | (refine wk_cons ?_ ?_))) <;> first | rfl | exact ren_eq (by first | (simp; done) | fail) (by first | rfl | fail) | fail
      · rintro ⟨j, hj⟩
        dsimp only
        obtain ⟨Y, hY⟩ : ∃ Y, Y = rest_w (tx 2) ++ [128] ++ List.replicate j 0 := ⟨_, rfl⟩
        have hYl : Y.length = n + 1 + j := by rw [hY, List.length_append, List.length_append, ← hnl, List.length_replicate]; rfl
        have hYs : rest_w (tx 2) ++ [128] ++ List.replicate (j + 1) 0 = Y ++ [0] := by rw [hY, List.replicate_succ', List.append_assoc]; simp
        by_cases hj2 : j < pz_w n
        · have hno := padz_no_w hj2
          have hcd : (((w64 (((n + 1 + j : Nat) : Int) + w64 (2 * 8))).tmod 128) != 0) = true := by
            have e : w64 (((n + 1 + j : Nat) : Int) + w64 (2 * 8)) = ((n + 1 + j + 16 : Nat) : Int) := by simp only [w64_eq]; omega
            rw [e, show (((n + 1 + j + 16 : Nat) : Int)).tmod 128 = (((n + 1 + j + 16) % 128 : Nat) : Int) from rfl]
            simp; omega
          rw [← hY]
          conv => whnf
          repeat (first | (refine Exists.intro _ (And.intro rfl ?_); conv => whnf) | fail)
          first | refine brT (by exact hcd) ?_ | fail
          conv => whnf
          repeat (first | (refine Exists.intro _ (And.intro rfl ?_); conv => whnf) | (refine And.intro (by first | omega | (simp [ti5]; omega)) ?_; conv => whnf) | fail)
          have hap2 : (Y ++ [0]).map SV.u8 = List.take ((n + 1 + j) * 1) (List.drop 0 (Y.map SV.u8)) ++ List.take (1 * 1) (List.drop 0 [SV.u8 0]) := (cat8w (o := 0) (n := n + 1 + j) (E := Y) (b := [0]) (by omega) rfl).symm
          refine ⟨⟨j + 1, by omega⟩, by simp only; omega, ?_⟩
          dsimp only
          rw [hYs]
          refine Weak.sel [0, 1, 2, 3, 4, 5, 6 + 2] rfl rfl ?_ ?_ rfl rfl
          · (repeat' (first | exact trivial | refine And.intro ?_ ?_ | fail)) <;> first | rfl | fail
          · (repeat' (first | exact trivial | exact ren_eq (plainL_u8 _) hap2 | refine And.intro ?_ ?_ | (refine wk_cons ?_ ?_))) <;> first | rfl | exact ren_eq (by first | (simp; done) | fail) (by first | rfl | fail) | fail
        · obtain rfl : j = pz_w n := by omega
          have hyes := padz_yes_w n
          have hcd : (((w64 (((n + 1 + pz_w n : Nat) : Int) + w64 (2 * 8))).tmod 128) != 0) = false := by
            have e : w64 (((n + 1 + pz_w n : Nat) : Int) + w64 (2 * 8)) = ((n + 1 + pz_w n + 16 : Nat) : Int) := by simp only [w64_eq]; omega
            rw [e, show (((n + 1 + pz_w n + 16 : Nat) : Int)).tmod 128 = (((n + 1 + pz_w n + 16) % 128 : Nat) : Int) from rfl, hyes]
            rfl
          rw [← hY]
          conv => whnf
          repeat (first | (refine Exists.intro _ (And.intro rfl ?_); conv => whnf) | fail)
          first | refine brF (by exact hcd) ?_ | fail
          conv => whnf
          repeat (first | (refine Exists.intro _ (And.intro rfl ?_); conv => whnf) | (refine And.intro ⟨by first | decide | fail, by first | decide | fail⟩ ?_; conv => whnf) | fail)
          obtain ⟨N, hN⟩ : ∃ N, N = (tx 2).length := ⟨_, rfl⟩
          rw [← hN]
          refine loop_rule ttOk mixed (by kernel_rfl) (ι := { i : Nat // i ≤ 8 }) (fun i => [(0, .p 0 0), (5, .i 128), (6, .sl 6 0 (n + 1 + pz_w n) 1 false), (7, .u64 (UInt64.ofNat N)), (10, .sl (6 + 1) 0 16 1 true), (76, .i (i.1 : Int))]) (fun i => [some (.ro (mach_w 1 2)), some (.row 25 (S.map .u64)), some (.ro (k.map .u64)), some (.ro [.sl 4 0 b0.length 1 f0, .sl 5 0 b1.length 1 f1]), some (.ro (b0.map .u8)), some (.ro (b1.map .u8)), some (.row 5 (Y.map .u8)), some (.row 5 ((lset_w N i.1).map .u8))]) (fun _ => 6 + 2) (fun i => 8 - i.1) ⟨0, by omega⟩ ?_ ?_
          · have hz := lset_z_w N
            dsimp only
            rw [hz]
            refine Weak.sel [0, 1, 2, 3, 4, 5, 6, 6 + 1] rfl rfl ?_ ?_ rfl rfl
            · (repeat' (first | exact trivial | refine And.intro ?_ ?_ | fail)) <;> first | rfl | fail
            · (repeat' (first | exact trivial | exact ren_z8 | refine And.intro ?_ ?_ | (refine wk_cons ?_ ?_))) <;> first | rfl | exact ren_eq (by first | (simp; done) | fail) (by first | rfl | fail) | fail
          · rintro ⟨i, hi⟩
            dsimp only
            have hll := lset_len_w N i
            by_cases hi8 : i < 8
            · have hlt : decide ((i : Int) < 8) = true := by simp; omega
              have hp := wp1i i (by omega)
              have h8 : w64 (8 * (i : Int)) = ((8 * i : Nat) : Int) := by simp only [w64_eq]; omega
              have h7 : w64 (w64 (16 - 1) - (i : Int)) = ((15 - i : Nat) : Int) := by simp only [w64_eq]; omega
              have hs := lset_s_w N i
              conv => whnf
              first | refine brT (by exact hlt) ?_ | fail
              conv => whnf
              repeat (fail)
              refine ⟨_, mshr_64 h8, ?_⟩
              conv => whnf
              repeat (first | (refine Exists.intro _ (And.intro (sput_m8 (i := 15 - i) (by first | rfl | omega | fail)) ?_); conv => whnf) | (refine Exists.intro _ (And.intro (idx_i (m := 15 - i) (by first | rfl | omega | fail)) ?_); conv => whnf) | (refine And.intro (by first | omega | (simp; omega) | fail) ?_; conv => whnf) | fail)
              refine ⟨⟨i + 1, by omega⟩, by simp only; omega, ?_⟩
              dsimp only
              rw [hs]
              refine Weak.sel [0, 1, 2, 3, 4, 5, 6, 6 + 1] rfl rfl ?_ ?_ rfl rfl
              · (repeat' (first | exact trivial | refine And.intro ?_ ?_ | fail)) <;> first | exact wk_i (by first | exact hp | exact hp.symm | fail) | rfl | fail
              · (repeat' (first | exact trivial | refine And.intro ?_ ?_ | (refine wk_cons ?_ ?_))) <;> first | rfl | exact ren_eq (by first | (simp; done) | fail) (by first | rfl | fail) | exact ren_m8 (by first | rfl | fail) | fail
            · obtain rfl : i = 8 := by omega
              have hap3 : (Y ++ lset_w N 8).map SV.u8 = List.take ((n + 1 + pz_w n) * 1) (List.drop 0 (Y.map SV.u8)) ++ List.take (16 * 1) (List.drop 0 ((lset_w N 8).map SV.u8)) := (cat8w (o := 0) (n := n + 1 + pz_w n) (E := Y) (b := lset_w N 8) (by omega) hll.symm).symm
              obtain ⟨D, hD⟩ : ∃ D, D = Y ++ lset_w N 8 := ⟨_, rfl⟩
              have hDl : D.length = n + 1 + pz_w n + 16 := by rw [hD, List.length_append, hYl, hll]
              have hDe : D = last_w (tx 2) := by rw [hD, hY, hpz, hN]; exact last_e_w _
              have hD64 := last_len_w (tx 2)
              have hfin := last_st_w k h (tx 2)
              rw [← hDe] at hD64 hfin
              rw [← hS] at hfin
              rw [← hD] at hap3
              conv => whnf
              first | refine brF (by rfl) ?_ | fail
              conv => whnf
              repeat (first | (refine And.intro (by first | omega | (simp [ti5]; omega)) ?_; conv => whnf) | fail)
              refine loop_rule ttOk mixed (by kernel_rfl) (ι := { j : Nat // 128 * j ≤ D.length }) (fun j => [(0, .p 0 0), (5, .i 128), (6, .sl 6 (128 * j.1) (D.length - 128 * j.1) 1 false)]) (fun j => [some (.ro (mach_w 1 2)), some (.row 25 ((blks_w k S D j.1).map .u64)), some (.ro (k.map .u64)), some (.ro [.sl 4 0 b0.length 1 f0, .sl 5 0 b1.length 1 f1]), some (.ro (b0.map .u8)), some (.ro (b1.map .u8)), some (.row 5 (D.map .u8))]) (fun _ => 6 + 1) (fun j => D.length - 128 * j.1) ⟨0, by omega⟩ ?_ ?_
              · have hz := blks_z_w k S D
                have hDn : n + 1 + pz_w n + 16 = D.length - 128 * 0 := by omega
                dsimp only
                rw [hz]
                refine Weak.sel [0, 1, 2, 3, 4, 5, 6 + 2] rfl rfl ?_ ?_ rfl rfl
                · (repeat' (first | exact trivial | refine And.intro ?_ ?_ | fail)) <;> first | rfl | exact wk_sl rfl (by first | rfl | fail) (by first | exact hDn.symm | fail) | fail
                · (repeat' (first | exact trivial | exact ren_eq (plainL_u8 _) hap3 | refine And.intro ?_ ?_ | (refine wk_cons ?_ ?_))) <;> first | rfl | exact ren_eq (by first | (simp; done) | fail) (by first | rfl | fail) | fail
              · rintro ⟨j, hj⟩
                dsimp only
                have hbl := blks_len_w k hsl D j
                by_cases hc : 128 * (j + 1) ≤ D.length
                · have hge : decide (((D.length - 128 * j : Nat) : Int) > 0) = true := by simp; omega
                  have hs := blks_s_w k S D j
                  have q140 := f140D (blks_w k S D j) k D (128 * j) hbl hk (by omega) false
                  rw [← hs] at q140
                  conv => whnf
                  first | refine brT (by exact hge) ?_ | fail
                  conv => whnf
                  repeat (first | (refine Exists.intro _ (And.intro rfl ?_); conv => whnf) | (refine And.intro (by first | omega | fail) ?_; conv => whnf) | fail)
                  refine ok1_callF [0, 1, 2, 6] [false, true, false, false] true (q140) rfl rfl ⟨⟨rfl, by first | rfl | fail⟩, by (repeat' (first | exact trivial | refine And.intro ?_ ?_)) <;> first | rfl | exact ren_eq (by first | (simp; done) | fail) (by first | rfl | fail) | fail, by first | simp [plainHf, plainB], by first | rfl | fail, ?_⟩
                  conv => whnf
                  repeat (first | (refine Exists.intro _ (And.intro rfl ?_); conv => whnf) | (refine And.intro (by first | omega | fail) ?_; conv => whnf) | fail)
                  refine ⟨⟨j + 1, hc⟩, by simp only; omega, ?_⟩
                  dsimp only
                  refine Weak.sel [0, 1, 2, 3, 4, 5, 6] rfl rfl ?_ ?_ rfl rfl
                  · (repeat' (first | exact trivial | refine And.intro ?_ ?_ | fail)) <;> first | rfl | fail
                  · (repeat' (first | exact trivial | refine And.intro ?_ ?_ | (refine wk_cons ?_ ?_))) <;> first | rfl | exact ren_eq (by first | (simp; done) | fail) (by first | rfl | fail) | fail
                · obtain rfl : j = D.length / 128 := by omega
                  have hge : decide (((D.length - 128 * (D.length / 128) : Nat) : Int) > 0) = false := by simp; omega
                  obtain ⟨H, hH⟩ : ∃ H, H = blks_w k S D (D.length / 128) := ⟨_, rfl⟩
                  rw [← hH] at hbl hfin ⊢
                  conv => whnf
                  first | refine brF (by exact hge) ?_ | fail
                  conv => whnf
                  repeat (first | (refine Exists.intro _ (And.intro rfl ?_); conv => whnf) | fail)
                  refine SWp.weak (Weak.virt 12 5 1 rfl) ?_
                  refine loop_rule ttOk mixed (by kernel_rfl) (ι := { i : Nat // i ≤ 8 }) (fun i => [(0, .p 0 0), (12, .sl 6 0 (8 * i.1) 1 false), (110, .sl 1 0 8 1 true), (111, .i 8), (112, .i (i.1 : Int))]) (fun i => [some (.ro (mach_w 1 2)), some (.row 25 (H.map .u64)), some (.ro (k.map .u64)), some (.ro [.sl 4 0 b0.length 1 f0, .sl 5 0 b1.length 1 f1]), some (.ro (b0.map .u8)), some (.ro (b1.map .u8)), some (.row 5 ((outl_w H (8 * i.1)).map .u8))]) (fun _ => 6 + 1) (fun i => 8 - i.1) ⟨0, by omega⟩ ?_ ?_
                  · have hz := outl_z_w H
                    dsimp only
                    rw [hz]
                    refine Weak.sel [0, 1, 2, 3, 4, 5, 6 + 1] rfl rfl ?_ ?_ rfl rfl
                    · (repeat' (first | exact trivial | refine And.intro ?_ ?_ | fail)) <;> first | rfl | fail
                    · (repeat' (first | exact trivial | refine And.intro ?_ ?_ | (refine wk_cons ?_ ?_))) <;> first | rfl | exact ren_eq (by first | (simp; done) | fail) (by first | rfl | fail) | fail
                  · rintro ⟨i, hi⟩
                    dsimp only
                    by_cases hi8 : i < 8
                    · have hlt : decide ((i : Int) < 8) = true := by simp; omega
                      have hp := wp1i i (by omega)
                      conv => whnf
                      first | refine brT (by exact hlt) ?_ | fail
                      conv => whnf
                      repeat (first | (refine Exists.intro _ (And.intro (sload_u64 (i := i) (by first | rfl | omega | fail) (by first | omega | fail)) ?_); conv => whnf) | (refine Exists.intro _ (And.intro (idx_i (m := i) (by first | rfl | fail)) ?_); conv => whnf) | (refine Exists.intro _ (And.intro rfl ?_); conv => whnf) | (refine And.intro (by first | omega | fail) ?_; conv => whnf) | fail)
                      refine loop_rule ttOk mixed (by kernel_rfl) (ι := { m : Nat // m ≤ 8 }) (fun m => [(0, .p 0 0), (12, .sl 6 0 (8 * i + m.1) 1 false), (14, .u64 (H.getD i 0)), (15, .i (7 - (m.1 : Int))), (110, .sl 1 0 8 1 true), (111, .i 8), (112, .i (i : Int))]) (fun m => [some (.ro (mach_w 1 2)), some (.row 25 (H.map .u64)), some (.ro (k.map .u64)), some (.ro [.sl 4 0 b0.length 1 f0, .sl 5 0 b1.length 1 f1]), some (.ro (b0.map .u8)), some (.ro (b1.map .u8)), some (.row 5 ((outl_w H (8 * i + m.1)).map .u8))]) (fun _ => 6 + 1) (fun m => 8 - m.1) ⟨0, by omega⟩ ?_ ?_
                      · refine Weak.sel [0, 1, 2, 3, 4, 5, 6] rfl rfl ?_ ?_ rfl rfl
                        · (repeat' (first | exact trivial | refine And.intro ?_ ?_ | fail)) <;> first | rfl | fail
                        · (repeat' (first | exact trivial | refine And.intro ?_ ?_ | (refine wk_cons ?_ ?_))) <;> first | rfl | exact ren_eq (by first | (simp; done) | fail) (by first | rfl | fail) | fail
                      · rintro ⟨m, hm⟩
                        dsimp only
                        have hol := outl_len_w H (8 * i + m)
                        by_cases hm8 : m < 8
                        · have hge : decide ((7 - (m : Int)) ≥ 0) = true := by simp; omega
                          have h8 : w64 (8 * (7 - (m : Int))) = ((8 * (7 - m) : Nat) : Int) := by simp only [w64_eq]; omega
                          have hp2 : w64 (7 - (m : Int) - 1) = 7 - ((m + 1 : Nat) : Int) := by simp only [w64_eq]; omega
                          have hs := outl_s_w H i m hm8
                          obtain ⟨Z, hZ⟩ : ∃ Z, Z = outl_w H (8 * i + m) := ⟨_, rfl⟩
                          rw [← hZ] at hol hs ⊢
                          have hap4 : (Z ++ [(shr64 (H.getD i 0) (8 * (7 - m))).toUInt8]).map SV.u8 = List.take ((8 * i + m) * 1) (List.drop 0 (Z.map SV.u8)) ++ List.take (1 * 1) (List.drop 0 [SV.u8 (shr64 (H.getD i 0) (8 * (7 - m))).toUInt8]) := (cat8w (o := 0) (n := 8 * i + m) (E := Z) (b := [(shr64 (H.getD i 0) (8 * (7 - m))).toUInt8]) (by omega) rfl).symm
                          conv => whnf
                          first | refine brT (by exact hge) ?_ | fail
                          conv => whnf
                          repeat (fail)
                          refine ⟨_, mshr_64 h8, ?_⟩
                          conv => whnf
                          repeat (first | (refine Exists.intro _ (And.intro rfl ?_); conv => whnf) | (refine And.intro (by first | omega | (simp [ti5]; omega)) ?_; conv => whnf) | fail)
                          refine ⟨⟨m + 1, by omega⟩, by simp only; omega, ?_⟩
                          dsimp only
                          rw [hs]
                          refine Weak.sel [0, 1, 2, 3, 4, 5, 6 + 2] rfl rfl ?_ ?_ rfl rfl
                          · (repeat' (first | exact trivial | refine And.intro ?_ ?_ | fail)) <;> first | exact wk_i (by first | exact hp2 | exact hp2.symm | fail) | rfl | fail
                          · (repeat' (first | exact trivial | exact ren_eq (plainL_u8 _) hap4 | refine And.intro ?_ ?_ | (refine wk_cons ?_ ?_))) <;> first | rfl | exact ren_eq (by first | (simp; done) | fail) (by first | rfl | fail) | fail
                        · obtain rfl : m = 8 := by omega
                          conv => whnf
                          first | refine brF (by rfl) ?_ | fail
                          conv => whnf
                          repeat (fail)
                          refine ⟨⟨i + 1, by omega⟩, by simp only; omega, ?_⟩
                          dsimp only
                          rw [show 8 * (i + 1) = 8 * i + 8 by omega]
                          refine Weak.sel [0, 1, 2, 3, 4, 5, 6] rfl rfl ?_ ?_ rfl rfl
                          · (repeat' (first | exact trivial | refine And.intro ?_ ?_ | fail)) <;> first | exact wk_i (by first | exact hp | exact hp.symm | fail) | rfl | fail
                          · (repeat' (first | exact trivial | refine And.intro ?_ ?_ | (refine wk_cons ?_ ?_))) <;> first | rfl | exact ren_eq (by first | (simp; done) | fail) (by first | rfl | fail) | fail
                    · obtain rfl : i = 8 := by omega
                      rw [outb_e_w] at hfin
                      rw [← hfin]
                      conv => whnf
                      first | refine brF (by rfl) ?_ | fail
                      conv => whnf
                      refine ⟨[0, 1, 2, 3, 4, 5, 6], ?_, rfl, rfl, ?_, rfl⟩
                      · (repeat' (fail)) <;> first | rfl | fail
                      · (repeat' (first | exact trivial | refine And.intro ?_ ?_ | (refine wk_cons ?_ ?_))) <;> first | rfl | exact ren_eq (by first | (simp; done) | fail) (by first | rfl | fail) | fail
end Go.Sh
