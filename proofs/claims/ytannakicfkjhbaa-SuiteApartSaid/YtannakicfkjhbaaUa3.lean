/- Merged for a claim: M5wb, M5wo, M5wd, M8, M9, M10, M12. -/
import Derived.Test.YtannakicfkjhbaaUa2
set_option linter.unusedSimpArgs false
set_option linter.unusedVariables false
namespace Go.Sh
open Go.Proofs
set_option maxHeartbeats 4000000
attribute [local irreducible] comp_w
attribute [local irreducible] blks_w st_w rest_w hash_w pz_w outl_w outb_w lset_w last_w
theorem f104_bb (h k : List UInt64) (hh : h.length = 8) (hk : k.length = 80) (b0 b1 : List UInt8) (hb0 : b0.length < 100000000000000) (hb1 : b1.length < 100000000000000) (f0 f1 fl : Bool) : SCall Try.prog 104 [.p 0 0, .sl 3 0 2 1 fl] [some (.ro (mach_w 1 2)), some (.row 25 (h.map .u64)), some (.ro (k.map .u64)), some (.ro [.sl 4 0 b0.length 1 f0, .sl 5 0 b1.length 1 f1]), some (.ro (b0.map .u8)), some (.ro (b1.map .u8))] (.sl 6 0 64 1 false) [some (.ro (mach_w 1 2)), none, some (.ro (k.map .u64)), some (.ro [.sl 4 0 b0.length 1 f0, .sl 5 0 b1.length 1 f1]), some (.ro (b0.map .u8)), some (.ro (b1.map .u8)), some (.row 5 ((hash_w k h (b0 ++ b1)).map .u8))] := by
 obtain ⟨tx, htx⟩ : ∃ tx : Nat → List UInt8, tx = fun i => ([b0, b1].take i).flatten := ⟨_, rfl⟩
 have tx0 : tx 0 = [] := by rw [htx]; rfl
 have tx1 : tx 1 = tx 0 ++ b0 := by rw [htx]; simp
 have tx2 : tx 2 = tx 1 ++ b1 := by rw [htx]; simp
 have htp : tx 2 = b0 ++ b1 := by rw [htx]; simp
 have he : hash_w k h (b0 ++ b1) = hash_w k h (tx 2) := by rw [htp]
 rw [he]
 have hl0 : (tx 0).length = 0 := by rw [tx0]; rfl
 have hl1 : (tx 1).length = (tx 0).length + b0.length := by rw [tx1, List.length_append]
 have hl2 : (tx 2).length = (tx 1).length + b1.length := by rw [tx2, List.length_append]
 clear htx
 refine scall_of ttOk (by kernel_rfl : Try.prog.funcs[104]? = some Try.f104) rfl rfl rfl ?_
 try simp only [List.length_cons, List.length_nil, Nat.zero_add, Nat.reduceAdd]
 refine sw_ok ttOk mixed (by kernel_rfl) ?_
 conv => whnf
 repeat (first | (refine Exists.intro _ (And.intro rfl ?_); conv => whnf) | fail)
 refine SWp.weak (Weak.virt 6 5 1 rfl) ?_
 refine loop_rule ttOk mixed (by kernel_rfl) (ι := { x : Nat × List UInt8 × Nat // x.1 ≤ 2 ∧ x.2.2 ≤ x.2.1.length ∧ x.2.1.drop x.2.2 = rest_w (tx x.1) }) (fun x => [(0, .p 0 0), (5, .i 128), (6, .sl 6 x.1.2.2 (x.1.2.1.length - x.1.2.2) 1 false), (7, .u64 (UInt64.ofNat (tx x.1.1).length)), (21, .sl 3 0 2 1 fl), (22, .i 2), (23, .i (x.1.1 : Int))]) (fun x => [some (.ro (mach_w 1 2)), some (.row 25 ((st_w k h (tx x.1.1)).map .u64)), some (.ro (k.map .u64)), some (.ro [.sl 4 0 b0.length 1 f0, .sl 5 0 b1.length 1 f1]), some (.ro (b0.map .u8)), some (.ro (b1.map .u8)), some (.row 5 (x.1.2.1.map .u8))]) (fun _ => 7) (fun x => 2 - x.1.1) ⟨(0, [], 0), by omega, by simp, by rw [tx0]; exact rest_nil_w.symm⟩ ?_ ?_
 ·
  dsimp only
  rw [tx0, st_nil_w]
  refine Weak.sel [0, 1, 2, 3, 4, 5, 6] rfl rfl ?_ ?_ rfl rfl
  ·
   (repeat' (first | exact trivial | refine And.intro ?_ ?_ | fail)) <;> first | rfl | fail
  ·
   (repeat' (first | exact trivial | refine And.intro ?_ ?_ | (refine wk_cons ?_ ?_))) <;> first | rfl | exact ren_eq (by first | (simp; done) | fail) (by first | rfl | fail) | fail
 ·
  rintro ⟨⟨i, E, o⟩, hi, ho, hE⟩
  dsimp only at hi ho hE ⊢
  have hsl := st_len_w k hh (tx i)
  have hrl := rest_len_w (tx i)
  obtain ⟨S, hS⟩ : ∃ S, S = st_w k h (tx i) := ⟨_, rfl⟩
  rw [← hS] at hsl ⊢
  have hEl : E.length - o = (rest_w (tx i)).length := by rw [← hE, List.length_drop]
  by_cases hi2 : i < 2
  ·
   have hic : i = 0 ∨ i = 1 := by omega
   rcases hic with rfl | rfl
   ·
    have hq := feed_st_w k h (tx 0) b0
    have hq2 := feed_rest_w (tx 0) b0
    rw [← hS] at hq
    rw [← tx1] at hq hq2
    rw [← hE] at hq hq2 hEl
    have hap : (E.drop o ++ b0).map SV.u8 = List.take ((E.length - o) * 1) (List.drop o (E.map SV.u8)) ++ List.take (b0.length * 1) (List.drop 0 (b0.map SV.u8)) := (cat8w rfl rfl).symm
    have hDl : (E.drop o ++ b0).length = E.length - o + b0.length := by rw [List.length_append, List.length_drop]
    have hel : E.length - o < 128 := by rw [← List.length_drop, hE, hrl]; omega
    have hul : UInt64.ofNat (tx 0).length + u64i (b0.length : Int) = UInt64.ofNat (tx 1).length := by rw [u64_add_i _ _ (by omega), tx1, List.length_append]
    clear hS hrl
    conv => whnf
    first | refine brT (by rfl) ?_ | fail
    conv => whnf
    repeat (first | (refine Exists.intro _ (And.intro rfl ?_); conv => whnf) | (refine And.intro (by first | omega | (simp [ti5]; omega)) ?_; conv => whnf) | fail)
    obtain ⟨D, hD⟩ : ∃ D, D = E.drop o ++ b0 := ⟨_, rfl⟩
    rw [← hD] at hq hq2 hap hDl
    refine loop_rule ttOk mixed (by kernel_rfl) (ι := { j : Nat // 128 * j ≤ D.length }) (fun j => [(0, .p 0 0), (5, .i 128), (6, .sl 6 (128 * j.1) (D.length - 128 * j.1) 1 false), (7, .u64 (UInt64.ofNat (tx 1).length)), (21, .sl 3 0 2 1 fl), (22, .i 2), (23, .i 0)]) (fun j => [some (.ro (mach_w 1 2)), some (.row 25 ((blks_w k S D j.1).map .u64)), some (.ro (k.map .u64)), some (.ro [.sl 4 0 b0.length 1 f0, .sl 5 0 b1.length 1 f1]), some (.ro (b0.map .u8)), some (.ro (b1.map .u8)), some (.row 5 (D.map .u8))]) (fun _ => 6 + 1) (fun j => D.length - 128 * j.1) ⟨0, by omega⟩ ?_ ?_
    ·
     have hz := blks_z_w k S D
     have hDn : E.length - o + b0.length = D.length - 128 * 0 := by omega
     dsimp only
     rw [hz]
     refine Weak.sel [0, 1, 2, 3, 4, 5, 7] rfl rfl ?_ ?_ rfl rfl
     ·
      (repeat' (first | exact trivial | refine And.intro ?_ ?_ | fail)) <;> first | exact wk_u64 (by first | exact hul | exact hul.symm | fail) | rfl | exact wk_sl rfl (by first | rfl | fail) (by first | exact hDn.symm | fail) | fail
     ·
      (repeat' (first | exact trivial | exact ren_eq (plainL_u8 _) hap | refine And.intro ?_ ?_ | (refine wk_cons ?_ ?_))) <;> first | rfl | exact ren_eq (by first | (simp; done) | fail) (by first | rfl | fail) | fail
    ·
     rintro ⟨j, hj⟩
     dsimp only
     have hbl := blks_len_w k hsl D j
     by_cases hc : 128 * (j + 1) ≤ D.length
     ·
      have hge : decide (((D.length - 128 * j : Nat) : Int) ≥ 128) = true := by simp; omega
      have hs := blks_s_w k S D j
      have q140 := f140D (blks_w k S D j) k D (128 * j) hbl hk (by omega) false
      rw [← hs] at q140
      conv => whnf
      first | refine brT (by exact hge) ?_ | fail
      conv => whnf
      repeat (first | (refine Exists.intro _ (And.intro rfl ?_); conv => whnf) | (refine And.intro (by first | omega | fail) ?_; conv => whnf) | fail)
      refine ok1_callF [0, 1, 2, 6] [false, true, false, false] true (q140) rfl rfl ⟨⟨rfl, by first | rfl | fail⟩, by (repeat' (first | exact trivial | refine And.intro ?_ ?_)) <;> first | rfl | exact ren_eq (by first | (simp; done) | fail) (by first | rfl | fail) | fail, by first | simp [plainHf, plainB], by first | rfl | fail, ?_⟩
      conv => whnf
      repeat (first | (refine Exists.intro _ (And.intro rfl ?_); conv => whnf) | (refine And.intro (by first | omega | fail) ?_; conv => whnf) | fail)
      refine ⟨⟨j + 1, hc⟩, by simp only; omega, ?_⟩
      dsimp only
      refine Weak.sel [0, 1, 2, 3, 4, 5, 6] rfl rfl ?_ ?_ rfl rfl
      ·
       (repeat' (first | exact trivial | refine And.intro ?_ ?_ | fail)) <;> first | rfl | fail
      ·
       (repeat' (first | exact trivial | refine And.intro ?_ ?_ | (refine wk_cons ?_ ?_))) <;> first | rfl | exact ren_eq (by first | (simp; done) | fail) (by first | rfl | fail) | fail
     ·
      obtain rfl : j = D.length / 128 := by omega
      have hge : decide (((D.length - 128 * (D.length / 128) : Nat) : Int) ≥ 128) = false := by simp; omega
      rw [hq]
      conv => whnf
      first | refine brF (by exact hge) ?_ | fail
      conv => whnf
      repeat (fail)
      refine ⟨⟨(1, D, 128 * (D.length / 128)), by omega, by simp only; omega, hq2⟩, by simp only; omega, ?_⟩
      dsimp only
      refine Weak.sel [0, 1, 2, 3, 4, 5, 6] rfl rfl ?_ ?_ rfl rfl
      ·
       (repeat' (first | exact trivial | refine And.intro ?_ ?_ | fail)) <;> first | rfl | fail
      ·
       (repeat' (first | exact trivial | refine And.intro ?_ ?_ | (refine wk_cons ?_ ?_))) <;> first | rfl | exact ren_eq (by first | (simp; done) | fail) (by first | rfl | fail) | fail
   ·
    have hq := feed_st_w k h (tx 1) b1
    have hq2 := feed_rest_w (tx 1) b1
    rw [← hS] at hq
    rw [← tx2] at hq hq2
    rw [← hE] at hq hq2 hEl
    have hap : (E.drop o ++ b1).map SV.u8 = List.take ((E.length - o) * 1) (List.drop o (E.map SV.u8)) ++ List.take (b1.length * 1) (List.drop 0 (b1.map SV.u8)) := (cat8w rfl rfl).symm
    have hDl : (E.drop o ++ b1).length = E.length - o + b1.length := by rw [List.length_append, List.length_drop]
    have hel : E.length - o < 128 := by rw [← List.length_drop, hE, hrl]; omega
    have hul : UInt64.ofNat (tx 1).length + u64i (b1.length : Int) = UInt64.ofNat (tx 2).length := by rw [u64_add_i _ _ (by omega), tx2, List.length_append]
    clear hS hrl
    conv => whnf
    first | refine brT (by rfl) ?_ | fail
    conv => whnf
    repeat (first | (refine Exists.intro _ (And.intro rfl ?_); conv => whnf) | (refine And.intro (by first | omega | (simp [ti5]; omega)) ?_; conv => whnf) | fail)
    obtain ⟨D, hD⟩ : ∃ D, D = E.drop o ++ b1 := ⟨_, rfl⟩
    rw [← hD] at hq hq2 hap hDl
    refine loop_rule ttOk mixed (by kernel_rfl) (ι := { j : Nat // 128 * j ≤ D.length }) (fun j => [(0, .p 0 0), (5, .i 128), (6, .sl 6 (128 * j.1) (D.length - 128 * j.1) 1 false), (7, .u64 (UInt64.ofNat (tx 2).length)), (21, .sl 3 0 2 1 fl), (22, .i 2), (23, .i 1)]) (fun j => [some (.ro (mach_w 1 2)), some (.row 25 ((blks_w k S D j.1).map .u64)), some (.ro (k.map .u64)), some (.ro [.sl 4 0 b0.length 1 f0, .sl 5 0 b1.length 1 f1]), some (.ro (b0.map .u8)), some (.ro (b1.map .u8)), some (.row 5 (D.map .u8))]) (fun _ => 6 + 1) (fun j => D.length - 128 * j.1) ⟨0, by omega⟩ ?_ ?_
    ·
     have hz := blks_z_w k S D
     have hDn : E.length - o + b1.length = D.length - 128 * 0 := by omega
     dsimp only
     rw [hz]
     refine Weak.sel [0, 1, 2, 3, 4, 5, 7] rfl rfl ?_ ?_ rfl rfl
     ·
      (repeat' (first | exact trivial | refine And.intro ?_ ?_ | fail)) <;> first | exact wk_u64 (by first | exact hul | exact hul.symm | fail) | rfl | exact wk_sl rfl (by first | rfl | fail) (by first | exact hDn.symm | fail) | fail
     ·
      (repeat' (first | exact trivial | exact ren_eq (plainL_u8 _) hap | refine And.intro ?_ ?_ | (refine wk_cons ?_ ?_))) <;> first | rfl | exact ren_eq (by first | (simp; done) | fail) (by first | rfl | fail) | fail
    ·
     rintro ⟨j, hj⟩
     dsimp only
     have hbl := blks_len_w k hsl D j
     by_cases hc : 128 * (j + 1) ≤ D.length
     ·
      have hge : decide (((D.length - 128 * j : Nat) : Int) ≥ 128) = true := by simp; omega
      have hs := blks_s_w k S D j
      have q140 := f140D (blks_w k S D j) k D (128 * j) hbl hk (by omega) false
      rw [← hs] at q140
      conv => whnf
      first | refine brT (by exact hge) ?_ | fail
      conv => whnf
      repeat (first | (refine Exists.intro _ (And.intro rfl ?_); conv => whnf) | (refine And.intro (by first | omega | fail) ?_; conv => whnf) | fail)
      refine ok1_callF [0, 1, 2, 6] [false, true, false, false] true (q140) rfl rfl ⟨⟨rfl, by first | rfl | fail⟩, by (repeat' (first | exact trivial | refine And.intro ?_ ?_)) <;> first | rfl | exact ren_eq (by first | (simp; done) | fail) (by first | rfl | fail) | fail, by first | simp [plainHf, plainB], by first | rfl | fail, ?_⟩
      conv => whnf
      repeat (first | (refine Exists.intro _ (And.intro rfl ?_); conv => whnf) | (refine And.intro (by first | omega | fail) ?_; conv => whnf) | fail)
      refine ⟨⟨j + 1, hc⟩, by simp only; omega, ?_⟩
      dsimp only
      refine Weak.sel [0, 1, 2, 3, 4, 5, 6] rfl rfl ?_ ?_ rfl rfl
      ·
       (repeat' (first | exact trivial | refine And.intro ?_ ?_ | fail)) <;> first | rfl | fail
      ·
       (repeat' (first | exact trivial | refine And.intro ?_ ?_ | (refine wk_cons ?_ ?_))) <;> first | rfl | exact ren_eq (by first | (simp; done) | fail) (by first | rfl | fail) | fail
     ·
      obtain rfl : j = D.length / 128 := by omega
      have hge : decide (((D.length - 128 * (D.length / 128) : Nat) : Int) ≥ 128) = false := by simp; omega
      rw [hq]
      conv => whnf
      first | refine brF (by exact hge) ?_ | fail
      conv => whnf
      repeat (fail)
      refine ⟨⟨(2, D, 128 * (D.length / 128)), by omega, by simp only; omega, hq2⟩, by simp only; omega, ?_⟩
      dsimp only
      refine Weak.sel [0, 1, 2, 3, 4, 5, 6] rfl rfl ?_ ?_ rfl rfl
      ·
       (repeat' (first | exact trivial | refine And.intro ?_ ?_ | fail)) <;> first | rfl | fail
      ·
       (repeat' (first | exact trivial | refine And.intro ?_ ?_ | (refine wk_cons ?_ ?_))) <;> first | rfl | exact ren_eq (by first | (simp; done) | fail) (by first | rfl | fail) | fail
  ·
   obtain rfl : i = 2 := by omega
   obtain ⟨n, hn⟩ : ∃ n, n = E.length - o := ⟨_, rfl⟩
   have hnE : o + n = E.length := by omega
   rw [← hn]
   have hcat : (rest_w (tx 2) ++ [128]).map SV.u8 = List.take (n * 1) (List.drop o (E.map SV.u8)) ++ List.take (1 * 1) (List.drop 0 [SV.u8 128]) := by rw [← hE]; exact (cat8w (b := [128]) hn rfl).symm
   have hdd : decide (((n : Nat) : Int).toNat = ((n : Nat) : Int).toNat) = true := by simp
   conv => whnf
   first | refine brF (by rfl) ?_ | fail
   conv => whnf
   repeat (first | (refine Exists.intro _ (And.intro rfl ?_); conv => whnf) | (refine And.intro (by first | omega | fail) ?_; conv => whnf) | fail)
   rw [hdd]
   rw [Int.toNat_natCast]
   have hnl : n = (rest_w (tx 2)).length := by rw [hn, ← hE, List.length_drop]
   have hn64 : n < 128 := by rw [hnl, hrl]; omega
   have hpz := pz_rest_w (tx 2)
   rw [← hnl] at hpz
   have hpl : pz_w n < 128 := by unfold pz_w; exact Nat.mod_lt _ (by decide)
   conv => whnf
   refine And.intro ⟨by show _ ≤ (E.map SV.u8).length; rw [List.length_map]; omega, by decide, by show _ * 1 ≤ _; omega, by decide⟩ ?_
   conv => whnf
   repeat (fail)
   refine loop_rule ttOk mixed (by kernel_rfl) (ι := { j : Nat // j ≤ pz_w n }) (fun j => [(0, .p 0 0), (5, .i 128), (6, .sl 6 0 (n + 1 + j.1) 1 false), (7, .u64 (UInt64.ofNat (tx 2).length))]) (fun j => [some (.ro (mach_w 1 2)), some (.row 25 (S.map .u64)), some (.ro (k.map .u64)), some (.ro [.sl 4 0 b0.length 1 f0, .sl 5 0 b1.length 1 f1]), some (.ro (b0.map .u8)), some (.ro (b1.map .u8)), some (.row 5 ((rest_w (tx 2) ++ [128] ++ List.replicate j.1 0).map .u8))]) (fun _ => 6 + 1) (fun j => pz_w n - j.1) ⟨0, by omega⟩ ?_ ?_
   ·
    have hz : rest_w (tx 2) ++ [128] ++ List.replicate 0 0 = rest_w (tx 2) ++ [128] := List.append_nil _
    dsimp only
    rw [hz]
    refine Weak.sel [0, 1, 2, 3, 4, 5, 6 + 2] rfl rfl ?_ ?_ rfl rfl
    ·
     (repeat' (first | exact trivial | refine And.intro ?_ ?_ | fail)) <;> first | rfl | fail
    ·
     (repeat' (first | exact trivial | exact ren_eq (plainL_u8 _) hcat | refine And.intro ?_ ?_ | (refine wk_cons ?_ ?_))) <;> first | rfl | exact ren_eq (by first | (simp; done) | fail) (by first | rfl | fail) | fail
   ·
    rintro ⟨j, hj⟩
    dsimp only
    obtain ⟨Y, hY⟩ : ∃ Y, Y = rest_w (tx 2) ++ [128] ++ List.replicate j 0 := ⟨_, rfl⟩
    have hYl : Y.length = n + 1 + j := by rw [hY, List.length_append, List.length_append, ← hnl, List.length_replicate]; rfl
    have hYs : rest_w (tx 2) ++ [128] ++ List.replicate (j + 1) 0 = Y ++ [0] := by rw [hY, List.replicate_succ', List.append_assoc]; simp
    by_cases hj2 : j < pz_w n
    ·
     have hno := padz_no_w hj2
     have hcd : (((w64 (((n + 1 + j : Nat) : Int) + w64 (2 * 8))).tmod 128) != 0) = true := by
      have e : w64 (((n + 1 + j : Nat) : Int) + w64 (2 * 8)) = ((n + 1 + j + 16 : Nat) : Int) := by simp only [w64_eq]; omega
      rw [e, show (((n + 1 + j + 16 : Nat) : Int)).tmod 128 = (((n + 1 + j + 16) % 128 : Nat) : Int) from rfl]
      simp; omega
     rw [← hY]
     conv => whnf
     repeat (first | (refine Exists.intro _ (And.intro rfl ?_); conv => whnf) | fail)
     first | refine brT (by exact hcd) ?_ | fail
     conv => whnf
     repeat (first | (refine Exists.intro _ (And.intro rfl ?_); conv => whnf) | (refine And.intro (by first | omega | (simp [ti5]; omega)) ?_; conv => whnf) | fail)
     have hap2 : (Y ++ [0]).map SV.u8 = List.take ((n + 1 + j) * 1) (List.drop 0 (Y.map SV.u8)) ++ List.take (1 * 1) (List.drop 0 [SV.u8 0]) := (cat8w (o := 0) (n := n + 1 + j) (E := Y) (b := [0]) (by omega) rfl).symm
     refine ⟨⟨j + 1, by omega⟩, by simp only; omega, ?_⟩
     dsimp only
     rw [hYs]
     refine Weak.sel [0, 1, 2, 3, 4, 5, 6 + 2] rfl rfl ?_ ?_ rfl rfl
     ·
      (repeat' (first | exact trivial | refine And.intro ?_ ?_ | fail)) <;> first | rfl | fail
     ·
      (repeat' (first | exact trivial | exact ren_eq (plainL_u8 _) hap2 | refine And.intro ?_ ?_ | (refine wk_cons ?_ ?_))) <;> first | rfl | exact ren_eq (by first | (simp; done) | fail) (by first | rfl | fail) | fail
    ·
     obtain rfl : j = pz_w n := by omega
     have hyes := padz_yes_w n
     have hcd : (((w64 (((n + 1 + pz_w n : Nat) : Int) + w64 (2 * 8))).tmod 128) != 0) = false := by
      have e : w64 (((n + 1 + pz_w n : Nat) : Int) + w64 (2 * 8)) = ((n + 1 + pz_w n + 16 : Nat) : Int) := by simp only [w64_eq]; omega
      rw [e, show (((n + 1 + pz_w n + 16 : Nat) : Int)).tmod 128 = (((n + 1 + pz_w n + 16) % 128 : Nat) : Int) from rfl, hyes]
      rfl
     rw [← hY]
     conv => whnf
     repeat (first | (refine Exists.intro _ (And.intro rfl ?_); conv => whnf) | fail)
     first | refine brF (by exact hcd) ?_ | fail
     conv => whnf
     repeat (first | (refine Exists.intro _ (And.intro rfl ?_); conv => whnf) | (refine And.intro ⟨by first | decide | fail, by first | decide | fail⟩ ?_; conv => whnf) | fail)
     obtain ⟨N, hN⟩ : ∃ N, N = (tx 2).length := ⟨_, rfl⟩
     rw [← hN]
     refine loop_rule ttOk mixed (by kernel_rfl) (ι := { i : Nat // i ≤ 8 }) (fun i => [(0, .p 0 0), (5, .i 128), (6, .sl 6 0 (n + 1 + pz_w n) 1 false), (7, .u64 (UInt64.ofNat N)), (10, .sl (6 + 1) 0 16 1 true), (76, .i (i.1 : Int))]) (fun i => [some (.ro (mach_w 1 2)), some (.row 25 (S.map .u64)), some (.ro (k.map .u64)), some (.ro [.sl 4 0 b0.length 1 f0, .sl 5 0 b1.length 1 f1]), some (.ro (b0.map .u8)), some (.ro (b1.map .u8)), some (.row 5 (Y.map .u8)), some (.row 5 ((lset_w N i.1).map .u8))]) (fun _ => 6 + 2) (fun i => 8 - i.1) ⟨0, by omega⟩ ?_ ?_
     ·
      have hz := lset_z_w N
      dsimp only
      rw [hz]
      refine Weak.sel [0, 1, 2, 3, 4, 5, 6, 6 + 1] rfl rfl ?_ ?_ rfl rfl
      ·
       (repeat' (first | exact trivial | refine And.intro ?_ ?_ | fail)) <;> first | rfl | fail
      ·
       (repeat' (first | exact trivial | exact ren_z8 | refine And.intro ?_ ?_ | (refine wk_cons ?_ ?_))) <;> first | rfl | exact ren_eq (by first | (simp; done) | fail) (by first | rfl | fail) | fail
     ·
      rintro ⟨i, hi⟩
      dsimp only
      have hll := lset_len_w N i
      by_cases hi8 : i < 8
      ·
       have hlt : decide ((i : Int) < 8) = true := by simp; omega
       have hp := wp1i i (by omega)
       have h8 : w64 (8 * (i : Int)) = ((8 * i : Nat) : Int) := by simp only [w64_eq]; omega
       have h7 : w64 (w64 (16 - 1) - (i : Int)) = ((15 - i : Nat) : Int) := by simp only [w64_eq]; omega
       have hs := lset_s_w N i
       conv => whnf
       first | refine brT (by exact hlt) ?_ | fail
       conv => whnf
       repeat (fail)
       refine ⟨_, mshr_64 h8, ?_⟩
       conv => whnf
       repeat (first | (refine Exists.intro _ (And.intro (sput_m8 (i := 15 - i) (by first | rfl | omega | fail)) ?_); conv => whnf) | (refine Exists.intro _ (And.intro (idx_i (m := 15 - i) (by first | rfl | omega | fail)) ?_); conv => whnf) | (refine And.intro (by first | omega | (simp; omega) | fail) ?_; conv => whnf) | fail)
       refine ⟨⟨i + 1, by omega⟩, by simp only; omega, ?_⟩
       dsimp only
       rw [hs]
       refine Weak.sel [0, 1, 2, 3, 4, 5, 6, 6 + 1] rfl rfl ?_ ?_ rfl rfl
       ·
        (repeat' (first | exact trivial | refine And.intro ?_ ?_ | fail)) <;> first | exact wk_i (by first | exact hp | exact hp.symm | fail) | rfl | fail
       ·
        (repeat' (first | exact trivial | refine And.intro ?_ ?_ | (refine wk_cons ?_ ?_))) <;> first | rfl | exact ren_eq (by first | (simp; done) | fail) (by first | rfl | fail) | exact ren_m8 (by first | rfl | fail) | fail
      ·
       obtain rfl : i = 8 := by omega
       have hap3 : (Y ++ lset_w N 8).map SV.u8 = List.take ((n + 1 + pz_w n) * 1) (List.drop 0 (Y.map SV.u8)) ++ List.take (16 * 1) (List.drop 0 ((lset_w N 8).map SV.u8)) := (cat8w (o := 0) (n := n + 1 + pz_w n) (E := Y) (b := lset_w N 8) (by omega) hll.symm).symm
       obtain ⟨D, hD⟩ : ∃ D, D = Y ++ lset_w N 8 := ⟨_, rfl⟩
       have hDl : D.length = n + 1 + pz_w n + 16 := by rw [hD, List.length_append, hYl, hll]
       have hDe : D = last_w (tx 2) := by rw [hD, hY, hpz, hN]; exact last_e_w _
       have hD64 := last_len_w (tx 2)
       have hfin := last_st_w k h (tx 2)
       rw [← hDe] at hD64 hfin
       rw [← hS] at hfin
       rw [← hD] at hap3
       conv => whnf
       first | refine brF (by rfl) ?_ | fail
       conv => whnf
       repeat (first | (refine And.intro (by first | omega | (simp [ti5]; omega)) ?_; conv => whnf) | fail)
       refine loop_rule ttOk mixed (by kernel_rfl) (ι := { j : Nat // 128 * j ≤ D.length }) (fun j => [(0, .p 0 0), (5, .i 128), (6, .sl 6 (128 * j.1) (D.length - 128 * j.1) 1 false)]) (fun j => [some (.ro (mach_w 1 2)), some (.row 25 ((blks_w k S D j.1).map .u64)), some (.ro (k.map .u64)), some (.ro [.sl 4 0 b0.length 1 f0, .sl 5 0 b1.length 1 f1]), some (.ro (b0.map .u8)), some (.ro (b1.map .u8)), some (.row 5 (D.map .u8))]) (fun _ => 6 + 1) (fun j => D.length - 128 * j.1) ⟨0, by omega⟩ ?_ ?_
       ·
        have hz := blks_z_w k S D
        have hDn : n + 1 + pz_w n + 16 = D.length - 128 * 0 := by omega
        dsimp only
        rw [hz]
        refine Weak.sel [0, 1, 2, 3, 4, 5, 6 + 2] rfl rfl ?_ ?_ rfl rfl
        ·
         (repeat' (first | exact trivial | refine And.intro ?_ ?_ | fail)) <;> first | rfl | exact wk_sl rfl (by first | rfl | fail) (by first | exact hDn.symm | fail) | fail
        ·
         (repeat' (first | exact trivial | exact ren_eq (plainL_u8 _) hap3 | refine And.intro ?_ ?_ | (refine wk_cons ?_ ?_))) <;> first | rfl | exact ren_eq (by first | (simp; done) | fail) (by first | rfl | fail) | fail
       ·
        rintro ⟨j, hj⟩
        dsimp only
        have hbl := blks_len_w k hsl D j
        by_cases hc : 128 * (j + 1) ≤ D.length
        ·
         have hge : decide (((D.length - 128 * j : Nat) : Int) > 0) = true := by simp; omega
         have hs := blks_s_w k S D j
         have q140 := f140D (blks_w k S D j) k D (128 * j) hbl hk (by omega) false
         rw [← hs] at q140
         conv => whnf
         first | refine brT (by exact hge) ?_ | fail
         conv => whnf
         repeat (first | (refine Exists.intro _ (And.intro rfl ?_); conv => whnf) | (refine And.intro (by first | omega | fail) ?_; conv => whnf) | fail)
         refine ok1_callF [0, 1, 2, 6] [false, true, false, false] true (q140) rfl rfl ⟨⟨rfl, by first | rfl | fail⟩, by (repeat' (first | exact trivial | refine And.intro ?_ ?_)) <;> first | rfl | exact ren_eq (by first | (simp; done) | fail) (by first | rfl | fail) | fail, by first | simp [plainHf, plainB], by first | rfl | fail, ?_⟩
         conv => whnf
         repeat (first | (refine Exists.intro _ (And.intro rfl ?_); conv => whnf) | (refine And.intro (by first | omega | fail) ?_; conv => whnf) | fail)
         refine ⟨⟨j + 1, hc⟩, by simp only; omega, ?_⟩
         dsimp only
         refine Weak.sel [0, 1, 2, 3, 4, 5, 6] rfl rfl ?_ ?_ rfl rfl
         ·
          (repeat' (first | exact trivial | refine And.intro ?_ ?_ | fail)) <;> first | rfl | fail
         ·
          (repeat' (first | exact trivial | refine And.intro ?_ ?_ | (refine wk_cons ?_ ?_))) <;> first | rfl | exact ren_eq (by first | (simp; done) | fail) (by first | rfl | fail) | fail
        ·
         obtain rfl : j = D.length / 128 := by omega
         have hge : decide (((D.length - 128 * (D.length / 128) : Nat) : Int) > 0) = false := by simp; omega
         obtain ⟨H, hH⟩ : ∃ H, H = blks_w k S D (D.length / 128) := ⟨_, rfl⟩
         rw [← hH] at hbl hfin ⊢
         conv => whnf
         first | refine brF (by exact hge) ?_ | fail
         conv => whnf
         repeat (first | (refine Exists.intro _ (And.intro rfl ?_); conv => whnf) | fail)
         refine SWp.weak (Weak.virt 12 5 1 rfl) ?_
         refine loop_rule ttOk mixed (by kernel_rfl) (ι := { i : Nat // i ≤ 8 }) (fun i => [(0, .p 0 0), (12, .sl 6 0 (8 * i.1) 1 false), (110, .sl 1 0 8 1 true), (111, .i 8), (112, .i (i.1 : Int))]) (fun i => [some (.ro (mach_w 1 2)), some (.row 25 (H.map .u64)), some (.ro (k.map .u64)), some (.ro [.sl 4 0 b0.length 1 f0, .sl 5 0 b1.length 1 f1]), some (.ro (b0.map .u8)), some (.ro (b1.map .u8)), some (.row 5 ((outl_w H (8 * i.1)).map .u8))]) (fun _ => 6 + 1) (fun i => 8 - i.1) ⟨0, by omega⟩ ?_ ?_
         ·
          have hz := outl_z_w H
          dsimp only
          rw [hz]
          refine Weak.sel [0, 1, 2, 3, 4, 5, 6 + 1] rfl rfl ?_ ?_ rfl rfl
          ·
           (repeat' (first | exact trivial | refine And.intro ?_ ?_ | fail)) <;> first | rfl | fail
          ·
           (repeat' (first | exact trivial | refine And.intro ?_ ?_ | (refine wk_cons ?_ ?_))) <;> first | rfl | exact ren_eq (by first | (simp; done) | fail) (by first | rfl | fail) | fail
         ·
          rintro ⟨i, hi⟩
          dsimp only
          by_cases hi8 : i < 8
          ·
           have hlt : decide ((i : Int) < 8) = true := by simp; omega
           have hp := wp1i i (by omega)
           conv => whnf
           first | refine brT (by exact hlt) ?_ | fail
           conv => whnf
           repeat (first | (refine Exists.intro _ (And.intro (sload_u64 (i := i) (by first | rfl | omega | fail) (by first | omega | fail)) ?_); conv => whnf) | (refine Exists.intro _ (And.intro (idx_i (m := i) (by first | rfl | fail)) ?_); conv => whnf) | (refine Exists.intro _ (And.intro rfl ?_); conv => whnf) | (refine And.intro (by first | omega | fail) ?_; conv => whnf) | fail)
           refine loop_rule ttOk mixed (by kernel_rfl) (ι := { m : Nat // m ≤ 8 }) (fun m => [(0, .p 0 0), (12, .sl 6 0 (8 * i + m.1) 1 false), (14, .u64 (H.getD i 0)), (15, .i (7 - (m.1 : Int))), (110, .sl 1 0 8 1 true), (111, .i 8), (112, .i (i : Int))]) (fun m => [some (.ro (mach_w 1 2)), some (.row 25 (H.map .u64)), some (.ro (k.map .u64)), some (.ro [.sl 4 0 b0.length 1 f0, .sl 5 0 b1.length 1 f1]), some (.ro (b0.map .u8)), some (.ro (b1.map .u8)), some (.row 5 ((outl_w H (8 * i + m.1)).map .u8))]) (fun _ => 6 + 1) (fun m => 8 - m.1) ⟨0, by omega⟩ ?_ ?_
           ·
            refine Weak.sel [0, 1, 2, 3, 4, 5, 6] rfl rfl ?_ ?_ rfl rfl
            ·
             (repeat' (first | exact trivial | refine And.intro ?_ ?_ | fail)) <;> first | rfl | fail
            ·
             (repeat' (first | exact trivial | refine And.intro ?_ ?_ | (refine wk_cons ?_ ?_))) <;> first | rfl | exact ren_eq (by first | (simp; done) | fail) (by first | rfl | fail) | fail
           ·
            rintro ⟨m, hm⟩
            dsimp only
            have hol := outl_len_w H (8 * i + m)
            by_cases hm8 : m < 8
            ·
             have hge : decide ((7 - (m : Int)) ≥ 0) = true := by simp; omega
             have h8 : w64 (8 * (7 - (m : Int))) = ((8 * (7 - m) : Nat) : Int) := by simp only [w64_eq]; omega
             have hp2 : w64 (7 - (m : Int) - 1) = 7 - ((m + 1 : Nat) : Int) := by simp only [w64_eq]; omega
             have hs := outl_s_w H i m hm8
             obtain ⟨Z, hZ⟩ : ∃ Z, Z = outl_w H (8 * i + m) := ⟨_, rfl⟩
             rw [← hZ] at hol hs ⊢
             have hap4 : (Z ++ [(shr64 (H.getD i 0) (8 * (7 - m))).toUInt8]).map SV.u8 = List.take ((8 * i + m) * 1) (List.drop 0 (Z.map SV.u8)) ++ List.take (1 * 1) (List.drop 0 [SV.u8 (shr64 (H.getD i 0) (8 * (7 - m))).toUInt8]) := (cat8w (o := 0) (n := 8 * i + m) (E := Z) (b := [(shr64 (H.getD i 0) (8 * (7 - m))).toUInt8]) (by omega) rfl).symm
             conv => whnf
             first | refine brT (by exact hge) ?_ | fail
             conv => whnf
             repeat (fail)
             refine ⟨_, mshr_64 h8, ?_⟩
             conv => whnf
             repeat (first | (refine Exists.intro _ (And.intro rfl ?_); conv => whnf) | (refine And.intro (by first | omega | (simp [ti5]; omega)) ?_; conv => whnf) | fail)
             refine ⟨⟨m + 1, by omega⟩, by simp only; omega, ?_⟩
             dsimp only
             rw [hs]
             refine Weak.sel [0, 1, 2, 3, 4, 5, 6 + 2] rfl rfl ?_ ?_ rfl rfl
             ·
              (repeat' (first | exact trivial | refine And.intro ?_ ?_ | fail)) <;> first | exact wk_i (by first | exact hp2 | exact hp2.symm | fail) | rfl | fail
             ·
              (repeat' (first | exact trivial | exact ren_eq (plainL_u8 _) hap4 | refine And.intro ?_ ?_ | (refine wk_cons ?_ ?_))) <;> first | rfl | exact ren_eq (by first | (simp; done) | fail) (by first | rfl | fail) | fail
            ·
             obtain rfl : m = 8 := by omega
             conv => whnf
             first | refine brF (by rfl) ?_ | fail
             conv => whnf
             repeat (fail)
             refine ⟨⟨i + 1, by omega⟩, by simp only; omega, ?_⟩
             dsimp only
             rw [show 8 * (i + 1) = 8 * i + 8 by omega]
             refine Weak.sel [0, 1, 2, 3, 4, 5, 6] rfl rfl ?_ ?_ rfl rfl
             ·
              (repeat' (first | exact trivial | refine And.intro ?_ ?_ | fail)) <;> first | exact wk_i (by first | exact hp | exact hp.symm | fail) | rfl | fail
             ·
              (repeat' (first | exact trivial | refine And.intro ?_ ?_ | (refine wk_cons ?_ ?_))) <;> first | rfl | exact ren_eq (by first | (simp; done) | fail) (by first | rfl | fail) | fail
          ·
           obtain rfl : i = 8 := by omega
           rw [outb_e_w] at hfin
           rw [← hfin]
           conv => whnf
           first | refine brF (by rfl) ?_ | fail
           conv => whnf
           refine ⟨[0, 1, 2, 3, 4, 5, 6], ?_, rfl, rfl, ?_, rfl⟩
           ·
            (repeat' (fail)) <;> first | rfl | fail
           ·
            (repeat' (first | exact trivial | refine And.intro ?_ ?_ | (refine wk_cons ?_ ?_))) <;> first | rfl | exact ren_eq (by first | (simp; done) | fail) (by first | rfl | fail) | fail
end Go.Sh
namespace Go.Sh
open Go.Proofs
set_option maxHeartbeats 4000000
attribute [local irreducible] comp_w
attribute [local irreducible] blks_w st_w rest_w hash_w pz_w outl_w outb_w lset_w last_w
theorem f104_bobb (h k : List UInt64) (hh : h.length = 8) (hk : k.length = 80) (b0 b2 b3 : List UInt8) (hb0 : b0.length < 100000000000000) (hb2 : b2.length < 100000000000000) (hb3 : b3.length < 100000000000000) (f0 f2 f3 fl : Bool) : SCall Try.prog 104 [.p 0 0, .sl 3 0 4 1 fl] [some (.ro (mach_w 1 2)), some (.row 25 (h.map .u64)), some (.ro (k.map .u64)), some (.ro [.sl 4 0 b0.length 1 f0, .slnil, .sl 5 0 b2.length 1 f2, .sl 6 0 b3.length 1 f3]), some (.ro (b0.map .u8)), some (.ro (b2.map .u8)), some (.ro (b3.map .u8))] (.sl 7 0 64 1 false) [some (.ro (mach_w 1 2)), none, some (.ro (k.map .u64)), some (.ro [.sl 4 0 b0.length 1 f0, .slnil, .sl 5 0 b2.length 1 f2, .sl 6 0 b3.length 1 f3]), some (.ro (b0.map .u8)), some (.ro (b2.map .u8)), some (.ro (b3.map .u8)), some (.row 5 ((hash_w k h (b0 ++ b2 ++ b3)).map .u8))] := by
 obtain ⟨tx, htx⟩ : ∃ tx : Nat → List UInt8, tx = fun i => ([b0, [], b2, b3].take i).flatten := ⟨_, rfl⟩
 have tx0 : tx 0 = [] := by rw [htx]; rfl
 have tx1 : tx 1 = tx 0 ++ b0 := by rw [htx]; simp
 have tx2 : tx 2 = tx 1 ++ [] := by rw [htx]; simp
 have tx3 : tx 3 = tx 2 ++ b2 := by rw [htx]; simp
 have tx4 : tx 4 = tx 3 ++ b3 := by rw [htx]; simp
 have htp : tx 4 = b0 ++ b2 ++ b3 := by rw [htx]; simp
 have he : hash_w k h (b0 ++ b2 ++ b3) = hash_w k h (tx 4) := by rw [htp]
 rw [he]
 have hl0 : (tx 0).length = 0 := by rw [tx0]; rfl
 have hl1 : (tx 1).length = (tx 0).length + b0.length := by rw [tx1, List.length_append]
 have hl2 : (tx 2).length = (tx 1).length + 0 := by rw [tx2, List.length_append]; rfl
 have hl3 : (tx 3).length = (tx 2).length + b2.length := by rw [tx3, List.length_append]
 have hl4 : (tx 4).length = (tx 3).length + b3.length := by rw [tx4, List.length_append]
 clear htx
 refine scall_of ttOk (by kernel_rfl : Try.prog.funcs[104]? = some Try.f104) rfl rfl rfl ?_
 try simp only [List.length_cons, List.length_nil, Nat.zero_add, Nat.reduceAdd]
 refine sw_ok ttOk mixed (by kernel_rfl) ?_
 conv => whnf
 repeat (first | (refine Exists.intro _ (And.intro rfl ?_); conv => whnf) | fail)
 refine SWp.weak (Weak.virt 6 5 1 rfl) ?_
 refine loop_rule ttOk mixed (by kernel_rfl) (ι := { x : Nat × List UInt8 × Nat // x.1 ≤ 4 ∧ x.2.2 ≤ x.2.1.length ∧ x.2.1.drop x.2.2 = rest_w (tx x.1) }) (fun x => [(0, .p 0 0), (5, .i 128), (6, .sl 7 x.1.2.2 (x.1.2.1.length - x.1.2.2) 1 false), (7, .u64 (UInt64.ofNat (tx x.1.1).length)), (21, .sl 3 0 4 1 fl), (22, .i 4), (23, .i (x.1.1 : Int))]) (fun x => [some (.ro (mach_w 1 2)), some (.row 25 ((st_w k h (tx x.1.1)).map .u64)), some (.ro (k.map .u64)), some (.ro [.sl 4 0 b0.length 1 f0, .slnil, .sl 5 0 b2.length 1 f2, .sl 6 0 b3.length 1 f3]), some (.ro (b0.map .u8)), some (.ro (b2.map .u8)), some (.ro (b3.map .u8)), some (.row 5 (x.1.2.1.map .u8))]) (fun _ => 8) (fun x => 4 - x.1.1) ⟨(0, [], 0), by omega, by simp, by rw [tx0]; exact rest_nil_w.symm⟩ ?_ ?_
 ·
  dsimp only
  rw [tx0, st_nil_w]
  refine Weak.sel [0, 1, 2, 3, 4, 5, 6, 7] rfl rfl ?_ ?_ rfl rfl
  ·
   (repeat' (first | exact trivial | refine And.intro ?_ ?_ | fail)) <;> first | rfl | fail
  ·
   (repeat' (first | exact trivial | refine And.intro ?_ ?_ | (refine wk_cons ?_ ?_))) <;> first | rfl | exact ren_eq (by first | (simp; done) | fail) (by first | rfl | fail) | fail
 ·
  rintro ⟨⟨i, E, o⟩, hi, ho, hE⟩
  dsimp only at hi ho hE ⊢
  have hsl := st_len_w k hh (tx i)
  have hrl := rest_len_w (tx i)
  obtain ⟨S, hS⟩ : ∃ S, S = st_w k h (tx i) := ⟨_, rfl⟩
  rw [← hS] at hsl ⊢
  have hEl : E.length - o = (rest_w (tx i)).length := by rw [← hE, List.length_drop]
  by_cases hi2 : i < 4
  ·
   have hic : i = 0 ∨ i = 1 ∨ i = 2 ∨ i = 3 := by omega
   rcases hic with rfl | rfl | rfl | rfl
   ·
    have hq := feed_st_w k h (tx 0) b0
    have hq2 := feed_rest_w (tx 0) b0
    rw [← hS] at hq
    rw [← tx1] at hq hq2
    rw [← hE] at hq hq2 hEl
    have hap : (E.drop o ++ b0).map SV.u8 = List.take ((E.length - o) * 1) (List.drop o (E.map SV.u8)) ++ List.take (b0.length * 1) (List.drop 0 (b0.map SV.u8)) := (cat8w rfl rfl).symm
    have hDl : (E.drop o ++ b0).length = E.length - o + b0.length := by rw [List.length_append, List.length_drop]
    have hel : E.length - o < 128 := by rw [← List.length_drop, hE, hrl]; omega
    have hul : UInt64.ofNat (tx 0).length + u64i (b0.length : Int) = UInt64.ofNat (tx 1).length := by rw [u64_add_i _ _ (by omega), tx1, List.length_append]
    clear hS hrl
    conv => whnf
    first | refine brT (by rfl) ?_ | fail
    conv => whnf
    repeat (first | (refine Exists.intro _ (And.intro rfl ?_); conv => whnf) | (refine And.intro (by first | omega | (simp [ti5]; omega)) ?_; conv => whnf) | fail)
    obtain ⟨D, hD⟩ : ∃ D, D = E.drop o ++ b0 := ⟨_, rfl⟩
    rw [← hD] at hq hq2 hap hDl
    refine loop_rule ttOk mixed (by kernel_rfl) (ι := { j : Nat // 128 * j ≤ D.length }) (fun j => [(0, .p 0 0), (5, .i 128), (6, .sl 7 (128 * j.1) (D.length - 128 * j.1) 1 false), (7, .u64 (UInt64.ofNat (tx 1).length)), (21, .sl 3 0 4 1 fl), (22, .i 4), (23, .i 0)]) (fun j => [some (.ro (mach_w 1 2)), some (.row 25 ((blks_w k S D j.1).map .u64)), some (.ro (k.map .u64)), some (.ro [.sl 4 0 b0.length 1 f0, .slnil, .sl 5 0 b2.length 1 f2, .sl 6 0 b3.length 1 f3]), some (.ro (b0.map .u8)), some (.ro (b2.map .u8)), some (.ro (b3.map .u8)), some (.row 5 (D.map .u8))]) (fun _ => 7 + 1) (fun j => D.length - 128 * j.1) ⟨0, by omega⟩ ?_ ?_
    ·
     have hz := blks_z_w k S D
     have hDn : E.length - o + b0.length = D.length - 128 * 0 := by omega
     dsimp only
     rw [hz]
     refine Weak.sel [0, 1, 2, 3, 4, 5, 6, 8] rfl rfl ?_ ?_ rfl rfl
     ·
      (repeat' (first | exact trivial | refine And.intro ?_ ?_ | fail)) <;> first | exact wk_u64 (by first | exact hul | exact hul.symm | fail) | rfl | exact wk_sl rfl (by first | rfl | fail) (by first | exact hDn.symm | fail) | fail
     ·
      (repeat' (first | exact trivial | exact ren_eq (plainL_u8 _) hap | refine And.intro ?_ ?_ | (refine wk_cons ?_ ?_))) <;> first | rfl | exact ren_eq (by first | (simp; done) | fail) (by first | rfl | fail) | fail
    ·
     rintro ⟨j, hj⟩
     dsimp only
     have hbl := blks_len_w k hsl D j
     by_cases hc : 128 * (j + 1) ≤ D.length
     ·
      have hge : decide (((D.length - 128 * j : Nat) : Int) ≥ 128) = true := by simp; omega
      have hs := blks_s_w k S D j
      have q140 := f140D (blks_w k S D j) k D (128 * j) hbl hk (by omega) false
      rw [← hs] at q140
      conv => whnf
      first | refine brT (by exact hge) ?_ | fail
      conv => whnf
      repeat (first | (refine Exists.intro _ (And.intro rfl ?_); conv => whnf) | (refine And.intro (by first | omega | fail) ?_; conv => whnf) | fail)
      refine ok1_callF [0, 1, 2, 7] [false, true, false, false] true (q140) rfl rfl ⟨⟨rfl, by first | rfl | fail⟩, by (repeat' (first | exact trivial | refine And.intro ?_ ?_)) <;> first | rfl | exact ren_eq (by first | (simp; done) | fail) (by first | rfl | fail) | fail, by first | simp [plainHf, plainB], by first | rfl | fail, ?_⟩
      conv => whnf
      repeat (first | (refine Exists.intro _ (And.intro rfl ?_); conv => whnf) | (refine And.intro (by first | omega | fail) ?_; conv => whnf) | fail)
      refine ⟨⟨j + 1, hc⟩, by simp only; omega, ?_⟩
      dsimp only
      refine Weak.sel [0, 1, 2, 3, 4, 5, 6, 7] rfl rfl ?_ ?_ rfl rfl
      ·
       (repeat' (first | exact trivial | refine And.intro ?_ ?_ | fail)) <;> first | rfl | fail
      ·
       (repeat' (first | exact trivial | refine And.intro ?_ ?_ | (refine wk_cons ?_ ?_))) <;> first | rfl | exact ren_eq (by first | (simp; done) | fail) (by first | rfl | fail) | fail
     ·
      obtain rfl : j = D.length / 128 := by omega
      have hge : decide (((D.length - 128 * (D.length / 128) : Nat) : Int) ≥ 128) = false := by simp; omega
      rw [hq]
      conv => whnf
      first | refine brF (by exact hge) ?_ | fail
      conv => whnf
      repeat (fail)
      refine ⟨⟨(1, D, 128 * (D.length / 128)), by omega, by simp only; omega, hq2⟩, by simp only; omega, ?_⟩
      dsimp only
      refine Weak.sel [0, 1, 2, 3, 4, 5, 6, 7] rfl rfl ?_ ?_ rfl rfl
      ·
       (repeat' (first | exact trivial | refine And.intro ?_ ?_ | fail)) <;> first | rfl | fail
      ·
       (repeat' (first | exact trivial | refine And.intro ?_ ?_ | (refine wk_cons ?_ ?_))) <;> first | rfl | exact ren_eq (by first | (simp; done) | fail) (by first | rfl | fail) | fail
   ·
    have hq : st_w k h (tx 2) = S := by rw [hS, tx2, List.append_nil]
    have hq2 : E.drop o = rest_w (tx 2) := by rw [hE, tx2, List.append_nil]
    have hel : E.length - o < 128 := by rw [← List.length_drop, hE, hrl]; omega
    have htJ : tx 1 = tx 2 := by rw [tx2, List.append_nil]
    have hge : decide (((E.length - o : Nat) : Int) ≥ 128) = false := by simp; omega
    have hul : UInt64.ofNat (tx 1).length + u64i (0 : Int) = UInt64.ofNat (tx 2).length := by rw [← htJ]; exact UInt64.add_zero _
    conv => whnf
    first | refine brT (by rfl) ?_ | fail
    conv => whnf
    repeat (first | (refine Exists.intro _ (And.intro rfl ?_); conv => whnf) | (refine And.intro (by first | omega | fail) ?_; conv => whnf) | fail)
    refine loop_rule ttOk mixed (by kernel_rfl) (ι := Unit) (fun _ => [(0, .p 0 0), (5, .i 128), (6, .sl 7 o (E.length - o) 1 false), (7, .u64 (UInt64.ofNat (tx 2).length)), (21, .sl 3 0 4 1 fl), (22, .i 4), (23, .i 1)]) (fun _ => [some (.ro (mach_w 1 2)), some (.row 25 (S.map .u64)), some (.ro (k.map .u64)), some (.ro [.sl 4 0 b0.length 1 f0, .slnil, .sl 5 0 b2.length 1 f2, .sl 6 0 b3.length 1 f3]), some (.ro (b0.map .u8)), some (.ro (b2.map .u8)), some (.ro (b3.map .u8)), some (.row 5 (E.map .u8))]) (fun _ => 7 + 1) (fun _ => 0) () ?_ ?_
    ·
     refine Weak.sel [0, 1, 2, 3, 4, 5, 6, 7] rfl rfl ?_ ?_ rfl rfl
     ·
      (repeat' (first | exact trivial | refine And.intro ?_ ?_ | fail)) <;> first | exact wk_u64 (by first | exact hul | exact hul.symm | fail) | rfl | fail
     ·
      (repeat' (first | exact trivial | refine And.intro ?_ ?_ | (refine wk_cons ?_ ?_))) <;> first | rfl | exact ren_eq (by first | (simp; done) | fail) (by first | rfl | fail) | fail
    ·
     intro _
     dsimp only
     conv => whnf
     first | refine brF (by exact hge) ?_ | fail
     conv => whnf
     repeat (fail)
     refine ⟨⟨(2, E, o), by omega, ho, hq2⟩, by simp only; omega, ?_⟩
     dsimp only
     rw [hq]
     refine Weak.sel [0, 1, 2, 3, 4, 5, 6, 7] rfl rfl ?_ ?_ rfl rfl
     ·
      (repeat' (first | exact trivial | refine And.intro ?_ ?_ | fail)) <;> first | rfl | fail
     ·
      (repeat' (first | exact trivial | refine And.intro ?_ ?_ | (refine wk_cons ?_ ?_))) <;> first | rfl | exact ren_eq (by first | (simp; done) | fail) (by first | rfl | fail) | fail
   ·
    have hq := feed_st_w k h (tx 2) b2
    have hq2 := feed_rest_w (tx 2) b2
    rw [← hS] at hq
    rw [← tx3] at hq hq2
    rw [← hE] at hq hq2 hEl
    have hap : (E.drop o ++ b2).map SV.u8 = List.take ((E.length - o) * 1) (List.drop o (E.map SV.u8)) ++ List.take (b2.length * 1) (List.drop 0 (b2.map SV.u8)) := (cat8w rfl rfl).symm
    have hDl : (E.drop o ++ b2).length = E.length - o + b2.length := by rw [List.length_append, List.length_drop]
    have hel : E.length - o < 128 := by rw [← List.length_drop, hE, hrl]; omega
    have hul : UInt64.ofNat (tx 2).length + u64i (b2.length : Int) = UInt64.ofNat (tx 3).length := by rw [u64_add_i _ _ (by omega), tx3, List.length_append]
    clear hS hrl
    conv => whnf
    first | refine brT (by rfl) ?_ | fail
    conv => whnf
    repeat (first | (refine Exists.intro _ (And.intro rfl ?_); conv => whnf) | (refine And.intro (by first | omega | (simp [ti5]; omega)) ?_; conv => whnf) | fail)
    obtain ⟨D, hD⟩ : ∃ D, D = E.drop o ++ b2 := ⟨_, rfl⟩
    rw [← hD] at hq hq2 hap hDl
    refine loop_rule ttOk mixed (by kernel_rfl) (ι := { j : Nat // 128 * j ≤ D.length }) (fun j => [(0, .p 0 0), (5, .i 128), (6, .sl 7 (128 * j.1) (D.length - 128 * j.1) 1 false), (7, .u64 (UInt64.ofNat (tx 3).length)), (21, .sl 3 0 4 1 fl), (22, .i 4), (23, .i 2)]) (fun j => [some (.ro (mach_w 1 2)), some (.row 25 ((blks_w k S D j.1).map .u64)), some (.ro (k.map .u64)), some (.ro [.sl 4 0 b0.length 1 f0, .slnil, .sl 5 0 b2.length 1 f2, .sl 6 0 b3.length 1 f3]), some (.ro (b0.map .u8)), some (.ro (b2.map .u8)), some (.ro (b3.map .u8)), some (.row 5 (D.map .u8))]) (fun _ => 7 + 1) (fun j => D.length - 128 * j.1) ⟨0, by omega⟩ ?_ ?_
    ·
     have hz := blks_z_w k S D
     have hDn : E.length - o + b2.length = D.length - 128 * 0 := by omega
     dsimp only
     rw [hz]
     refine Weak.sel [0, 1, 2, 3, 4, 5, 6, 8] rfl rfl ?_ ?_ rfl rfl
     ·
      (repeat' (first | exact trivial | refine And.intro ?_ ?_ | fail)) <;> first | exact wk_u64 (by first | exact hul | exact hul.symm | fail) | rfl | exact wk_sl rfl (by first | rfl | fail) (by first | exact hDn.symm | fail) | fail
     ·
      (repeat' (first | exact trivial | exact ren_eq (plainL_u8 _) hap | refine And.intro ?_ ?_ | (refine wk_cons ?_ ?_))) <;> first | rfl | exact ren_eq (by first | (simp; done) | fail) (by first | rfl | fail) | fail
    ·
     rintro ⟨j, hj⟩
     dsimp only
     have hbl := blks_len_w k hsl D j
     by_cases hc : 128 * (j + 1) ≤ D.length
     ·
      have hge : decide (((D.length - 128 * j : Nat) : Int) ≥ 128) = true := by simp; omega
      have hs := blks_s_w k S D j
      have q140 := f140D (blks_w k S D j) k D (128 * j) hbl hk (by omega) false
      rw [← hs] at q140
      conv => whnf
      first | refine brT (by exact hge) ?_ | fail
      conv => whnf
      repeat (first | (refine Exists.intro _ (And.intro rfl ?_); conv => whnf) | (refine And.intro (by first | omega | fail) ?_; conv => whnf) | fail)
      refine ok1_callF [0, 1, 2, 7] [false, true, false, false] true (q140) rfl rfl ⟨⟨rfl, by first | rfl | fail⟩, by (repeat' (first | exact trivial | refine And.intro ?_ ?_)) <;> first | rfl | exact ren_eq (by first | (simp; done) | fail) (by first | rfl | fail) | fail, by first | simp [plainHf, plainB], by first | rfl | fail, ?_⟩
      conv => whnf
      repeat (first | (refine Exists.intro _ (And.intro rfl ?_); conv => whnf) | (refine And.intro (by first | omega | fail) ?_; conv => whnf) | fail)
      refine ⟨⟨j + 1, hc⟩, by simp only; omega, ?_⟩
      dsimp only
      refine Weak.sel [0, 1, 2, 3, 4, 5, 6, 7] rfl rfl ?_ ?_ rfl rfl
      ·
       (repeat' (first | exact trivial | refine And.intro ?_ ?_ | fail)) <;> first | rfl | fail
      ·
       (repeat' (first | exact trivial | refine And.intro ?_ ?_ | (refine wk_cons ?_ ?_))) <;> first | rfl | exact ren_eq (by first | (simp; done) | fail) (by first | rfl | fail) | fail
     ·
      obtain rfl : j = D.length / 128 := by omega
      have hge : decide (((D.length - 128 * (D.length / 128) : Nat) : Int) ≥ 128) = false := by simp; omega
      rw [hq]
      conv => whnf
      first | refine brF (by exact hge) ?_ | fail
      conv => whnf
      repeat (fail)
      refine ⟨⟨(3, D, 128 * (D.length / 128)), by omega, by simp only; omega, hq2⟩, by simp only; omega, ?_⟩
      dsimp only
      refine Weak.sel [0, 1, 2, 3, 4, 5, 6, 7] rfl rfl ?_ ?_ rfl rfl
      ·
       (repeat' (first | exact trivial | refine And.intro ?_ ?_ | fail)) <;> first | rfl | fail
      ·
       (repeat' (first | exact trivial | refine And.intro ?_ ?_ | (refine wk_cons ?_ ?_))) <;> first | rfl | exact ren_eq (by first | (simp; done) | fail) (by first | rfl | fail) | fail
   ·
    have hq := feed_st_w k h (tx 3) b3
    have hq2 := feed_rest_w (tx 3) b3
    rw [← hS] at hq
    rw [← tx4] at hq hq2
    rw [← hE] at hq hq2 hEl
    have hap : (E.drop o ++ b3).map SV.u8 = List.take ((E.length - o) * 1) (List.drop o (E.map SV.u8)) ++ List.take (b3.length * 1) (List.drop 0 (b3.map SV.u8)) := (cat8w rfl rfl).symm
    have hDl : (E.drop o ++ b3).length = E.length - o + b3.length := by rw [List.length_append, List.length_drop]
    have hel : E.length - o < 128 := by rw [← List.length_drop, hE, hrl]; omega
    have hul : UInt64.ofNat (tx 3).length + u64i (b3.length : Int) = UInt64.ofNat (tx 4).length := by rw [u64_add_i _ _ (by omega), tx4, List.length_append]
    clear hS hrl
    conv => whnf
    first | refine brT (by rfl) ?_ | fail
    conv => whnf
    repeat (first | (refine Exists.intro _ (And.intro rfl ?_); conv => whnf) | (refine And.intro (by first | omega | (simp [ti5]; omega)) ?_; conv => whnf) | fail)
    obtain ⟨D, hD⟩ : ∃ D, D = E.drop o ++ b3 := ⟨_, rfl⟩
    rw [← hD] at hq hq2 hap hDl
    refine loop_rule ttOk mixed (by kernel_rfl) (ι := { j : Nat // 128 * j ≤ D.length }) (fun j => [(0, .p 0 0), (5, .i 128), (6, .sl 7 (128 * j.1) (D.length - 128 * j.1) 1 false), (7, .u64 (UInt64.ofNat (tx 4).length)), (21, .sl 3 0 4 1 fl), (22, .i 4), (23, .i 3)]) (fun j => [some (.ro (mach_w 1 2)), some (.row 25 ((blks_w k S D j.1).map .u64)), some (.ro (k.map .u64)), some (.ro [.sl 4 0 b0.length 1 f0, .slnil, .sl 5 0 b2.length 1 f2, .sl 6 0 b3.length 1 f3]), some (.ro (b0.map .u8)), some (.ro (b2.map .u8)), some (.ro (b3.map .u8)), some (.row 5 (D.map .u8))]) (fun _ => 7 + 1) (fun j => D.length - 128 * j.1) ⟨0, by omega⟩ ?_ ?_
    ·
     have hz := blks_z_w k S D
     have hDn : E.length - o + b3.length = D.length - 128 * 0 := by omega
     dsimp only
     rw [hz]
     refine Weak.sel [0, 1, 2, 3, 4, 5, 6, 8] rfl rfl ?_ ?_ rfl rfl
     ·
      (repeat' (first | exact trivial | refine And.intro ?_ ?_ | fail)) <;> first | exact wk_u64 (by first | exact hul | exact hul.symm | fail) | rfl | exact wk_sl rfl (by first | rfl | fail) (by first | exact hDn.symm | fail) | fail
     ·
      (repeat' (first | exact trivial | exact ren_eq (plainL_u8 _) hap | refine And.intro ?_ ?_ | (refine wk_cons ?_ ?_))) <;> first | rfl | exact ren_eq (by first | (simp; done) | fail) (by first | rfl | fail) | fail
    ·
     rintro ⟨j, hj⟩
     dsimp only
     have hbl := blks_len_w k hsl D j
     by_cases hc : 128 * (j + 1) ≤ D.length
     ·
      have hge : decide (((D.length - 128 * j : Nat) : Int) ≥ 128) = true := by simp; omega
      have hs := blks_s_w k S D j
      have q140 := f140D (blks_w k S D j) k D (128 * j) hbl hk (by omega) false
      rw [← hs] at q140
      conv => whnf
      first | refine brT (by exact hge) ?_ | fail
      conv => whnf
      repeat (first | (refine Exists.intro _ (And.intro rfl ?_); conv => whnf) | (refine And.intro (by first | omega | fail) ?_; conv => whnf) | fail)
      refine ok1_callF [0, 1, 2, 7] [false, true, false, false] true (q140) rfl rfl ⟨⟨rfl, by first | rfl | fail⟩, by (repeat' (first | exact trivial | refine And.intro ?_ ?_)) <;> first | rfl | exact ren_eq (by first | (simp; done) | fail) (by first | rfl | fail) | fail, by first | simp [plainHf, plainB], by first | rfl | fail, ?_⟩
      conv => whnf
      repeat (first | (refine Exists.intro _ (And.intro rfl ?_); conv => whnf) | (refine And.intro (by first | omega | fail) ?_; conv => whnf) | fail)
      refine ⟨⟨j + 1, hc⟩, by simp only; omega, ?_⟩
      dsimp only
      refine Weak.sel [0, 1, 2, 3, 4, 5, 6, 7] rfl rfl ?_ ?_ rfl rfl
      ·
       (repeat' (first | exact trivial | refine And.intro ?_ ?_ | fail)) <;> first | rfl | fail
      ·
       (repeat' (first | exact trivial | refine And.intro ?_ ?_ | (refine wk_cons ?_ ?_))) <;> first | rfl | exact ren_eq (by first | (simp; done) | fail) (by first | rfl | fail) | fail
     ·
      obtain rfl : j = D.length / 128 := by omega
      have hge : decide (((D.length - 128 * (D.length / 128) : Nat) : Int) ≥ 128) = false := by simp; omega
      rw [hq]
      conv => whnf
      first | refine brF (by exact hge) ?_ | fail
      conv => whnf
      repeat (fail)
      refine ⟨⟨(4, D, 128 * (D.length / 128)), by omega, by simp only; omega, hq2⟩, by simp only; omega, ?_⟩
      dsimp only
      refine Weak.sel [0, 1, 2, 3, 4, 5, 6, 7] rfl rfl ?_ ?_ rfl rfl
      ·
       (repeat' (first | exact trivial | refine And.intro ?_ ?_ | fail)) <;> first | rfl | fail
      ·
       (repeat' (first | exact trivial | refine And.intro ?_ ?_ | (refine wk_cons ?_ ?_))) <;> first | rfl | exact ren_eq (by first | (simp; done) | fail) (by first | rfl | fail) | fail
  ·
   obtain rfl : i = 4 := by omega
   obtain ⟨n, hn⟩ : ∃ n, n = E.length - o := ⟨_, rfl⟩
   have hnE : o + n = E.length := by omega
   rw [← hn]
   have hcat : (rest_w (tx 4) ++ [128]).map SV.u8 = List.take (n * 1) (List.drop o (E.map SV.u8)) ++ List.take (1 * 1) (List.drop 0 [SV.u8 128]) := by rw [← hE]; exact (cat8w (b := [128]) hn rfl).symm
   have hdd : decide (((n : Nat) : Int).toNat = ((n : Nat) : Int).toNat) = true := by simp
   conv => whnf
   first | refine brF (by rfl) ?_ | fail
   conv => whnf
   repeat (first | (refine Exists.intro _ (And.intro rfl ?_); conv => whnf) | (refine And.intro (by first | omega | fail) ?_; conv => whnf) | fail)
   rw [hdd]
   rw [Int.toNat_natCast]
   have hnl : n = (rest_w (tx 4)).length := by rw [hn, ← hE, List.length_drop]
   have hn64 : n < 128 := by rw [hnl, hrl]; omega
   have hpz := pz_rest_w (tx 4)
   rw [← hnl] at hpz
   have hpl : pz_w n < 128 := by unfold pz_w; exact Nat.mod_lt _ (by decide)
   conv => whnf
   refine And.intro ⟨by show _ ≤ (E.map SV.u8).length; rw [List.length_map]; omega, by decide, by show _ * 1 ≤ _; omega, by decide⟩ ?_
   conv => whnf
   repeat (fail)
   refine loop_rule ttOk mixed (by kernel_rfl) (ι := { j : Nat // j ≤ pz_w n }) (fun j => [(0, .p 0 0), (5, .i 128), (6, .sl 7 0 (n + 1 + j.1) 1 false), (7, .u64 (UInt64.ofNat (tx 4).length))]) (fun j => [some (.ro (mach_w 1 2)), some (.row 25 (S.map .u64)), some (.ro (k.map .u64)), some (.ro [.sl 4 0 b0.length 1 f0, .slnil, .sl 5 0 b2.length 1 f2, .sl 6 0 b3.length 1 f3]), some (.ro (b0.map .u8)), some (.ro (b2.map .u8)), some (.ro (b3.map .u8)), some (.row 5 ((rest_w (tx 4) ++ [128] ++ List.replicate j.1 0).map .u8))]) (fun _ => 7 + 1) (fun j => pz_w n - j.1) ⟨0, by omega⟩ ?_ ?_
   ·
    have hz : rest_w (tx 4) ++ [128] ++ List.replicate 0 0 = rest_w (tx 4) ++ [128] := List.append_nil _
    dsimp only
    rw [hz]
    refine Weak.sel [0, 1, 2, 3, 4, 5, 6, 7 + 2] rfl rfl ?_ ?_ rfl rfl
    ·
     (repeat' (first | exact trivial | refine And.intro ?_ ?_ | fail)) <;> first | rfl | fail
    ·
     (repeat' (first | exact trivial | exact ren_eq (plainL_u8 _) hcat | refine And.intro ?_ ?_ | (refine wk_cons ?_ ?_))) <;> first | rfl | exact ren_eq (by first | (simp; done) | fail) (by first | rfl | fail) | fail
   ·
    rintro ⟨j, hj⟩
    dsimp only
    obtain ⟨Y, hY⟩ : ∃ Y, Y = rest_w (tx 4) ++ [128] ++ List.replicate j 0 := ⟨_, rfl⟩
    have hYl : Y.length = n + 1 + j := by rw [hY, List.length_append, List.length_append, ← hnl, List.length_replicate]; rfl
    have hYs : rest_w (tx 4) ++ [128] ++ List.replicate (j + 1) 0 = Y ++ [0] := by rw [hY, List.replicate_succ', List.append_assoc]; simp
    by_cases hj2 : j < pz_w n
    ·
     have hno := padz_no_w hj2
     have hcd : (((w64 (((n + 1 + j : Nat) : Int) + w64 (2 * 8))).tmod 128) != 0) = true := by
      have e : w64 (((n + 1 + j : Nat) : Int) + w64 (2 * 8)) = ((n + 1 + j + 16 : Nat) : Int) := by simp only [w64_eq]; omega
      rw [e, show (((n + 1 + j + 16 : Nat) : Int)).tmod 128 = (((n + 1 + j + 16) % 128 : Nat) : Int) from rfl]
      simp; omega
     rw [← hY]
     conv => whnf
     repeat (first | (refine Exists.intro _ (And.intro rfl ?_); conv => whnf) | fail)
     first | refine brT (by exact hcd) ?_ | fail
     conv => whnf
     repeat (first | (refine Exists.intro _ (And.intro rfl ?_); conv => whnf) | (refine And.intro (by first | omega | (simp [ti5]; omega)) ?_; conv => whnf) | fail)
     have hap2 : (Y ++ [0]).map SV.u8 = List.take ((n + 1 + j) * 1) (List.drop 0 (Y.map SV.u8)) ++ List.take (1 * 1) (List.drop 0 [SV.u8 0]) := (cat8w (o := 0) (n := n + 1 + j) (E := Y) (b := [0]) (by omega) rfl).symm
     refine ⟨⟨j + 1, by omega⟩, by simp only; omega, ?_⟩
     dsimp only
     rw [hYs]
     refine Weak.sel [0, 1, 2, 3, 4, 5, 6, 7 + 2] rfl rfl ?_ ?_ rfl rfl
     ·
      (repeat' (first | exact trivial | refine And.intro ?_ ?_ | fail)) <;> first | rfl | fail
     ·
      (repeat' (first | exact trivial | exact ren_eq (plainL_u8 _) hap2 | refine And.intro ?_ ?_ | (refine wk_cons ?_ ?_))) <;> first | rfl | exact ren_eq (by first | (simp; done) | fail) (by first | rfl | fail) | fail
    ·
     obtain rfl : j = pz_w n := by omega
     have hyes := padz_yes_w n
     have hcd : (((w64 (((n + 1 + pz_w n : Nat) : Int) + w64 (2 * 8))).tmod 128) != 0) = false := by
      have e : w64 (((n + 1 + pz_w n : Nat) : Int) + w64 (2 * 8)) = ((n + 1 + pz_w n + 16 : Nat) : Int) := by simp only [w64_eq]; omega
      rw [e, show (((n + 1 + pz_w n + 16 : Nat) : Int)).tmod 128 = (((n + 1 + pz_w n + 16) % 128 : Nat) : Int) from rfl, hyes]
      rfl
     rw [← hY]
     conv => whnf
     repeat (first | (refine Exists.intro _ (And.intro rfl ?_); conv => whnf) | fail)
     first | refine brF (by exact hcd) ?_ | fail
     conv => whnf
     repeat (first | (refine Exists.intro _ (And.intro rfl ?_); conv => whnf) | (refine And.intro ⟨by first | decide | fail, by first | decide | fail⟩ ?_; conv => whnf) | fail)
     obtain ⟨N, hN⟩ : ∃ N, N = (tx 4).length := ⟨_, rfl⟩
     rw [← hN]
     refine loop_rule ttOk mixed (by kernel_rfl) (ι := { i : Nat // i ≤ 8 }) (fun i => [(0, .p 0 0), (5, .i 128), (6, .sl 7 0 (n + 1 + pz_w n) 1 false), (7, .u64 (UInt64.ofNat N)), (10, .sl (7 + 1) 0 16 1 true), (76, .i (i.1 : Int))]) (fun i => [some (.ro (mach_w 1 2)), some (.row 25 (S.map .u64)), some (.ro (k.map .u64)), some (.ro [.sl 4 0 b0.length 1 f0, .slnil, .sl 5 0 b2.length 1 f2, .sl 6 0 b3.length 1 f3]), some (.ro (b0.map .u8)), some (.ro (b2.map .u8)), some (.ro (b3.map .u8)), some (.row 5 (Y.map .u8)), some (.row 5 ((lset_w N i.1).map .u8))]) (fun _ => 7 + 2) (fun i => 8 - i.1) ⟨0, by omega⟩ ?_ ?_
     ·
      have hz := lset_z_w N
      dsimp only
      rw [hz]
      refine Weak.sel [0, 1, 2, 3, 4, 5, 6, 7, 7 + 1] rfl rfl ?_ ?_ rfl rfl
      ·
       (repeat' (first | exact trivial | refine And.intro ?_ ?_ | fail)) <;> first | rfl | fail
      ·
       (repeat' (first | exact trivial | exact ren_z8 | refine And.intro ?_ ?_ | (refine wk_cons ?_ ?_))) <;> first | rfl | exact ren_eq (by first | (simp; done) | fail) (by first | rfl | fail) | fail
     ·
      rintro ⟨i, hi⟩
      dsimp only
      have hll := lset_len_w N i
      by_cases hi8 : i < 8
      ·
       have hlt : decide ((i : Int) < 8) = true := by simp; omega
       have hp := wp1i i (by omega)
       have h8 : w64 (8 * (i : Int)) = ((8 * i : Nat) : Int) := by simp only [w64_eq]; omega
       have h7 : w64 (w64 (16 - 1) - (i : Int)) = ((15 - i : Nat) : Int) := by simp only [w64_eq]; omega
       have hs := lset_s_w N i
       conv => whnf
       first | refine brT (by exact hlt) ?_ | fail
       conv => whnf
       repeat (fail)
       refine ⟨_, mshr_64 h8, ?_⟩
       conv => whnf
       repeat (first | (refine Exists.intro _ (And.intro (sput_m8 (i := 15 - i) (by first | rfl | omega | fail)) ?_); conv => whnf) | (refine Exists.intro _ (And.intro (idx_i (m := 15 - i) (by first | rfl | omega | fail)) ?_); conv => whnf) | (refine And.intro (by first | omega | (simp; omega) | fail) ?_; conv => whnf) | fail)
       refine ⟨⟨i + 1, by omega⟩, by simp only; omega, ?_⟩
       dsimp only
       rw [hs]
       refine Weak.sel [0, 1, 2, 3, 4, 5, 6, 7, 7 + 1] rfl rfl ?_ ?_ rfl rfl
       ·
        (repeat' (first | exact trivial | refine And.intro ?_ ?_ | fail)) <;> first | exact wk_i (by first | exact hp | exact hp.symm | fail) | rfl | fail
       ·
        (repeat' (first | exact trivial | refine And.intro ?_ ?_ | (refine wk_cons ?_ ?_))) <;> first | rfl | exact ren_eq (by first | (simp; done) | fail) (by first | rfl | fail) | exact ren_m8 (by first | rfl | fail) | fail
      ·
       obtain rfl : i = 8 := by omega
       have hap3 : (Y ++ lset_w N 8).map SV.u8 = List.take ((n + 1 + pz_w n) * 1) (List.drop 0 (Y.map SV.u8)) ++ List.take (16 * 1) (List.drop 0 ((lset_w N 8).map SV.u8)) := (cat8w (o := 0) (n := n + 1 + pz_w n) (E := Y) (b := lset_w N 8) (by omega) hll.symm).symm
       obtain ⟨D, hD⟩ : ∃ D, D = Y ++ lset_w N 8 := ⟨_, rfl⟩
       have hDl : D.length = n + 1 + pz_w n + 16 := by rw [hD, List.length_append, hYl, hll]
       have hDe : D = last_w (tx 4) := by rw [hD, hY, hpz, hN]; exact last_e_w _
       have hD64 := last_len_w (tx 4)
       have hfin := last_st_w k h (tx 4)
       rw [← hDe] at hD64 hfin
       rw [← hS] at hfin
       rw [← hD] at hap3
       conv => whnf
       first | refine brF (by rfl) ?_ | fail
       conv => whnf
       repeat (first | (refine And.intro (by first | omega | (simp [ti5]; omega)) ?_; conv => whnf) | fail)
       refine loop_rule ttOk mixed (by kernel_rfl) (ι := { j : Nat // 128 * j ≤ D.length }) (fun j => [(0, .p 0 0), (5, .i 128), (6, .sl 7 (128 * j.1) (D.length - 128 * j.1) 1 false)]) (fun j => [some (.ro (mach_w 1 2)), some (.row 25 ((blks_w k S D j.1).map .u64)), some (.ro (k.map .u64)), some (.ro [.sl 4 0 b0.length 1 f0, .slnil, .sl 5 0 b2.length 1 f2, .sl 6 0 b3.length 1 f3]), some (.ro (b0.map .u8)), some (.ro (b2.map .u8)), some (.ro (b3.map .u8)), some (.row 5 (D.map .u8))]) (fun _ => 7 + 1) (fun j => D.length - 128 * j.1) ⟨0, by omega⟩ ?_ ?_
       ·
        have hz := blks_z_w k S D
        have hDn : n + 1 + pz_w n + 16 = D.length - 128 * 0 := by omega
        dsimp only
        rw [hz]
        refine Weak.sel [0, 1, 2, 3, 4, 5, 6, 7 + 2] rfl rfl ?_ ?_ rfl rfl
        ·
         (repeat' (first | exact trivial | refine And.intro ?_ ?_ | fail)) <;> first | rfl | exact wk_sl rfl (by first | rfl | fail) (by first | exact hDn.symm | fail) | fail
        ·
         (repeat' (first | exact trivial | exact ren_eq (plainL_u8 _) hap3 | refine And.intro ?_ ?_ | (refine wk_cons ?_ ?_))) <;> first | rfl | exact ren_eq (by first | (simp; done) | fail) (by first | rfl | fail) | fail
       ·
        rintro ⟨j, hj⟩
        dsimp only
        have hbl := blks_len_w k hsl D j
        by_cases hc : 128 * (j + 1) ≤ D.length
        ·
         have hge : decide (((D.length - 128 * j : Nat) : Int) > 0) = true := by simp; omega
         have hs := blks_s_w k S D j
         have q140 := f140D (blks_w k S D j) k D (128 * j) hbl hk (by omega) false
         rw [← hs] at q140
         conv => whnf
         first | refine brT (by exact hge) ?_ | fail
         conv => whnf
         repeat (first | (refine Exists.intro _ (And.intro rfl ?_); conv => whnf) | (refine And.intro (by first | omega | fail) ?_; conv => whnf) | fail)
         refine ok1_callF [0, 1, 2, 7] [false, true, false, false] true (q140) rfl rfl ⟨⟨rfl, by first | rfl | fail⟩, by (repeat' (first | exact trivial | refine And.intro ?_ ?_)) <;> first | rfl | exact ren_eq (by first | (simp; done) | fail) (by first | rfl | fail) | fail, by first | simp [plainHf, plainB], by first | rfl | fail, ?_⟩
         conv => whnf
         repeat (first | (refine Exists.intro _ (And.intro rfl ?_); conv => whnf) | (refine And.intro (by first | omega | fail) ?_; conv => whnf) | fail)
         refine ⟨⟨j + 1, hc⟩, by simp only; omega, ?_⟩
         dsimp only
         refine Weak.sel [0, 1, 2, 3, 4, 5, 6, 7] rfl rfl ?_ ?_ rfl rfl
         ·
          (repeat' (first | exact trivial | refine And.intro ?_ ?_ | fail)) <;> first | rfl | fail
         ·
          (repeat' (first | exact trivial | refine And.intro ?_ ?_ | (refine wk_cons ?_ ?_))) <;> first | rfl | exact ren_eq (by first | (simp; done) | fail) (by first | rfl | fail) | fail
        ·
         obtain rfl : j = D.length / 128 := by omega
         have hge : decide (((D.length - 128 * (D.length / 128) : Nat) : Int) > 0) = false := by simp; omega
         obtain ⟨H, hH⟩ : ∃ H, H = blks_w k S D (D.length / 128) := ⟨_, rfl⟩
         rw [← hH] at hbl hfin ⊢
         conv => whnf
         first | refine brF (by exact hge) ?_ | fail
         conv => whnf
         repeat (first | (refine Exists.intro _ (And.intro rfl ?_); conv => whnf) | fail)
         refine SWp.weak (Weak.virt 12 5 1 rfl) ?_
         refine loop_rule ttOk mixed (by kernel_rfl) (ι := { i : Nat // i ≤ 8 }) (fun i => [(0, .p 0 0), (12, .sl 7 0 (8 * i.1) 1 false), (110, .sl 1 0 8 1 true), (111, .i 8), (112, .i (i.1 : Int))]) (fun i => [some (.ro (mach_w 1 2)), some (.row 25 (H.map .u64)), some (.ro (k.map .u64)), some (.ro [.sl 4 0 b0.length 1 f0, .slnil, .sl 5 0 b2.length 1 f2, .sl 6 0 b3.length 1 f3]), some (.ro (b0.map .u8)), some (.ro (b2.map .u8)), some (.ro (b3.map .u8)), some (.row 5 ((outl_w H (8 * i.1)).map .u8))]) (fun _ => 7 + 1) (fun i => 8 - i.1) ⟨0, by omega⟩ ?_ ?_
         ·
          have hz := outl_z_w H
          dsimp only
          rw [hz]
          refine Weak.sel [0, 1, 2, 3, 4, 5, 6, 7 + 1] rfl rfl ?_ ?_ rfl rfl
          ·
           (repeat' (first | exact trivial | refine And.intro ?_ ?_ | fail)) <;> first | rfl | fail
          ·
           (repeat' (first | exact trivial | refine And.intro ?_ ?_ | (refine wk_cons ?_ ?_))) <;> first | rfl | exact ren_eq (by first | (simp; done) | fail) (by first | rfl | fail) | fail
         ·
          rintro ⟨i, hi⟩
          dsimp only
          by_cases hi8 : i < 8
          ·
           have hlt : decide ((i : Int) < 8) = true := by simp; omega
           have hp := wp1i i (by omega)
           conv => whnf
           first | refine brT (by exact hlt) ?_ | fail
           conv => whnf
           repeat (first | (refine Exists.intro _ (And.intro (sload_u64 (i := i) (by first | rfl | omega | fail) (by first | omega | fail)) ?_); conv => whnf) | (refine Exists.intro _ (And.intro (idx_i (m := i) (by first | rfl | fail)) ?_); conv => whnf) | (refine Exists.intro _ (And.intro rfl ?_); conv => whnf) | (refine And.intro (by first | omega | fail) ?_; conv => whnf) | fail)
           refine loop_rule ttOk mixed (by kernel_rfl) (ι := { m : Nat // m ≤ 8 }) (fun m => [(0, .p 0 0), (12, .sl 7 0 (8 * i + m.1) 1 false), (14, .u64 (H.getD i 0)), (15, .i (7 - (m.1 : Int))), (110, .sl 1 0 8 1 true), (111, .i 8), (112, .i (i : Int))]) (fun m => [some (.ro (mach_w 1 2)), some (.row 25 (H.map .u64)), some (.ro (k.map .u64)), some (.ro [.sl 4 0 b0.length 1 f0, .slnil, .sl 5 0 b2.length 1 f2, .sl 6 0 b3.length 1 f3]), some (.ro (b0.map .u8)), some (.ro (b2.map .u8)), some (.ro (b3.map .u8)), some (.row 5 ((outl_w H (8 * i + m.1)).map .u8))]) (fun _ => 7 + 1) (fun m => 8 - m.1) ⟨0, by omega⟩ ?_ ?_
           ·
            refine Weak.sel [0, 1, 2, 3, 4, 5, 6, 7] rfl rfl ?_ ?_ rfl rfl
            ·
             (repeat' (first | exact trivial | refine And.intro ?_ ?_ | fail)) <;> first | rfl | fail
            ·
             (repeat' (first | exact trivial | refine And.intro ?_ ?_ | (refine wk_cons ?_ ?_))) <;> first | rfl | exact ren_eq (by first | (simp; done) | fail) (by first | rfl | fail) | fail
           ·
            rintro ⟨m, hm⟩
            dsimp only
            have hol := outl_len_w H (8 * i + m)
            by_cases hm8 : m < 8
            ·
             have hge : decide ((7 - (m : Int)) ≥ 0) = true := by simp; omega
             have h8 : w64 (8 * (7 - (m : Int))) = ((8 * (7 - m) : Nat) : Int) := by simp only [w64_eq]; omega
             have hp2 : w64 (7 - (m : Int) - 1) = 7 - ((m + 1 : Nat) : Int) := by simp only [w64_eq]; omega
             have hs := outl_s_w H i m hm8
             obtain ⟨Z, hZ⟩ : ∃ Z, Z = outl_w H (8 * i + m) := ⟨_, rfl⟩
             rw [← hZ] at hol hs ⊢
             have hap4 : (Z ++ [(shr64 (H.getD i 0) (8 * (7 - m))).toUInt8]).map SV.u8 = List.take ((8 * i + m) * 1) (List.drop 0 (Z.map SV.u8)) ++ List.take (1 * 1) (List.drop 0 [SV.u8 (shr64 (H.getD i 0) (8 * (7 - m))).toUInt8]) := (cat8w (o := 0) (n := 8 * i + m) (E := Z) (b := [(shr64 (H.getD i 0) (8 * (7 - m))).toUInt8]) (by omega) rfl).symm
             conv => whnf
             first | refine brT (by exact hge) ?_ | fail
             conv => whnf
             repeat (fail)
             refine ⟨_, mshr_64 h8, ?_⟩
             conv => whnf
             repeat (first | (refine Exists.intro _ (And.intro rfl ?_); conv => whnf) | (refine And.intro (by first | omega | (simp [ti5]; omega)) ?_; conv => whnf) | fail)
             refine ⟨⟨m + 1, by omega⟩, by simp only; omega, ?_⟩
             dsimp only
             rw [hs]
             refine Weak.sel [0, 1, 2, 3, 4, 5, 6, 7 + 2] rfl rfl ?_ ?_ rfl rfl
             ·
              (repeat' (first | exact trivial | refine And.intro ?_ ?_ | fail)) <;> first | exact wk_i (by first | exact hp2 | exact hp2.symm | fail) | rfl | fail
             ·
              (repeat' (first | exact trivial | exact ren_eq (plainL_u8 _) hap4 | refine And.intro ?_ ?_ | (refine wk_cons ?_ ?_))) <;> first | rfl | exact ren_eq (by first | (simp; done) | fail) (by first | rfl | fail) | fail
            ·
             obtain rfl : m = 8 := by omega
             conv => whnf
             first | refine brF (by rfl) ?_ | fail
             conv => whnf
             repeat (fail)
             refine ⟨⟨i + 1, by omega⟩, by simp only; omega, ?_⟩
             dsimp only
             rw [show 8 * (i + 1) = 8 * i + 8 by omega]
             refine Weak.sel [0, 1, 2, 3, 4, 5, 6, 7] rfl rfl ?_ ?_ rfl rfl
             ·
              (repeat' (first | exact trivial | refine And.intro ?_ ?_ | fail)) <;> first | exact wk_i (by first | exact hp | exact hp.symm | fail) | rfl | fail
             ·
              (repeat' (first | exact trivial | refine And.intro ?_ ?_ | (refine wk_cons ?_ ?_))) <;> first | rfl | exact ren_eq (by first | (simp; done) | fail) (by first | rfl | fail) | fail
          ·
           obtain rfl : i = 8 := by omega
           rw [outb_e_w] at hfin
           rw [← hfin]
           conv => whnf
           first | refine brF (by rfl) ?_ | fail
           conv => whnf
           refine ⟨[0, 1, 2, 3, 4, 5, 6, 7], ?_, rfl, rfl, ?_, rfl⟩
           ·
            (repeat' (fail)) <;> first | rfl | fail
           ·
            (repeat' (first | exact trivial | refine And.intro ?_ ?_ | (refine wk_cons ?_ ?_))) <;> first | rfl | exact ren_eq (by first | (simp; done) | fail) (by first | rfl | fail) | fail
end Go.Sh
namespace Go.Sh
open Go.Proofs
set_option maxHeartbeats 4000000
attribute [local irreducible] comp_w
attribute [local irreducible] blks_w st_w rest_w hash_w pz_w outl_w outb_w lset_w last_w
theorem f104_bbbb (h k : List UInt64) (hh : h.length = 8) (hk : k.length = 80) (b0 b1 b2 b3 : List UInt8) (hb0 : b0.length < 100000000000000) (hb1 : b1.length < 100000000000000) (hb2 : b2.length < 100000000000000) (hb3 : b3.length < 100000000000000) (f0 f1 f2 f3 fl : Bool) : SCall Try.prog 104 [.p 0 0, .sl 3 0 4 1 fl] [some (.ro (mach_w 1 2)), some (.row 25 (h.map .u64)), some (.ro (k.map .u64)), some (.ro [.sl 4 0 b0.length 1 f0, .sl 5 0 b1.length 1 f1, .sl 6 0 b2.length 1 f2, .sl 7 0 b3.length 1 f3]), some (.ro (b0.map .u8)), some (.ro (b1.map .u8)), some (.ro (b2.map .u8)), some (.ro (b3.map .u8))] (.sl 8 0 64 1 false) [some (.ro (mach_w 1 2)), none, some (.ro (k.map .u64)), some (.ro [.sl 4 0 b0.length 1 f0, .sl 5 0 b1.length 1 f1, .sl 6 0 b2.length 1 f2, .sl 7 0 b3.length 1 f3]), some (.ro (b0.map .u8)), some (.ro (b1.map .u8)), some (.ro (b2.map .u8)), some (.ro (b3.map .u8)), some (.row 5 ((hash_w k h (b0 ++ b1 ++ b2 ++ b3)).map .u8))] := by
 obtain ⟨tx, htx⟩ : ∃ tx : Nat → List UInt8, tx = fun i => ([b0, b1, b2, b3].take i).flatten := ⟨_, rfl⟩
 have tx0 : tx 0 = [] := by rw [htx]; rfl
 have tx1 : tx 1 = tx 0 ++ b0 := by rw [htx]; simp
 have tx2 : tx 2 = tx 1 ++ b1 := by rw [htx]; simp
 have tx3 : tx 3 = tx 2 ++ b2 := by rw [htx]; simp
 have tx4 : tx 4 = tx 3 ++ b3 := by rw [htx]; simp
 have htp : tx 4 = b0 ++ b1 ++ b2 ++ b3 := by rw [htx]; simp
 have he : hash_w k h (b0 ++ b1 ++ b2 ++ b3) = hash_w k h (tx 4) := by rw [htp]
 rw [he]
 have hl0 : (tx 0).length = 0 := by rw [tx0]; rfl
 have hl1 : (tx 1).length = (tx 0).length + b0.length := by rw [tx1, List.length_append]
 have hl2 : (tx 2).length = (tx 1).length + b1.length := by rw [tx2, List.length_append]
 have hl3 : (tx 3).length = (tx 2).length + b2.length := by rw [tx3, List.length_append]
 have hl4 : (tx 4).length = (tx 3).length + b3.length := by rw [tx4, List.length_append]
 clear htx
 refine scall_of ttOk (by kernel_rfl : Try.prog.funcs[104]? = some Try.f104) rfl rfl rfl ?_
 try simp only [List.length_cons, List.length_nil, Nat.zero_add, Nat.reduceAdd]
 refine sw_ok ttOk mixed (by kernel_rfl) ?_
 conv => whnf
 repeat (first | (refine Exists.intro _ (And.intro rfl ?_); conv => whnf) | fail)
 refine SWp.weak (Weak.virt 6 5 1 rfl) ?_
 refine loop_rule ttOk mixed (by kernel_rfl) (ι := { x : Nat × List UInt8 × Nat // x.1 ≤ 4 ∧ x.2.2 ≤ x.2.1.length ∧ x.2.1.drop x.2.2 = rest_w (tx x.1) }) (fun x => [(0, .p 0 0), (5, .i 128), (6, .sl 8 x.1.2.2 (x.1.2.1.length - x.1.2.2) 1 false), (7, .u64 (UInt64.ofNat (tx x.1.1).length)), (21, .sl 3 0 4 1 fl), (22, .i 4), (23, .i (x.1.1 : Int))]) (fun x => [some (.ro (mach_w 1 2)), some (.row 25 ((st_w k h (tx x.1.1)).map .u64)), some (.ro (k.map .u64)), some (.ro [.sl 4 0 b0.length 1 f0, .sl 5 0 b1.length 1 f1, .sl 6 0 b2.length 1 f2, .sl 7 0 b3.length 1 f3]), some (.ro (b0.map .u8)), some (.ro (b1.map .u8)), some (.ro (b2.map .u8)), some (.ro (b3.map .u8)), some (.row 5 (x.1.2.1.map .u8))]) (fun _ => 9) (fun x => 4 - x.1.1) ⟨(0, [], 0), by omega, by simp, by rw [tx0]; exact rest_nil_w.symm⟩ ?_ ?_
 ·
  dsimp only
  rw [tx0, st_nil_w]
  refine Weak.sel [0, 1, 2, 3, 4, 5, 6, 7, 8] rfl rfl ?_ ?_ rfl rfl
  ·
   (repeat' (first | exact trivial | refine And.intro ?_ ?_ | fail)) <;> first | rfl | fail
  ·
   (repeat' (first | exact trivial | refine And.intro ?_ ?_ | (refine wk_cons ?_ ?_))) <;> first | rfl | exact ren_eq (by first | (simp; done) | fail) (by first | rfl | fail) | fail
 ·
  rintro ⟨⟨i, E, o⟩, hi, ho, hE⟩
  dsimp only at hi ho hE ⊢
  have hsl := st_len_w k hh (tx i)
  have hrl := rest_len_w (tx i)
  obtain ⟨S, hS⟩ : ∃ S, S = st_w k h (tx i) := ⟨_, rfl⟩
  rw [← hS] at hsl ⊢
  have hEl : E.length - o = (rest_w (tx i)).length := by rw [← hE, List.length_drop]
  by_cases hi2 : i < 4
  ·
   have hic : i = 0 ∨ i = 1 ∨ i = 2 ∨ i = 3 := by omega
   rcases hic with rfl | rfl | rfl | rfl
   ·
    have hq := feed_st_w k h (tx 0) b0
    have hq2 := feed_rest_w (tx 0) b0
    rw [← hS] at hq
    rw [← tx1] at hq hq2
    rw [← hE] at hq hq2 hEl
    have hap : (E.drop o ++ b0).map SV.u8 = List.take ((E.length - o) * 1) (List.drop o (E.map SV.u8)) ++ List.take (b0.length * 1) (List.drop 0 (b0.map SV.u8)) := (cat8w rfl rfl).symm
    have hDl : (E.drop o ++ b0).length = E.length - o + b0.length := by rw [List.length_append, List.length_drop]
    have hel : E.length - o < 128 := by rw [← List.length_drop, hE, hrl]; omega
    have hul : UInt64.ofNat (tx 0).length + u64i (b0.length : Int) = UInt64.ofNat (tx 1).length := by rw [u64_add_i _ _ (by omega), tx1, List.length_append]
    clear hS hrl
    conv => whnf
    first | refine brT (by rfl) ?_ | fail
    conv => whnf
    repeat (first | (refine Exists.intro _ (And.intro rfl ?_); conv => whnf) | (refine And.intro (by first | omega | (simp [ti5]; omega)) ?_; conv => whnf) | fail)
    obtain ⟨D, hD⟩ : ∃ D, D = E.drop o ++ b0 := ⟨_, rfl⟩
    rw [← hD] at hq hq2 hap hDl
    refine loop_rule ttOk mixed (by kernel_rfl) (ι := { j : Nat // 128 * j ≤ D.length }) (fun j => [(0, .p 0 0), (5, .i 128), (6, .sl 8 (128 * j.1) (D.length - 128 * j.1) 1 false), (7, .u64 (UInt64.ofNat (tx 1).length)), (21, .sl 3 0 4 1 fl), (22, .i 4), (23, .i 0)]) (fun j => [some (.ro (mach_w 1 2)), some (.row 25 ((blks_w k S D j.1).map .u64)), some (.ro (k.map .u64)), some (.ro [.sl 4 0 b0.length 1 f0, .sl 5 0 b1.length 1 f1, .sl 6 0 b2.length 1 f2, .sl 7 0 b3.length 1 f3]), some (.ro (b0.map .u8)), some (.ro (b1.map .u8)), some (.ro (b2.map .u8)), some (.ro (b3.map .u8)), some (.row 5 (D.map .u8))]) (fun _ => 8 + 1) (fun j => D.length - 128 * j.1) ⟨0, by omega⟩ ?_ ?_
    ·
     have hz := blks_z_w k S D
     have hDn : E.length - o + b0.length = D.length - 128 * 0 := by omega
     dsimp only
     rw [hz]
     refine Weak.sel [0, 1, 2, 3, 4, 5, 6, 7, 9] rfl rfl ?_ ?_ rfl rfl
     ·
      (repeat' (first | exact trivial | refine And.intro ?_ ?_ | fail)) <;> first | exact wk_u64 (by first | exact hul | exact hul.symm | fail) | rfl | exact wk_sl rfl (by first | rfl | fail) (by first | exact hDn.symm | fail) | fail
     ·
      (repeat' (first | exact trivial | exact ren_eq (plainL_u8 _) hap | refine And.intro ?_ ?_ | (refine wk_cons ?_ ?_))) <;> first | rfl | exact ren_eq (by first | (simp; done) | fail) (by first | rfl | fail) | fail
    ·
     rintro ⟨j, hj⟩
     dsimp only
     have hbl := blks_len_w k hsl D j
     by_cases hc : 128 * (j + 1) ≤ D.length
     ·
      have hge : decide (((D.length - 128 * j : Nat) : Int) ≥ 128) = true := by simp; omega
      have hs := blks_s_w k S D j
      have q140 := f140D (blks_w k S D j) k D (128 * j) hbl hk (by omega) false
      rw [← hs] at q140
      conv => whnf
      first | refine brT (by exact hge) ?_ | fail
      conv => whnf
      repeat (first | (refine Exists.intro _ (And.intro rfl ?_); conv => whnf) | (refine And.intro (by first | omega | fail) ?_; conv => whnf) | fail)
      refine ok1_callF [0, 1, 2, 8] [false, true, false, false] true (q140) rfl rfl ⟨⟨rfl, by first | rfl | fail⟩, by (repeat' (first | exact trivial | refine And.intro ?_ ?_)) <;> first | rfl | exact ren_eq (by first | (simp; done) | fail) (by first | rfl | fail) | fail, by first | simp [plainHf, plainB], by first | rfl | fail, ?_⟩
      conv => whnf
      repeat (first | (refine Exists.intro _ (And.intro rfl ?_); conv => whnf) | (refine And.intro (by first | omega | fail) ?_; conv => whnf) | fail)
      refine ⟨⟨j + 1, hc⟩, by simp only; omega, ?_⟩
      dsimp only
      refine Weak.sel [0, 1, 2, 3, 4, 5, 6, 7, 8] rfl rfl ?_ ?_ rfl rfl
      ·
       (repeat' (first | exact trivial | refine And.intro ?_ ?_ | fail)) <;> first | rfl | fail
      ·
       (repeat' (first | exact trivial | refine And.intro ?_ ?_ | (refine wk_cons ?_ ?_))) <;> first | rfl | exact ren_eq (by first | (simp; done) | fail) (by first | rfl | fail) | fail
     ·
      obtain rfl : j = D.length / 128 := by omega
      have hge : decide (((D.length - 128 * (D.length / 128) : Nat) : Int) ≥ 128) = false := by simp; omega
      rw [hq]
      conv => whnf
      first | refine brF (by exact hge) ?_ | fail
      conv => whnf
      repeat (fail)
      refine ⟨⟨(1, D, 128 * (D.length / 128)), by omega, by simp only; omega, hq2⟩, by simp only; omega, ?_⟩
      dsimp only
      refine Weak.sel [0, 1, 2, 3, 4, 5, 6, 7, 8] rfl rfl ?_ ?_ rfl rfl
      ·
       (repeat' (first | exact trivial | refine And.intro ?_ ?_ | fail)) <;> first | rfl | fail
      ·
       (repeat' (first | exact trivial | refine And.intro ?_ ?_ | (refine wk_cons ?_ ?_))) <;> first | rfl | exact ren_eq (by first | (simp; done) | fail) (by first | rfl | fail) | fail
   ·
    have hq := feed_st_w k h (tx 1) b1
    have hq2 := feed_rest_w (tx 1) b1
    rw [← hS] at hq
    rw [← tx2] at hq hq2
    rw [← hE] at hq hq2 hEl
    have hap : (E.drop o ++ b1).map SV.u8 = List.take ((E.length - o) * 1) (List.drop o (E.map SV.u8)) ++ List.take (b1.length * 1) (List.drop 0 (b1.map SV.u8)) := (cat8w rfl rfl).symm
    have hDl : (E.drop o ++ b1).length = E.length - o + b1.length := by rw [List.length_append, List.length_drop]
    have hel : E.length - o < 128 := by rw [← List.length_drop, hE, hrl]; omega
    have hul : UInt64.ofNat (tx 1).length + u64i (b1.length : Int) = UInt64.ofNat (tx 2).length := by rw [u64_add_i _ _ (by omega), tx2, List.length_append]
    clear hS hrl
    conv => whnf
    first | refine brT (by rfl) ?_ | fail
    conv => whnf
    repeat (first | (refine Exists.intro _ (And.intro rfl ?_); conv => whnf) | (refine And.intro (by first | omega | (simp [ti5]; omega)) ?_; conv => whnf) | fail)
    obtain ⟨D, hD⟩ : ∃ D, D = E.drop o ++ b1 := ⟨_, rfl⟩
    rw [← hD] at hq hq2 hap hDl
    refine loop_rule ttOk mixed (by kernel_rfl) (ι := { j : Nat // 128 * j ≤ D.length }) (fun j => [(0, .p 0 0), (5, .i 128), (6, .sl 8 (128 * j.1) (D.length - 128 * j.1) 1 false), (7, .u64 (UInt64.ofNat (tx 2).length)), (21, .sl 3 0 4 1 fl), (22, .i 4), (23, .i 1)]) (fun j => [some (.ro (mach_w 1 2)), some (.row 25 ((blks_w k S D j.1).map .u64)), some (.ro (k.map .u64)), some (.ro [.sl 4 0 b0.length 1 f0, .sl 5 0 b1.length 1 f1, .sl 6 0 b2.length 1 f2, .sl 7 0 b3.length 1 f3]), some (.ro (b0.map .u8)), some (.ro (b1.map .u8)), some (.ro (b2.map .u8)), some (.ro (b3.map .u8)), some (.row 5 (D.map .u8))]) (fun _ => 8 + 1) (fun j => D.length - 128 * j.1) ⟨0, by omega⟩ ?_ ?_
    ·
     have hz := blks_z_w k S D
     have hDn : E.length - o + b1.length = D.length - 128 * 0 := by omega
     dsimp only
     rw [hz]
     refine Weak.sel [0, 1, 2, 3, 4, 5, 6, 7, 9] rfl rfl ?_ ?_ rfl rfl
     ·
      (repeat' (first | exact trivial | refine And.intro ?_ ?_ | fail)) <;> first | exact wk_u64 (by first | exact hul | exact hul.symm | fail) | rfl | exact wk_sl rfl (by first | rfl | fail) (by first | exact hDn.symm | fail) | fail
     ·
      (repeat' (first | exact trivial | exact ren_eq (plainL_u8 _) hap | refine And.intro ?_ ?_ | (refine wk_cons ?_ ?_))) <;> first | rfl | exact ren_eq (by first | (simp; done) | fail) (by first | rfl | fail) | fail
    ·
     rintro ⟨j, hj⟩
     dsimp only
     have hbl := blks_len_w k hsl D j
     by_cases hc : 128 * (j + 1) ≤ D.length
     ·
      have hge : decide (((D.length - 128 * j : Nat) : Int) ≥ 128) = true := by simp; omega
      have hs := blks_s_w k S D j
      have q140 := f140D (blks_w k S D j) k D (128 * j) hbl hk (by omega) false
      rw [← hs] at q140
      conv => whnf
      first | refine brT (by exact hge) ?_ | fail
      conv => whnf
      repeat (first | (refine Exists.intro _ (And.intro rfl ?_); conv => whnf) | (refine And.intro (by first | omega | fail) ?_; conv => whnf) | fail)
      refine ok1_callF [0, 1, 2, 8] [false, true, false, false] true (q140) rfl rfl ⟨⟨rfl, by first | rfl | fail⟩, by (repeat' (first | exact trivial | refine And.intro ?_ ?_)) <;> first | rfl | exact ren_eq (by first | (simp; done) | fail) (by first | rfl | fail) | fail, by first | simp [plainHf, plainB], by first | rfl | fail, ?_⟩
      conv => whnf
      repeat (first | (refine Exists.intro _ (And.intro rfl ?_); conv => whnf) | (refine And.intro (by first | omega | fail) ?_; conv => whnf) | fail)
      refine ⟨⟨j + 1, hc⟩, by simp only; omega, ?_⟩
      dsimp only
      refine Weak.sel [0, 1, 2, 3, 4, 5, 6, 7, 8] rfl rfl ?_ ?_ rfl rfl
      ·
       (repeat' (first | exact trivial | refine And.intro ?_ ?_ | fail)) <;> first | rfl | fail
      ·
       (repeat' (first | exact trivial | refine And.intro ?_ ?_ | (refine wk_cons ?_ ?_))) <;> first | rfl | exact ren_eq (by first | (simp; done) | fail) (by first | rfl | fail) | fail
     ·
      obtain rfl : j = D.length / 128 := by omega
      have hge : decide (((D.length - 128 * (D.length / 128) : Nat) : Int) ≥ 128) = false := by simp; omega
      rw [hq]
      conv => whnf
      first | refine brF (by exact hge) ?_ | fail
      conv => whnf
      repeat (fail)
      refine ⟨⟨(2, D, 128 * (D.length / 128)), by omega, by simp only; omega, hq2⟩, by simp only; omega, ?_⟩
      dsimp only
      refine Weak.sel [0, 1, 2, 3, 4, 5, 6, 7, 8] rfl rfl ?_ ?_ rfl rfl
      ·
       (repeat' (first | exact trivial | refine And.intro ?_ ?_ | fail)) <;> first | rfl | fail
      ·
       (repeat' (first | exact trivial | refine And.intro ?_ ?_ | (refine wk_cons ?_ ?_))) <;> first | rfl | exact ren_eq (by first | (simp; done) | fail) (by first | rfl | fail) | fail
   ·
    have hq := feed_st_w k h (tx 2) b2
    have hq2 := feed_rest_w (tx 2) b2
    rw [← hS] at hq
    rw [← tx3] at hq hq2
    rw [← hE] at hq hq2 hEl
    have hap : (E.drop o ++ b2).map SV.u8 = List.take ((E.length - o) * 1) (List.drop o (E.map SV.u8)) ++ List.take (b2.length * 1) (List.drop 0 (b2.map SV.u8)) := (cat8w rfl rfl).symm
    have hDl : (E.drop o ++ b2).length = E.length - o + b2.length := by rw [List.length_append, List.length_drop]
    have hel : E.length - o < 128 := by rw [← List.length_drop, hE, hrl]; omega
    have hul : UInt64.ofNat (tx 2).length + u64i (b2.length : Int) = UInt64.ofNat (tx 3).length := by rw [u64_add_i _ _ (by omega), tx3, List.length_append]
    clear hS hrl
    conv => whnf
    first | refine brT (by rfl) ?_ | fail
    conv => whnf
    repeat (first | (refine Exists.intro _ (And.intro rfl ?_); conv => whnf) | (refine And.intro (by first | omega | (simp [ti5]; omega)) ?_; conv => whnf) | fail)
    obtain ⟨D, hD⟩ : ∃ D, D = E.drop o ++ b2 := ⟨_, rfl⟩
    rw [← hD] at hq hq2 hap hDl
    refine loop_rule ttOk mixed (by kernel_rfl) (ι := { j : Nat // 128 * j ≤ D.length }) (fun j => [(0, .p 0 0), (5, .i 128), (6, .sl 8 (128 * j.1) (D.length - 128 * j.1) 1 false), (7, .u64 (UInt64.ofNat (tx 3).length)), (21, .sl 3 0 4 1 fl), (22, .i 4), (23, .i 2)]) (fun j => [some (.ro (mach_w 1 2)), some (.row 25 ((blks_w k S D j.1).map .u64)), some (.ro (k.map .u64)), some (.ro [.sl 4 0 b0.length 1 f0, .sl 5 0 b1.length 1 f1, .sl 6 0 b2.length 1 f2, .sl 7 0 b3.length 1 f3]), some (.ro (b0.map .u8)), some (.ro (b1.map .u8)), some (.ro (b2.map .u8)), some (.ro (b3.map .u8)), some (.row 5 (D.map .u8))]) (fun _ => 8 + 1) (fun j => D.length - 128 * j.1) ⟨0, by omega⟩ ?_ ?_
    ·
     have hz := blks_z_w k S D
     have hDn : E.length - o + b2.length = D.length - 128 * 0 := by omega
     dsimp only
     rw [hz]
     refine Weak.sel [0, 1, 2, 3, 4, 5, 6, 7, 9] rfl rfl ?_ ?_ rfl rfl
     ·
      (repeat' (first | exact trivial | refine And.intro ?_ ?_ | fail)) <;> first | exact wk_u64 (by first | exact hul | exact hul.symm | fail) | rfl | exact wk_sl rfl (by first | rfl | fail) (by first | exact hDn.symm | fail) | fail
     ·
      (repeat' (first | exact trivial | exact ren_eq (plainL_u8 _) hap | refine And.intro ?_ ?_ | (refine wk_cons ?_ ?_))) <;> first | rfl | exact ren_eq (by first | (simp; done) | fail) (by first | rfl | fail) | fail
    ·
     rintro ⟨j, hj⟩
     dsimp only
     have hbl := blks_len_w k hsl D j
     by_cases hc : 128 * (j + 1) ≤ D.length
     ·
      have hge : decide (((D.length - 128 * j : Nat) : Int) ≥ 128) = true := by simp; omega
      have hs := blks_s_w k S D j
      have q140 := f140D (blks_w k S D j) k D (128 * j) hbl hk (by omega) false
      rw [← hs] at q140
      conv => whnf
      first | refine brT (by exact hge) ?_ | fail
      conv => whnf
      repeat (first | (refine Exists.intro _ (And.intro rfl ?_); conv => whnf) | (refine And.intro (by first | omega | fail) ?_; conv => whnf) | fail)
      refine ok1_callF [0, 1, 2, 8] [false, true, false, false] true (q140) rfl rfl ⟨⟨rfl, by first | rfl | fail⟩, by (repeat' (first | exact trivial | refine And.intro ?_ ?_)) <;> first | rfl | exact ren_eq (by first | (simp; done) | fail) (by first | rfl | fail) | fail, by first | simp [plainHf, plainB], by first | rfl | fail, ?_⟩
      conv => whnf
      repeat (first | (refine Exists.intro _ (And.intro rfl ?_); conv => whnf) | (refine And.intro (by first | omega | fail) ?_; conv => whnf) | fail)
      refine ⟨⟨j + 1, hc⟩, by simp only; omega, ?_⟩
      dsimp only
      refine Weak.sel [0, 1, 2, 3, 4, 5, 6, 7, 8] rfl rfl ?_ ?_ rfl rfl
      ·
       (repeat' (first | exact trivial | refine And.intro ?_ ?_ | fail)) <;> first | rfl | fail
      ·
       (repeat' (first | exact trivial | refine And.intro ?_ ?_ | (refine wk_cons ?_ ?_))) <;> first | rfl | exact ren_eq (by first | (simp; done) | fail) (by first | rfl | fail) | fail
     ·
      obtain rfl : j = D.length / 128 := by omega
      have hge : decide (((D.length - 128 * (D.length / 128) : Nat) : Int) ≥ 128) = false := by simp; omega
      rw [hq]
      conv => whnf
      first | refine brF (by exact hge) ?_ | fail
      conv => whnf
      repeat (fail)
      refine ⟨⟨(3, D, 128 * (D.length / 128)), by omega, by simp only; omega, hq2⟩, by simp only; omega, ?_⟩
      dsimp only
      refine Weak.sel [0, 1, 2, 3, 4, 5, 6, 7, 8] rfl rfl ?_ ?_ rfl rfl
      ·
       (repeat' (first | exact trivial | refine And.intro ?_ ?_ | fail)) <;> first | rfl | fail
      ·
       (repeat' (first | exact trivial | refine And.intro ?_ ?_ | (refine wk_cons ?_ ?_))) <;> first | rfl | exact ren_eq (by first | (simp; done) | fail) (by first | rfl | fail) | fail
   ·
    have hq := feed_st_w k h (tx 3) b3
    have hq2 := feed_rest_w (tx 3) b3
    rw [← hS] at hq
    rw [← tx4] at hq hq2
    rw [← hE] at hq hq2 hEl
    have hap : (E.drop o ++ b3).map SV.u8 = List.take ((E.length - o) * 1) (List.drop o (E.map SV.u8)) ++ List.take (b3.length * 1) (List.drop 0 (b3.map SV.u8)) := (cat8w rfl rfl).symm
    have hDl : (E.drop o ++ b3).length = E.length - o + b3.length := by rw [List.length_append, List.length_drop]
    have hel : E.length - o < 128 := by rw [← List.length_drop, hE, hrl]; omega
    have hul : UInt64.ofNat (tx 3).length + u64i (b3.length : Int) = UInt64.ofNat (tx 4).length := by rw [u64_add_i _ _ (by omega), tx4, List.length_append]
    clear hS hrl
    conv => whnf
    first | refine brT (by rfl) ?_ | fail
    conv => whnf
    repeat (first | (refine Exists.intro _ (And.intro rfl ?_); conv => whnf) | (refine And.intro (by first | omega | (simp [ti5]; omega)) ?_; conv => whnf) | fail)
    obtain ⟨D, hD⟩ : ∃ D, D = E.drop o ++ b3 := ⟨_, rfl⟩
    rw [← hD] at hq hq2 hap hDl
    refine loop_rule ttOk mixed (by kernel_rfl) (ι := { j : Nat // 128 * j ≤ D.length }) (fun j => [(0, .p 0 0), (5, .i 128), (6, .sl 8 (128 * j.1) (D.length - 128 * j.1) 1 false), (7, .u64 (UInt64.ofNat (tx 4).length)), (21, .sl 3 0 4 1 fl), (22, .i 4), (23, .i 3)]) (fun j => [some (.ro (mach_w 1 2)), some (.row 25 ((blks_w k S D j.1).map .u64)), some (.ro (k.map .u64)), some (.ro [.sl 4 0 b0.length 1 f0, .sl 5 0 b1.length 1 f1, .sl 6 0 b2.length 1 f2, .sl 7 0 b3.length 1 f3]), some (.ro (b0.map .u8)), some (.ro (b1.map .u8)), some (.ro (b2.map .u8)), some (.ro (b3.map .u8)), some (.row 5 (D.map .u8))]) (fun _ => 8 + 1) (fun j => D.length - 128 * j.1) ⟨0, by omega⟩ ?_ ?_
    ·
     have hz := blks_z_w k S D
     have hDn : E.length - o + b3.length = D.length - 128 * 0 := by omega
     dsimp only
     rw [hz]
     refine Weak.sel [0, 1, 2, 3, 4, 5, 6, 7, 9] rfl rfl ?_ ?_ rfl rfl
     ·
      (repeat' (first | exact trivial | refine And.intro ?_ ?_ | fail)) <;> first | exact wk_u64 (by first | exact hul | exact hul.symm | fail) | rfl | exact wk_sl rfl (by first | rfl | fail) (by first | exact hDn.symm | fail) | fail
     ·
      (repeat' (first | exact trivial | exact ren_eq (plainL_u8 _) hap | refine And.intro ?_ ?_ | (refine wk_cons ?_ ?_))) <;> first | rfl | exact ren_eq (by first | (simp; done) | fail) (by first | rfl | fail) | fail
    ·
     rintro ⟨j, hj⟩
     dsimp only
     have hbl := blks_len_w k hsl D j
     by_cases hc : 128 * (j + 1) ≤ D.length
     ·
      have hge : decide (((D.length - 128 * j : Nat) : Int) ≥ 128) = true := by simp; omega
      have hs := blks_s_w k S D j
      have q140 := f140D (blks_w k S D j) k D (128 * j) hbl hk (by omega) false
      rw [← hs] at q140
      conv => whnf
      first | refine brT (by exact hge) ?_ | fail
      conv => whnf
      repeat (first | (refine Exists.intro _ (And.intro rfl ?_); conv => whnf) | (refine And.intro (by first | omega | fail) ?_; conv => whnf) | fail)
      refine ok1_callF [0, 1, 2, 8] [false, true, false, false] true (q140) rfl rfl ⟨⟨rfl, by first | rfl | fail⟩, by (repeat' (first | exact trivial | refine And.intro ?_ ?_)) <;> first | rfl | exact ren_eq (by first | (simp; done) | fail) (by first | rfl | fail) | fail, by first | simp [plainHf, plainB], by first | rfl | fail, ?_⟩
      conv => whnf
      repeat (first | (refine Exists.intro _ (And.intro rfl ?_); conv => whnf) | (refine And.intro (by first | omega | fail) ?_; conv => whnf) | fail)
      refine ⟨⟨j + 1, hc⟩, by simp only; omega, ?_⟩
      dsimp only
      refine Weak.sel [0, 1, 2, 3, 4, 5, 6, 7, 8] rfl rfl ?_ ?_ rfl rfl
      ·
       (repeat' (first | exact trivial | refine And.intro ?_ ?_ | fail)) <;> first | rfl | fail
      ·
       (repeat' (first | exact trivial | refine And.intro ?_ ?_ | (refine wk_cons ?_ ?_))) <;> first | rfl | exact ren_eq (by first | (simp; done) | fail) (by first | rfl | fail) | fail
     ·
      obtain rfl : j = D.length / 128 := by omega
      have hge : decide (((D.length - 128 * (D.length / 128) : Nat) : Int) ≥ 128) = false := by simp; omega
      rw [hq]
      conv => whnf
      first | refine brF (by exact hge) ?_ | fail
      conv => whnf
      repeat (fail)
      refine ⟨⟨(4, D, 128 * (D.length / 128)), by omega, by simp only; omega, hq2⟩, by simp only; omega, ?_⟩
      dsimp only
      refine Weak.sel [0, 1, 2, 3, 4, 5, 6, 7, 8] rfl rfl ?_ ?_ rfl rfl
      ·
       (repeat' (first | exact trivial | refine And.intro ?_ ?_ | fail)) <;> first | rfl | fail
      ·
       (repeat' (first | exact trivial | refine And.intro ?_ ?_ | (refine wk_cons ?_ ?_))) <;> first | rfl | exact ren_eq (by first | (simp; done) | fail) (by first | rfl | fail) | fail
  ·
   obtain rfl : i = 4 := by omega
   obtain ⟨n, hn⟩ : ∃ n, n = E.length - o := ⟨_, rfl⟩
   have hnE : o + n = E.length := by omega
   rw [← hn]
   have hcat : (rest_w (tx 4) ++ [128]).map SV.u8 = List.take (n * 1) (List.drop o (E.map SV.u8)) ++ List.take (1 * 1) (List.drop 0 [SV.u8 128]) := by rw [← hE]; exact (cat8w (b := [128]) hn rfl).symm
   have hdd : decide (((n : Nat) : Int).toNat = ((n : Nat) : Int).toNat) = true := by simp
   conv => whnf
   first | refine brF (by rfl) ?_ | fail
   conv => whnf
   repeat (first | (refine Exists.intro _ (And.intro rfl ?_); conv => whnf) | (refine And.intro (by first | omega | fail) ?_; conv => whnf) | fail)
   rw [hdd]
   rw [Int.toNat_natCast]
   have hnl : n = (rest_w (tx 4)).length := by rw [hn, ← hE, List.length_drop]
   have hn64 : n < 128 := by rw [hnl, hrl]; omega
   have hpz := pz_rest_w (tx 4)
   rw [← hnl] at hpz
   have hpl : pz_w n < 128 := by unfold pz_w; exact Nat.mod_lt _ (by decide)
   conv => whnf
   refine And.intro ⟨by show _ ≤ (E.map SV.u8).length; rw [List.length_map]; omega, by decide, by show _ * 1 ≤ _; omega, by decide⟩ ?_
   conv => whnf
   repeat (fail)
   refine loop_rule ttOk mixed (by kernel_rfl) (ι := { j : Nat // j ≤ pz_w n }) (fun j => [(0, .p 0 0), (5, .i 128), (6, .sl 8 0 (n + 1 + j.1) 1 false), (7, .u64 (UInt64.ofNat (tx 4).length))]) (fun j => [some (.ro (mach_w 1 2)), some (.row 25 (S.map .u64)), some (.ro (k.map .u64)), some (.ro [.sl 4 0 b0.length 1 f0, .sl 5 0 b1.length 1 f1, .sl 6 0 b2.length 1 f2, .sl 7 0 b3.length 1 f3]), some (.ro (b0.map .u8)), some (.ro (b1.map .u8)), some (.ro (b2.map .u8)), some (.ro (b3.map .u8)), some (.row 5 ((rest_w (tx 4) ++ [128] ++ List.replicate j.1 0).map .u8))]) (fun _ => 8 + 1) (fun j => pz_w n - j.1) ⟨0, by omega⟩ ?_ ?_
   ·
    have hz : rest_w (tx 4) ++ [128] ++ List.replicate 0 0 = rest_w (tx 4) ++ [128] := List.append_nil _
    dsimp only
    rw [hz]
    refine Weak.sel [0, 1, 2, 3, 4, 5, 6, 7, 8 + 2] rfl rfl ?_ ?_ rfl rfl
    ·
     (repeat' (first | exact trivial | refine And.intro ?_ ?_ | fail)) <;> first | rfl | fail
    ·
     (repeat' (first | exact trivial | exact ren_eq (plainL_u8 _) hcat | refine And.intro ?_ ?_ | (refine wk_cons ?_ ?_))) <;> first | rfl | exact ren_eq (by first | (simp; done) | fail) (by first | rfl | fail) | fail
   ·
    rintro ⟨j, hj⟩
    dsimp only
    obtain ⟨Y, hY⟩ : ∃ Y, Y = rest_w (tx 4) ++ [128] ++ List.replicate j 0 := ⟨_, rfl⟩
    have hYl : Y.length = n + 1 + j := by rw [hY, List.length_append, List.length_append, ← hnl, List.length_replicate]; rfl
    have hYs : rest_w (tx 4) ++ [128] ++ List.replicate (j + 1) 0 = Y ++ [0] := by rw [hY, List.replicate_succ', List.append_assoc]; simp
    by_cases hj2 : j < pz_w n
    ·
     have hno := padz_no_w hj2
     have hcd : (((w64 (((n + 1 + j : Nat) : Int) + w64 (2 * 8))).tmod 128) != 0) = true := by
      have e : w64 (((n + 1 + j : Nat) : Int) + w64 (2 * 8)) = ((n + 1 + j + 16 : Nat) : Int) := by simp only [w64_eq]; omega
      rw [e, show (((n + 1 + j + 16 : Nat) : Int)).tmod 128 = (((n + 1 + j + 16) % 128 : Nat) : Int) from rfl]
      simp; omega
     rw [← hY]
     conv => whnf
     repeat (first | (refine Exists.intro _ (And.intro rfl ?_); conv => whnf) | fail)
     first | refine brT (by exact hcd) ?_ | fail
     conv => whnf
     repeat (first | (refine Exists.intro _ (And.intro rfl ?_); conv => whnf) | (refine And.intro (by first | omega | (simp [ti5]; omega)) ?_; conv => whnf) | fail)
     have hap2 : (Y ++ [0]).map SV.u8 = List.take ((n + 1 + j) * 1) (List.drop 0 (Y.map SV.u8)) ++ List.take (1 * 1) (List.drop 0 [SV.u8 0]) := (cat8w (o := 0) (n := n + 1 + j) (E := Y) (b := [0]) (by omega) rfl).symm
     refine ⟨⟨j + 1, by omega⟩, by simp only; omega, ?_⟩
     dsimp only
     rw [hYs]
     refine Weak.sel [0, 1, 2, 3, 4, 5, 6, 7, 8 + 2] rfl rfl ?_ ?_ rfl rfl
     ·
      (repeat' (first | exact trivial | refine And.intro ?_ ?_ | fail)) <;> first | rfl | fail
     ·
      (repeat' (first | exact trivial | exact ren_eq (plainL_u8 _) hap2 | refine And.intro ?_ ?_ | (refine wk_cons ?_ ?_))) <;> first | rfl | exact ren_eq (by first | (simp; done) | fail) (by first | rfl | fail) | fail
    ·
     obtain rfl : j = pz_w n := by omega
     have hyes := padz_yes_w n
     have hcd : (((w64 (((n + 1 + pz_w n : Nat) : Int) + w64 (2 * 8))).tmod 128) != 0) = false := by
      have e : w64 (((n + 1 + pz_w n : Nat) : Int) + w64 (2 * 8)) = ((n + 1 + pz_w n + 16 : Nat) : Int) := by simp only [w64_eq]; omega
      rw [e, show (((n + 1 + pz_w n + 16 : Nat) : Int)).tmod 128 = (((n + 1 + pz_w n + 16) % 128 : Nat) : Int) from rfl, hyes]
      rfl
     rw [← hY]
     conv => whnf
     repeat (first | (refine Exists.intro _ (And.intro rfl ?_); conv => whnf) | fail)
     first | refine brF (by exact hcd) ?_ | fail
     conv => whnf
     repeat (first | (refine Exists.intro _ (And.intro rfl ?_); conv => whnf) | (refine And.intro ⟨by first | decide | fail, by first | decide | fail⟩ ?_; conv => whnf) | fail)
     obtain ⟨N, hN⟩ : ∃ N, N = (tx 4).length := ⟨_, rfl⟩
     rw [← hN]
     refine loop_rule ttOk mixed (by kernel_rfl) (ι := { i : Nat // i ≤ 8 }) (fun i => [(0, .p 0 0), (5, .i 128), (6, .sl 8 0 (n + 1 + pz_w n) 1 false), (7, .u64 (UInt64.ofNat N)), (10, .sl (8 + 1) 0 16 1 true), (76, .i (i.1 : Int))]) (fun i => [some (.ro (mach_w 1 2)), some (.row 25 (S.map .u64)), some (.ro (k.map .u64)), some (.ro [.sl 4 0 b0.length 1 f0, .sl 5 0 b1.length 1 f1, .sl 6 0 b2.length 1 f2, .sl 7 0 b3.length 1 f3]), some (.ro (b0.map .u8)), some (.ro (b1.map .u8)), some (.ro (b2.map .u8)), some (.ro (b3.map .u8)), some (.row 5 (Y.map .u8)), some (.row 5 ((lset_w N i.1).map .u8))]) (fun _ => 8 + 2) (fun i => 8 - i.1) ⟨0, by omega⟩ ?_ ?_
     ·
      have hz := lset_z_w N
      dsimp only
      rw [hz]
      refine Weak.sel [0, 1, 2, 3, 4, 5, 6, 7, 8, 8 + 1] rfl rfl ?_ ?_ rfl rfl
      ·
       (repeat' (first | exact trivial | refine And.intro ?_ ?_ | fail)) <;> first | rfl | fail
      ·
       (repeat' (first | exact trivial | exact ren_z8 | refine And.intro ?_ ?_ | (refine wk_cons ?_ ?_))) <;> first | rfl | exact ren_eq (by first | (simp; done) | fail) (by first | rfl | fail) | fail
     ·
      rintro ⟨i, hi⟩
      dsimp only
      have hll := lset_len_w N i
      by_cases hi8 : i < 8
      ·
       have hlt : decide ((i : Int) < 8) = true := by simp; omega
       have hp := wp1i i (by omega)
       have h8 : w64 (8 * (i : Int)) = ((8 * i : Nat) : Int) := by simp only [w64_eq]; omega
       have h7 : w64 (w64 (16 - 1) - (i : Int)) = ((15 - i : Nat) : Int) := by simp only [w64_eq]; omega
       have hs := lset_s_w N i
       conv => whnf
       first | refine brT (by exact hlt) ?_ | fail
       conv => whnf
       repeat (fail)
       refine ⟨_, mshr_64 h8, ?_⟩
       conv => whnf
       repeat (first | (refine Exists.intro _ (And.intro (sput_m8 (i := 15 - i) (by first | rfl | omega | fail)) ?_); conv => whnf) | (refine Exists.intro _ (And.intro (idx_i (m := 15 - i) (by first | rfl | omega | fail)) ?_); conv => whnf) | (refine And.intro (by first | omega | (simp; omega) | fail) ?_; conv => whnf) | fail)
       refine ⟨⟨i + 1, by omega⟩, by simp only; omega, ?_⟩
       dsimp only
       rw [hs]
       refine Weak.sel [0, 1, 2, 3, 4, 5, 6, 7, 8, 8 + 1] rfl rfl ?_ ?_ rfl rfl
       ·
        (repeat' (first | exact trivial | refine And.intro ?_ ?_ | fail)) <;> first | exact wk_i (by first | exact hp | exact hp.symm | fail) | rfl | fail
       ·
        (repeat' (first | exact trivial | refine And.intro ?_ ?_ | (refine wk_cons ?_ ?_))) <;> first | rfl | exact ren_eq (by first | (simp; done) | fail) (by first | rfl | fail) | exact ren_m8 (by first | rfl | fail) | fail
      ·
       obtain rfl : i = 8 := by omega
       have hap3 : (Y ++ lset_w N 8).map SV.u8 = List.take ((n + 1 + pz_w n) * 1) (List.drop 0 (Y.map SV.u8)) ++ List.take (16 * 1) (List.drop 0 ((lset_w N 8).map SV.u8)) := (cat8w (o := 0) (n := n + 1 + pz_w n) (E := Y) (b := lset_w N 8) (by omega) hll.symm).symm
       obtain ⟨D, hD⟩ : ∃ D, D = Y ++ lset_w N 8 := ⟨_, rfl⟩
       have hDl : D.length = n + 1 + pz_w n + 16 := by rw [hD, List.length_append, hYl, hll]
       have hDe : D = last_w (tx 4) := by rw [hD, hY, hpz, hN]; exact last_e_w _
       have hD64 := last_len_w (tx 4)
       have hfin := last_st_w k h (tx 4)
       rw [← hDe] at hD64 hfin
       rw [← hS] at hfin
       rw [← hD] at hap3
       conv => whnf
       first | refine brF (by rfl) ?_ | fail
       conv => whnf
       repeat (first | (refine And.intro (by first | omega | (simp [ti5]; omega)) ?_; conv => whnf) | fail)
       refine loop_rule ttOk mixed (by kernel_rfl) (ι := { j : Nat // 128 * j ≤ D.length }) (fun j => [(0, .p 0 0), (5, .i 128), (6, .sl 8 (128 * j.1) (D.length - 128 * j.1) 1 false)]) (fun j => [some (.ro (mach_w 1 2)), some (.row 25 ((blks_w k S D j.1).map .u64)), some (.ro (k.map .u64)), some (.ro [.sl 4 0 b0.length 1 f0, .sl 5 0 b1.length 1 f1, .sl 6 0 b2.length 1 f2, .sl 7 0 b3.length 1 f3]), some (.ro (b0.map .u8)), some (.ro (b1.map .u8)), some (.ro (b2.map .u8)), some (.ro (b3.map .u8)), some (.row 5 (D.map .u8))]) (fun _ => 8 + 1) (fun j => D.length - 128 * j.1) ⟨0, by omega⟩ ?_ ?_
       ·
        have hz := blks_z_w k S D
        have hDn : n + 1 + pz_w n + 16 = D.length - 128 * 0 := by omega
        dsimp only
        rw [hz]
        refine Weak.sel [0, 1, 2, 3, 4, 5, 6, 7, 8 + 2] rfl rfl ?_ ?_ rfl rfl
        ·
         (repeat' (first | exact trivial | refine And.intro ?_ ?_ | fail)) <;> first | rfl | exact wk_sl rfl (by first | rfl | fail) (by first | exact hDn.symm | fail) | fail
        ·
         (repeat' (first | exact trivial | exact ren_eq (plainL_u8 _) hap3 | refine And.intro ?_ ?_ | (refine wk_cons ?_ ?_))) <;> first | rfl | exact ren_eq (by first | (simp; done) | fail) (by first | rfl | fail) | fail
       ·
        rintro ⟨j, hj⟩
        dsimp only
        have hbl := blks_len_w k hsl D j
        by_cases hc : 128 * (j + 1) ≤ D.length
        ·
         have hge : decide (((D.length - 128 * j : Nat) : Int) > 0) = true := by simp; omega
         have hs := blks_s_w k S D j
         have q140 := f140D (blks_w k S D j) k D (128 * j) hbl hk (by omega) false
         rw [← hs] at q140
         conv => whnf
         first | refine brT (by exact hge) ?_ | fail
         conv => whnf
         repeat (first | (refine Exists.intro _ (And.intro rfl ?_); conv => whnf) | (refine And.intro (by first | omega | fail) ?_; conv => whnf) | fail)
         refine ok1_callF [0, 1, 2, 8] [false, true, false, false] true (q140) rfl rfl ⟨⟨rfl, by first | rfl | fail⟩, by (repeat' (first | exact trivial | refine And.intro ?_ ?_)) <;> first | rfl | exact ren_eq (by first | (simp; done) | fail) (by first | rfl | fail) | fail, by first | simp [plainHf, plainB], by first | rfl | fail, ?_⟩
         conv => whnf
         repeat (first | (refine Exists.intro _ (And.intro rfl ?_); conv => whnf) | (refine And.intro (by first | omega | fail) ?_; conv => whnf) | fail)
         refine ⟨⟨j + 1, hc⟩, by simp only; omega, ?_⟩
         dsimp only
         refine Weak.sel [0, 1, 2, 3, 4, 5, 6, 7, 8] rfl rfl ?_ ?_ rfl rfl
         ·
          (repeat' (first | exact trivial | refine And.intro ?_ ?_ | fail)) <;> first | rfl | fail
         ·
          (repeat' (first | exact trivial | refine And.intro ?_ ?_ | (refine wk_cons ?_ ?_))) <;> first | rfl | exact ren_eq (by first | (simp; done) | fail) (by first | rfl | fail) | fail
        ·
         obtain rfl : j = D.length / 128 := by omega
         have hge : decide (((D.length - 128 * (D.length / 128) : Nat) : Int) > 0) = false := by simp; omega
         obtain ⟨H, hH⟩ : ∃ H, H = blks_w k S D (D.length / 128) := ⟨_, rfl⟩
         rw [← hH] at hbl hfin ⊢
         conv => whnf
         first | refine brF (by exact hge) ?_ | fail
         conv => whnf
         repeat (first | (refine Exists.intro _ (And.intro rfl ?_); conv => whnf) | fail)
         refine SWp.weak (Weak.virt 12 5 1 rfl) ?_
         refine loop_rule ttOk mixed (by kernel_rfl) (ι := { i : Nat // i ≤ 8 }) (fun i => [(0, .p 0 0), (12, .sl 8 0 (8 * i.1) 1 false), (110, .sl 1 0 8 1 true), (111, .i 8), (112, .i (i.1 : Int))]) (fun i => [some (.ro (mach_w 1 2)), some (.row 25 (H.map .u64)), some (.ro (k.map .u64)), some (.ro [.sl 4 0 b0.length 1 f0, .sl 5 0 b1.length 1 f1, .sl 6 0 b2.length 1 f2, .sl 7 0 b3.length 1 f3]), some (.ro (b0.map .u8)), some (.ro (b1.map .u8)), some (.ro (b2.map .u8)), some (.ro (b3.map .u8)), some (.row 5 ((outl_w H (8 * i.1)).map .u8))]) (fun _ => 8 + 1) (fun i => 8 - i.1) ⟨0, by omega⟩ ?_ ?_
         ·
          have hz := outl_z_w H
          dsimp only
          rw [hz]
          refine Weak.sel [0, 1, 2, 3, 4, 5, 6, 7, 8 + 1] rfl rfl ?_ ?_ rfl rfl
          ·
           (repeat' (first | exact trivial | refine And.intro ?_ ?_ | fail)) <;> first | rfl | fail
          ·
           (repeat' (first | exact trivial | refine And.intro ?_ ?_ | (refine wk_cons ?_ ?_))) <;> first | rfl | exact ren_eq (by first | (simp; done) | fail) (by first | rfl | fail) | fail
         ·
          rintro ⟨i, hi⟩
          dsimp only
          by_cases hi8 : i < 8
          ·
           have hlt : decide ((i : Int) < 8) = true := by simp; omega
           have hp := wp1i i (by omega)
           conv => whnf
           first | refine brT (by exact hlt) ?_ | fail
           conv => whnf
           repeat (first | (refine Exists.intro _ (And.intro (sload_u64 (i := i) (by first | rfl | omega | fail) (by first | omega | fail)) ?_); conv => whnf) | (refine Exists.intro _ (And.intro (idx_i (m := i) (by first | rfl | fail)) ?_); conv => whnf) | (refine Exists.intro _ (And.intro rfl ?_); conv => whnf) | (refine And.intro (by first | omega | fail) ?_; conv => whnf) | fail)
           refine loop_rule ttOk mixed (by kernel_rfl) (ι := { m : Nat // m ≤ 8 }) (fun m => [(0, .p 0 0), (12, .sl 8 0 (8 * i + m.1) 1 false), (14, .u64 (H.getD i 0)), (15, .i (7 - (m.1 : Int))), (110, .sl 1 0 8 1 true), (111, .i 8), (112, .i (i : Int))]) (fun m => [some (.ro (mach_w 1 2)), some (.row 25 (H.map .u64)), some (.ro (k.map .u64)), some (.ro [.sl 4 0 b0.length 1 f0, .sl 5 0 b1.length 1 f1, .sl 6 0 b2.length 1 f2, .sl 7 0 b3.length 1 f3]), some (.ro (b0.map .u8)), some (.ro (b1.map .u8)), some (.ro (b2.map .u8)), some (.ro (b3.map .u8)), some (.row 5 ((outl_w H (8 * i + m.1)).map .u8))]) (fun _ => 8 + 1) (fun m => 8 - m.1) ⟨0, by omega⟩ ?_ ?_
           ·
            refine Weak.sel [0, 1, 2, 3, 4, 5, 6, 7, 8] rfl rfl ?_ ?_ rfl rfl
            ·
             (repeat' (first | exact trivial | refine And.intro ?_ ?_ | fail)) <;> first | rfl | fail
            ·
             (repeat' (first | exact trivial | refine And.intro ?_ ?_ | (refine wk_cons ?_ ?_))) <;> first | rfl | exact ren_eq (by first | (simp; done) | fail) (by first | rfl | fail) | fail
           ·
            rintro ⟨m, hm⟩
            dsimp only
            have hol := outl_len_w H (8 * i + m)
            by_cases hm8 : m < 8
            ·
             have hge : decide ((7 - (m : Int)) ≥ 0) = true := by simp; omega
             have h8 : w64 (8 * (7 - (m : Int))) = ((8 * (7 - m) : Nat) : Int) := by simp only [w64_eq]; omega
             have hp2 : w64 (7 - (m : Int) - 1) = 7 - ((m + 1 : Nat) : Int) := by simp only [w64_eq]; omega
             have hs := outl_s_w H i m hm8
             obtain ⟨Z, hZ⟩ : ∃ Z, Z = outl_w H (8 * i + m) := ⟨_, rfl⟩
             rw [← hZ] at hol hs ⊢
             have hap4 : (Z ++ [(shr64 (H.getD i 0) (8 * (7 - m))).toUInt8]).map SV.u8 = List.take ((8 * i + m) * 1) (List.drop 0 (Z.map SV.u8)) ++ List.take (1 * 1) (List.drop 0 [SV.u8 (shr64 (H.getD i 0) (8 * (7 - m))).toUInt8]) := (cat8w (o := 0) (n := 8 * i + m) (E := Z) (b := [(shr64 (H.getD i 0) (8 * (7 - m))).toUInt8]) (by omega) rfl).symm
             conv => whnf
             first | refine brT (by exact hge) ?_ | fail
             conv => whnf
             repeat (fail)
             refine ⟨_, mshr_64 h8, ?_⟩
             conv => whnf
             repeat (first | (refine Exists.intro _ (And.intro rfl ?_); conv => whnf) | (refine And.intro (by first | omega | (simp [ti5]; omega)) ?_; conv => whnf) | fail)
             refine ⟨⟨m + 1, by omega⟩, by simp only; omega, ?_⟩
             dsimp only
             rw [hs]
             refine Weak.sel [0, 1, 2, 3, 4, 5, 6, 7, 8 + 2] rfl rfl ?_ ?_ rfl rfl
             ·
              (repeat' (first | exact trivial | refine And.intro ?_ ?_ | fail)) <;> first | exact wk_i (by first | exact hp2 | exact hp2.symm | fail) | rfl | fail
             ·
              (repeat' (first | exact trivial | exact ren_eq (plainL_u8 _) hap4 | refine And.intro ?_ ?_ | (refine wk_cons ?_ ?_))) <;> first | rfl | exact ren_eq (by first | (simp; done) | fail) (by first | rfl | fail) | fail
            ·
             obtain rfl : m = 8 := by omega
             conv => whnf
             first | refine brF (by rfl) ?_ | fail
             conv => whnf
             repeat (fail)
             refine ⟨⟨i + 1, by omega⟩, by simp only; omega, ?_⟩
             dsimp only
             rw [show 8 * (i + 1) = 8 * i + 8 by omega]
             refine Weak.sel [0, 1, 2, 3, 4, 5, 6, 7, 8] rfl rfl ?_ ?_ rfl rfl
             ·
              (repeat' (first | exact trivial | refine And.intro ?_ ?_ | fail)) <;> first | exact wk_i (by first | exact hp | exact hp.symm | fail) | rfl | fail
             ·
              (repeat' (first | exact trivial | refine And.intro ?_ ?_ | (refine wk_cons ?_ ?_))) <;> first | rfl | exact ren_eq (by first | (simp; done) | fail) (by first | rfl | fail) | fail
          ·
           obtain rfl : i = 8 := by omega
           rw [outb_e_w] at hfin
           rw [← hfin]
           conv => whnf
           first | refine brF (by rfl) ?_ | fail
           conv => whnf
           refine ⟨[0, 1, 2, 3, 4, 5, 6, 7, 8], ?_, rfl, rfl, ?_, rfl⟩
           ·
            (repeat' (fail)) <;> first | rfl | fail
           ·
            (repeat' (first | exact trivial | refine And.intro ?_ ?_ | (refine wk_cons ?_ ?_))) <;> first | rfl | exact ren_eq (by first | (simp; done) | fail) (by first | rfl | fail) | fail
end Go.Sh
namespace Go.Sh
open Go.Proofs
set_option maxHeartbeats 8000000
def sum_n (T : List UInt8) : List UInt8 := hash_n k0_n h0_n T
def sum_w (T : List UInt8) : List UInt8 := hash_w k0_w h0_w T
theorem sum_len_n (T : List UInt8) : (sum_n T).length = 32 := hash_len_n _ _ _
theorem sum_len_w (T : List UInt8) : (sum_w T).length = 64 := hash_len_w _ _ _
attribute [local irreducible] sum_n sum_w h0_n k0_n h0_w k0_w hash_n hash_w
theorem f54_b (b0 : List UInt8) (hb0 : b0.length < 100000000000000) (f0 fl : Bool) : SCall Try.prog 54 [.sl 0 0 1 1 fl] [some (.ro [.sl 1 0 b0.length 1 f0]), some (.ro (b0.map .u8))] (.agg ((sum_n (b0)).map .u8)) [some (.ro [.sl 1 0 b0.length 1 f0]), some (.ro (b0.map .u8))] := by
 have q := f102_1 h0_n k0_n h0_n_len k0_n_len b0 hb0 f0 fl
 rw [show hash_n k0_n h0_n (b0) = sum_n (b0) by unfold sum_n; rfl] at q
 have hl := sum_len_n (b0)
 obtain ⟨W, hW⟩ : ∃ W, W = sum_n (b0) := ⟨_, rfl⟩
 rw [← hW] at q hl ⊢
 refine scall_of ttOk (by kernel_rfl : Try.prog.funcs[54]? = some Try.f54) rfl rfl rfl ?_
 try simp only [List.length_cons, List.length_nil, Nat.zero_add, Nat.reduceAdd]
 refine sw_ok ttOk mixed (by kernel_rfl) ?_
 conv => whnf
 repeat (fail)
 refine ok1_callF [] [false, true, true] false (f101) rfl rfl ⟨⟨rfl, by first | rfl | fail⟩, trivial, by first | simp [plainHf, plainB], by first | rfl | fail, ?_⟩
 conv => whnf
 repeat (fail)
 refine ok1_callF [3, 4, 5, 0, 1] [false, false, false, false, false, true] false (q) rfl rfl ⟨⟨rfl, by first | rfl | fail⟩, by (repeat' (first | exact trivial | refine And.intro ?_ ?_)) <;> first | rfl | exact ren_eq (by first | (simp; done) | fail) (by first | rfl | fail) | fail, by first | simp [plainHf, plainB], by first | rfl | fail, ?_⟩
 conv => whnf
 repeat (first | (refine Exists.intro _ (And.intro (sload_all rfl (by first | rfl | (simp [hl]; done) | fail)) ?_); conv => whnf) | (refine Exists.intro _ (And.intro (sput_all rfl (by first | rfl | (simp [hl]; done) | fail)) ?_); conv => whnf) | (refine And.intro (by first | omega | (simp; omega) | fail) ?_; conv => whnf) | fail)
 refine ⟨[0, 1], ?_, rfl, rfl, ?_, rfl⟩
 ·
  (repeat' (first | (refine wk_agg ?_) | fail)) <;> first | exact ren_eq (by first | (simp; done) | fail) (by first | rfl | fail) | fail
 ·
  (repeat' (first | exact trivial | refine And.intro ?_ ?_ | (refine wk_cons ?_ ?_))) <;> first | rfl | exact ren_eq (by first | (simp; done) | fail) (by first | rfl | fail) | fail
theorem f99_n_b (b0 : List UInt8) (hb0 : b0.length < 100000000000000) (f0 fl : Bool) : SCall Try.prog 99 [.u8 1, .sl 0 0 1 1 fl] [some (.ro [.sl 1 0 b0.length 1 f0]), some (.ro (b0.map .u8))] (.sl 2 0 32 1 true) [some (.ro [.sl 1 0 b0.length 1 f0]), some (.ro (b0.map .u8)), some (.box ((sum_n (b0)).map .u8))] := by
 have q := f54_b b0 hb0 f0 fl
 have hl := sum_len_n (b0)
 obtain ⟨W, hW⟩ : ∃ W, W = sum_n (b0) := ⟨_, rfl⟩
 rw [← hW] at q hl ⊢
 refine scall_of ttOk (by kernel_rfl : Try.prog.funcs[99]? = some Try.f99) rfl rfl rfl ?_
 try simp only [List.length_cons, List.length_nil, Nat.zero_add, Nat.reduceAdd]
 refine sw_ok ttOk mixed (by kernel_rfl) ?_
 conv => whnf
 repeat (first | (refine brT rfl ?_; conv => whnf) | fail)
 refine ok1_callF [0, 1] [false, false] true (q) rfl rfl ⟨⟨rfl, by first | rfl | fail⟩, by (repeat' (first | exact trivial | refine And.intro ?_ ?_)) <;> first | rfl | exact ren_eq (by first | (simp; done) | fail) (by first | rfl | fail) | fail, by first | rfl | fail, by first | simp [plainRf, plainR, plainT, plainW], ?_⟩
 conv => whnf
 repeat (first | (refine Exists.intro _ (And.intro (sput_all rfl (by first | rfl | (simp [hl]; done) | fail)) ?_); conv => whnf) | (refine Exists.intro _ (And.intro rfl ?_); conv => whnf) | (refine And.intro (by first | omega | (simp; omega) | fail) ?_; conv => whnf) | fail)
 refine ⟨[0, 1, 2], ?_, rfl, rfl, ?_, rfl⟩
 ·
  (repeat' (fail)) <;> first | rfl | fail
 ·
  (repeat' (first | exact trivial | refine And.intro ?_ ?_ | (refine wk_cons ?_ ?_))) <;> first | rfl | exact ren_eq (by first | (simp; done) | fail) (by first | rfl | fail) | fail
theorem f54_bb (b0 b1 : List UInt8) (hb0 : b0.length < 100000000000000) (hb1 : b1.length < 100000000000000) (f0 f1 fl : Bool) : SCall Try.prog 54 [.sl 0 0 2 1 fl] [some (.ro [.sl 1 0 b0.length 1 f0, .sl 2 0 b1.length 1 f1]), some (.ro (b0.map .u8)), some (.ro (b1.map .u8))] (.agg ((sum_n (b0 ++ b1)).map .u8)) [some (.ro [.sl 1 0 b0.length 1 f0, .sl 2 0 b1.length 1 f1]), some (.ro (b0.map .u8)), some (.ro (b1.map .u8))] := by
 have q := f102_bb h0_n k0_n h0_n_len k0_n_len b0 b1 hb0 hb1 f0 f1 fl
 rw [show hash_n k0_n h0_n (b0 ++ b1) = sum_n (b0 ++ b1) by unfold sum_n; rfl] at q
 have hl := sum_len_n (b0 ++ b1)
 obtain ⟨W, hW⟩ : ∃ W, W = sum_n (b0 ++ b1) := ⟨_, rfl⟩
 rw [← hW] at q hl ⊢
 refine scall_of ttOk (by kernel_rfl : Try.prog.funcs[54]? = some Try.f54) rfl rfl rfl ?_
 try simp only [List.length_cons, List.length_nil, Nat.zero_add, Nat.reduceAdd]
 refine sw_ok ttOk mixed (by kernel_rfl) ?_
 conv => whnf
 repeat (fail)
 refine ok1_callF [] [false, true, true] false (f101) rfl rfl ⟨⟨rfl, by first | rfl | fail⟩, trivial, by first | simp [plainHf, plainB], by first | rfl | fail, ?_⟩
 conv => whnf
 repeat (fail)
 refine ok1_callF [4, 5, 6, 0, 1, 2] [false, false, false, false, false, false, true] false (q) rfl rfl ⟨⟨rfl, by first | rfl | fail⟩, by (repeat' (first | exact trivial | refine And.intro ?_ ?_)) <;> first | rfl | exact ren_eq (by first | (simp; done) | fail) (by first | rfl | fail) | fail, by first | simp [plainHf, plainB], by first | rfl | fail, ?_⟩
 conv => whnf
 repeat (first | (refine Exists.intro _ (And.intro (sload_all rfl (by first | rfl | (simp [hl]; done) | fail)) ?_); conv => whnf) | (refine Exists.intro _ (And.intro (sput_all rfl (by first | rfl | (simp [hl]; done) | fail)) ?_); conv => whnf) | (refine And.intro (by first | omega | (simp; omega) | fail) ?_; conv => whnf) | fail)
 refine ⟨[0, 1, 2], ?_, rfl, rfl, ?_, rfl⟩
 ·
  (repeat' (first | (refine wk_agg ?_) | fail)) <;> first | exact ren_eq (by first | (simp; done) | fail) (by first | rfl | fail) | fail
 ·
  (repeat' (first | exact trivial | refine And.intro ?_ ?_ | (refine wk_cons ?_ ?_))) <;> first | rfl | exact ren_eq (by first | (simp; done) | fail) (by first | rfl | fail) | fail
theorem f99_n_bb (b0 b1 : List UInt8) (hb0 : b0.length < 100000000000000) (hb1 : b1.length < 100000000000000) (f0 f1 fl : Bool) : SCall Try.prog 99 [.u8 1, .sl 0 0 2 1 fl] [some (.ro [.sl 1 0 b0.length 1 f0, .sl 2 0 b1.length 1 f1]), some (.ro (b0.map .u8)), some (.ro (b1.map .u8))] (.sl 3 0 32 1 true) [some (.ro [.sl 1 0 b0.length 1 f0, .sl 2 0 b1.length 1 f1]), some (.ro (b0.map .u8)), some (.ro (b1.map .u8)), some (.box ((sum_n (b0 ++ b1)).map .u8))] := by
 have q := f54_bb b0 b1 hb0 hb1 f0 f1 fl
 have hl := sum_len_n (b0 ++ b1)
 obtain ⟨W, hW⟩ : ∃ W, W = sum_n (b0 ++ b1) := ⟨_, rfl⟩
 rw [← hW] at q hl ⊢
 refine scall_of ttOk (by kernel_rfl : Try.prog.funcs[99]? = some Try.f99) rfl rfl rfl ?_
 try simp only [List.length_cons, List.length_nil, Nat.zero_add, Nat.reduceAdd]
 refine sw_ok ttOk mixed (by kernel_rfl) ?_
 conv => whnf
 repeat (first | (refine brT rfl ?_; conv => whnf) | fail)
 refine ok1_callF [0, 1, 2] [false, false, false] true (q) rfl rfl ⟨⟨rfl, by first | rfl | fail⟩, by (repeat' (first | exact trivial | refine And.intro ?_ ?_)) <;> first | rfl | exact ren_eq (by first | (simp; done) | fail) (by first | rfl | fail) | fail, by first | rfl | fail, by first | simp [plainRf, plainR, plainT, plainW], ?_⟩
 conv => whnf
 repeat (first | (refine Exists.intro _ (And.intro (sput_all rfl (by first | rfl | (simp [hl]; done) | fail)) ?_); conv => whnf) | (refine Exists.intro _ (And.intro rfl ?_); conv => whnf) | (refine And.intro (by first | omega | (simp; omega) | fail) ?_; conv => whnf) | fail)
 refine ⟨[0, 1, 2, 3], ?_, rfl, rfl, ?_, rfl⟩
 ·
  (repeat' (fail)) <;> first | rfl | fail
 ·
  (repeat' (first | exact trivial | refine And.intro ?_ ?_ | (refine wk_cons ?_ ?_))) <;> first | rfl | exact ren_eq (by first | (simp; done) | fail) (by first | rfl | fail) | fail
theorem f54_bbb (b0 b1 b2 : List UInt8) (hb0 : b0.length < 100000000000000) (hb1 : b1.length < 100000000000000) (hb2 : b2.length < 100000000000000) (f0 f1 f2 fl : Bool) : SCall Try.prog 54 [.sl 0 0 3 1 fl] [some (.ro [.sl 1 0 b0.length 1 f0, .sl 2 0 b1.length 1 f1, .sl 3 0 b2.length 1 f2]), some (.ro (b0.map .u8)), some (.ro (b1.map .u8)), some (.ro (b2.map .u8))] (.agg ((sum_n (b0 ++ b1 ++ b2)).map .u8)) [some (.ro [.sl 1 0 b0.length 1 f0, .sl 2 0 b1.length 1 f1, .sl 3 0 b2.length 1 f2]), some (.ro (b0.map .u8)), some (.ro (b1.map .u8)), some (.ro (b2.map .u8))] := by
 have q := f102_bbb h0_n k0_n h0_n_len k0_n_len b0 b1 b2 hb0 hb1 hb2 f0 f1 f2 fl
 rw [show hash_n k0_n h0_n (b0 ++ b1 ++ b2) = sum_n (b0 ++ b1 ++ b2) by unfold sum_n; rfl] at q
 have hl := sum_len_n (b0 ++ b1 ++ b2)
 obtain ⟨W, hW⟩ : ∃ W, W = sum_n (b0 ++ b1 ++ b2) := ⟨_, rfl⟩
 rw [← hW] at q hl ⊢
 refine scall_of ttOk (by kernel_rfl : Try.prog.funcs[54]? = some Try.f54) rfl rfl rfl ?_
 try simp only [List.length_cons, List.length_nil, Nat.zero_add, Nat.reduceAdd]
 refine sw_ok ttOk mixed (by kernel_rfl) ?_
 conv => whnf
 repeat (fail)
 refine ok1_callF [] [false, true, true] false (f101) rfl rfl ⟨⟨rfl, by first | rfl | fail⟩, trivial, by first | simp [plainHf, plainB], by first | rfl | fail, ?_⟩
 conv => whnf
 repeat (fail)
 refine ok1_callF [5, 6, 7, 0, 1, 2, 3] [false, false, false, false, false, false, false, true] false (q) rfl rfl ⟨⟨rfl, by first | rfl | fail⟩, by (repeat' (first | exact trivial | refine And.intro ?_ ?_)) <;> first | rfl | exact ren_eq (by first | (simp; done) | fail) (by first | rfl | fail) | fail, by first | simp [plainHf, plainB], by first | rfl | fail, ?_⟩
 conv => whnf
 repeat (first | (refine Exists.intro _ (And.intro (sload_all rfl (by first | rfl | (simp [hl]; done) | fail)) ?_); conv => whnf) | (refine Exists.intro _ (And.intro (sput_all rfl (by first | rfl | (simp [hl]; done) | fail)) ?_); conv => whnf) | (refine And.intro (by first | omega | (simp; omega) | fail) ?_; conv => whnf) | fail)
 refine ⟨[0, 1, 2, 3], ?_, rfl, rfl, ?_, rfl⟩
 ·
  (repeat' (first | (refine wk_agg ?_) | fail)) <;> first | exact ren_eq (by first | (simp; done) | fail) (by first | rfl | fail) | fail
 ·
  (repeat' (first | exact trivial | refine And.intro ?_ ?_ | (refine wk_cons ?_ ?_))) <;> first | rfl | exact ren_eq (by first | (simp; done) | fail) (by first | rfl | fail) | fail
theorem f99_n_bbb (b0 b1 b2 : List UInt8) (hb0 : b0.length < 100000000000000) (hb1 : b1.length < 100000000000000) (hb2 : b2.length < 100000000000000) (f0 f1 f2 fl : Bool) : SCall Try.prog 99 [.u8 1, .sl 0 0 3 1 fl] [some (.ro [.sl 1 0 b0.length 1 f0, .sl 2 0 b1.length 1 f1, .sl 3 0 b2.length 1 f2]), some (.ro (b0.map .u8)), some (.ro (b1.map .u8)), some (.ro (b2.map .u8))] (.sl 4 0 32 1 true) [some (.ro [.sl 1 0 b0.length 1 f0, .sl 2 0 b1.length 1 f1, .sl 3 0 b2.length 1 f2]), some (.ro (b0.map .u8)), some (.ro (b1.map .u8)), some (.ro (b2.map .u8)), some (.box ((sum_n (b0 ++ b1 ++ b2)).map .u8))] := by
 have q := f54_bbb b0 b1 b2 hb0 hb1 hb2 f0 f1 f2 fl
 have hl := sum_len_n (b0 ++ b1 ++ b2)
 obtain ⟨W, hW⟩ : ∃ W, W = sum_n (b0 ++ b1 ++ b2) := ⟨_, rfl⟩
 rw [← hW] at q hl ⊢
 refine scall_of ttOk (by kernel_rfl : Try.prog.funcs[99]? = some Try.f99) rfl rfl rfl ?_
 try simp only [List.length_cons, List.length_nil, Nat.zero_add, Nat.reduceAdd]
 refine sw_ok ttOk mixed (by kernel_rfl) ?_
 conv => whnf
 repeat (first | (refine brT rfl ?_; conv => whnf) | fail)
 refine ok1_callF [0, 1, 2, 3] [false, false, false, false] true (q) rfl rfl ⟨⟨rfl, by first | rfl | fail⟩, by (repeat' (first | exact trivial | refine And.intro ?_ ?_)) <;> first | rfl | exact ren_eq (by first | (simp; done) | fail) (by first | rfl | fail) | fail, by first | rfl | fail, by first | simp [plainRf, plainR, plainT, plainW], ?_⟩
 conv => whnf
 repeat (first | (refine Exists.intro _ (And.intro (sput_all rfl (by first | rfl | (simp [hl]; done) | fail)) ?_); conv => whnf) | (refine Exists.intro _ (And.intro rfl ?_); conv => whnf) | (refine And.intro (by first | omega | (simp; omega) | fail) ?_; conv => whnf) | fail)
 refine ⟨[0, 1, 2, 3, 4], ?_, rfl, rfl, ?_, rfl⟩
 ·
  (repeat' (fail)) <;> first | rfl | fail
 ·
  (repeat' (first | exact trivial | refine And.intro ?_ ?_ | (refine wk_cons ?_ ?_))) <;> first | rfl | exact ren_eq (by first | (simp; done) | fail) (by first | rfl | fail) | fail
theorem f54_bobb (b0 b2 b3 : List UInt8) (hb0 : b0.length < 100000000000000) (hb2 : b2.length < 100000000000000) (hb3 : b3.length < 100000000000000) (f0 f2 f3 fl : Bool) : SCall Try.prog 54 [.sl 0 0 4 1 fl] [some (.ro [.sl 1 0 b0.length 1 f0, .slnil, .sl 2 0 b2.length 1 f2, .sl 3 0 b3.length 1 f3]), some (.ro (b0.map .u8)), some (.ro (b2.map .u8)), some (.ro (b3.map .u8))] (.agg ((sum_n (b0 ++ b2 ++ b3)).map .u8)) [some (.ro [.sl 1 0 b0.length 1 f0, .slnil, .sl 2 0 b2.length 1 f2, .sl 3 0 b3.length 1 f3]), some (.ro (b0.map .u8)), some (.ro (b2.map .u8)), some (.ro (b3.map .u8))] := by
 have q := f102_bobb h0_n k0_n h0_n_len k0_n_len b0 b2 b3 hb0 hb2 hb3 f0 f2 f3 fl
 rw [show hash_n k0_n h0_n (b0 ++ b2 ++ b3) = sum_n (b0 ++ b2 ++ b3) by unfold sum_n; rfl] at q
 have hl := sum_len_n (b0 ++ b2 ++ b3)
 obtain ⟨W, hW⟩ : ∃ W, W = sum_n (b0 ++ b2 ++ b3) := ⟨_, rfl⟩
 rw [← hW] at q hl ⊢
 refine scall_of ttOk (by kernel_rfl : Try.prog.funcs[54]? = some Try.f54) rfl rfl rfl ?_
 try simp only [List.length_cons, List.length_nil, Nat.zero_add, Nat.reduceAdd]
 refine sw_ok ttOk mixed (by kernel_rfl) ?_
 conv => whnf
 repeat (fail)
 refine ok1_callF [] [false, true, true] false (f101) rfl rfl ⟨⟨rfl, by first | rfl | fail⟩, trivial, by first | simp [plainHf, plainB], by first | rfl | fail, ?_⟩
 conv => whnf
 repeat (fail)
 refine ok1_callF [5, 6, 7, 0, 1, 2, 3] [false, false, false, false, false, false, false, true] false (q) rfl rfl ⟨⟨rfl, by first | rfl | fail⟩, by (repeat' (first | exact trivial | refine And.intro ?_ ?_)) <;> first | rfl | exact ren_eq (by first | (simp; done) | fail) (by first | rfl | fail) | fail, by first | simp [plainHf, plainB], by first | rfl | fail, ?_⟩
 conv => whnf
 repeat (first | (refine Exists.intro _ (And.intro (sload_all rfl (by first | rfl | (simp [hl]; done) | fail)) ?_); conv => whnf) | (refine Exists.intro _ (And.intro (sput_all rfl (by first | rfl | (simp [hl]; done) | fail)) ?_); conv => whnf) | (refine And.intro (by first | omega | (simp; omega) | fail) ?_; conv => whnf) | fail)
 refine ⟨[0, 1, 2, 3], ?_, rfl, rfl, ?_, rfl⟩
 ·
  (repeat' (first | (refine wk_agg ?_) | fail)) <;> first | exact ren_eq (by first | (simp; done) | fail) (by first | rfl | fail) | fail
 ·
  (repeat' (first | exact trivial | refine And.intro ?_ ?_ | (refine wk_cons ?_ ?_))) <;> first | rfl | exact ren_eq (by first | (simp; done) | fail) (by first | rfl | fail) | fail
theorem f99_n_bobb (b0 b2 b3 : List UInt8) (hb0 : b0.length < 100000000000000) (hb2 : b2.length < 100000000000000) (hb3 : b3.length < 100000000000000) (f0 f2 f3 fl : Bool) : SCall Try.prog 99 [.u8 1, .sl 0 0 4 1 fl] [some (.ro [.sl 1 0 b0.length 1 f0, .slnil, .sl 2 0 b2.length 1 f2, .sl 3 0 b3.length 1 f3]), some (.ro (b0.map .u8)), some (.ro (b2.map .u8)), some (.ro (b3.map .u8))] (.sl 4 0 32 1 true) [some (.ro [.sl 1 0 b0.length 1 f0, .slnil, .sl 2 0 b2.length 1 f2, .sl 3 0 b3.length 1 f3]), some (.ro (b0.map .u8)), some (.ro (b2.map .u8)), some (.ro (b3.map .u8)), some (.box ((sum_n (b0 ++ b2 ++ b3)).map .u8))] := by
 have q := f54_bobb b0 b2 b3 hb0 hb2 hb3 f0 f2 f3 fl
 have hl := sum_len_n (b0 ++ b2 ++ b3)
 obtain ⟨W, hW⟩ : ∃ W, W = sum_n (b0 ++ b2 ++ b3) := ⟨_, rfl⟩
 rw [← hW] at q hl ⊢
 refine scall_of ttOk (by kernel_rfl : Try.prog.funcs[99]? = some Try.f99) rfl rfl rfl ?_
 try simp only [List.length_cons, List.length_nil, Nat.zero_add, Nat.reduceAdd]
 refine sw_ok ttOk mixed (by kernel_rfl) ?_
 conv => whnf
 repeat (first | (refine brT rfl ?_; conv => whnf) | fail)
 refine ok1_callF [0, 1, 2, 3] [false, false, false, false] true (q) rfl rfl ⟨⟨rfl, by first | rfl | fail⟩, by (repeat' (first | exact trivial | refine And.intro ?_ ?_)) <;> first | rfl | exact ren_eq (by first | (simp; done) | fail) (by first | rfl | fail) | fail, by first | rfl | fail, by first | simp [plainRf, plainR, plainT, plainW], ?_⟩
 conv => whnf
 repeat (first | (refine Exists.intro _ (And.intro (sput_all rfl (by first | rfl | (simp [hl]; done) | fail)) ?_); conv => whnf) | (refine Exists.intro _ (And.intro rfl ?_); conv => whnf) | (refine And.intro (by first | omega | (simp; omega) | fail) ?_; conv => whnf) | fail)
 refine ⟨[0, 1, 2, 3, 4], ?_, rfl, rfl, ?_, rfl⟩
 ·
  (repeat' (fail)) <;> first | rfl | fail
 ·
  (repeat' (first | exact trivial | refine And.intro ?_ ?_ | (refine wk_cons ?_ ?_))) <;> first | rfl | exact ren_eq (by first | (simp; done) | fail) (by first | rfl | fail) | fail
theorem f54_bbbb (b0 b1 b2 b3 : List UInt8) (hb0 : b0.length < 100000000000000) (hb1 : b1.length < 100000000000000) (hb2 : b2.length < 100000000000000) (hb3 : b3.length < 100000000000000) (f0 f1 f2 f3 fl : Bool) : SCall Try.prog 54 [.sl 0 0 4 1 fl] [some (.ro [.sl 1 0 b0.length 1 f0, .sl 2 0 b1.length 1 f1, .sl 3 0 b2.length 1 f2, .sl 4 0 b3.length 1 f3]), some (.ro (b0.map .u8)), some (.ro (b1.map .u8)), some (.ro (b2.map .u8)), some (.ro (b3.map .u8))] (.agg ((sum_n (b0 ++ b1 ++ b2 ++ b3)).map .u8)) [some (.ro [.sl 1 0 b0.length 1 f0, .sl 2 0 b1.length 1 f1, .sl 3 0 b2.length 1 f2, .sl 4 0 b3.length 1 f3]), some (.ro (b0.map .u8)), some (.ro (b1.map .u8)), some (.ro (b2.map .u8)), some (.ro (b3.map .u8))] := by
 have q := f102_bbbb h0_n k0_n h0_n_len k0_n_len b0 b1 b2 b3 hb0 hb1 hb2 hb3 f0 f1 f2 f3 fl
 rw [show hash_n k0_n h0_n (b0 ++ b1 ++ b2 ++ b3) = sum_n (b0 ++ b1 ++ b2 ++ b3) by unfold sum_n; rfl] at q
 have hl := sum_len_n (b0 ++ b1 ++ b2 ++ b3)
 obtain ⟨W, hW⟩ : ∃ W, W = sum_n (b0 ++ b1 ++ b2 ++ b3) := ⟨_, rfl⟩
 rw [← hW] at q hl ⊢
 refine scall_of ttOk (by kernel_rfl : Try.prog.funcs[54]? = some Try.f54) rfl rfl rfl ?_
 try simp only [List.length_cons, List.length_nil, Nat.zero_add, Nat.reduceAdd]
 refine sw_ok ttOk mixed (by kernel_rfl) ?_
 conv => whnf
 repeat (fail)
 refine ok1_callF [] [false, true, true] false (f101) rfl rfl ⟨⟨rfl, by first | rfl | fail⟩, trivial, by first | simp [plainHf, plainB], by first | rfl | fail, ?_⟩
 conv => whnf
 repeat (fail)
 refine ok1_callF [6, 7, 8, 0, 1, 2, 3, 4] [false, false, false, false, false, false, false, false, true] false (q) rfl rfl ⟨⟨rfl, by first | rfl | fail⟩, by (repeat' (first | exact trivial | refine And.intro ?_ ?_)) <;> first | rfl | exact ren_eq (by first | (simp; done) | fail) (by first | rfl | fail) | fail, by first | simp [plainHf, plainB], by first | rfl | fail, ?_⟩
 conv => whnf
 repeat (first | (refine Exists.intro _ (And.intro (sload_all rfl (by first | rfl | (simp [hl]; done) | fail)) ?_); conv => whnf) | (refine Exists.intro _ (And.intro (sput_all rfl (by first | rfl | (simp [hl]; done) | fail)) ?_); conv => whnf) | (refine And.intro (by first | omega | (simp; omega) | fail) ?_; conv => whnf) | fail)
 refine ⟨[0, 1, 2, 3, 4], ?_, rfl, rfl, ?_, rfl⟩
 ·
  (repeat' (first | (refine wk_agg ?_) | fail)) <;> first | exact ren_eq (by first | (simp; done) | fail) (by first | rfl | fail) | fail
 ·
  (repeat' (first | exact trivial | refine And.intro ?_ ?_ | (refine wk_cons ?_ ?_))) <;> first | rfl | exact ren_eq (by first | (simp; done) | fail) (by first | rfl | fail) | fail
theorem f99_n_bbbb (b0 b1 b2 b3 : List UInt8) (hb0 : b0.length < 100000000000000) (hb1 : b1.length < 100000000000000) (hb2 : b2.length < 100000000000000) (hb3 : b3.length < 100000000000000) (f0 f1 f2 f3 fl : Bool) : SCall Try.prog 99 [.u8 1, .sl 0 0 4 1 fl] [some (.ro [.sl 1 0 b0.length 1 f0, .sl 2 0 b1.length 1 f1, .sl 3 0 b2.length 1 f2, .sl 4 0 b3.length 1 f3]), some (.ro (b0.map .u8)), some (.ro (b1.map .u8)), some (.ro (b2.map .u8)), some (.ro (b3.map .u8))] (.sl 5 0 32 1 true) [some (.ro [.sl 1 0 b0.length 1 f0, .sl 2 0 b1.length 1 f1, .sl 3 0 b2.length 1 f2, .sl 4 0 b3.length 1 f3]), some (.ro (b0.map .u8)), some (.ro (b1.map .u8)), some (.ro (b2.map .u8)), some (.ro (b3.map .u8)), some (.box ((sum_n (b0 ++ b1 ++ b2 ++ b3)).map .u8))] := by
 have q := f54_bbbb b0 b1 b2 b3 hb0 hb1 hb2 hb3 f0 f1 f2 f3 fl
 have hl := sum_len_n (b0 ++ b1 ++ b2 ++ b3)
 obtain ⟨W, hW⟩ : ∃ W, W = sum_n (b0 ++ b1 ++ b2 ++ b3) := ⟨_, rfl⟩
 rw [← hW] at q hl ⊢
 refine scall_of ttOk (by kernel_rfl : Try.prog.funcs[99]? = some Try.f99) rfl rfl rfl ?_
 try simp only [List.length_cons, List.length_nil, Nat.zero_add, Nat.reduceAdd]
 refine sw_ok ttOk mixed (by kernel_rfl) ?_
 conv => whnf
 repeat (first | (refine brT rfl ?_; conv => whnf) | fail)
 refine ok1_callF [0, 1, 2, 3, 4] [false, false, false, false, false] true (q) rfl rfl ⟨⟨rfl, by first | rfl | fail⟩, by (repeat' (first | exact trivial | refine And.intro ?_ ?_)) <;> first | rfl | exact ren_eq (by first | (simp; done) | fail) (by first | rfl | fail) | fail, by first | rfl | fail, by first | simp [plainRf, plainR, plainT, plainW], ?_⟩
 conv => whnf
 repeat (first | (refine Exists.intro _ (And.intro (sput_all rfl (by first | rfl | (simp [hl]; done) | fail)) ?_); conv => whnf) | (refine Exists.intro _ (And.intro rfl ?_); conv => whnf) | (refine And.intro (by first | omega | (simp; omega) | fail) ?_; conv => whnf) | fail)
 refine ⟨[0, 1, 2, 3, 4, 5], ?_, rfl, rfl, ?_, rfl⟩
 ·
  (repeat' (fail)) <;> first | rfl | fail
 ·
  (repeat' (first | exact trivial | refine And.intro ?_ ?_ | (refine wk_cons ?_ ?_))) <;> first | rfl | exact ren_eq (by first | (simp; done) | fail) (by first | rfl | fail) | fail
theorem f55_b (b0 : List UInt8) (hb0 : b0.length < 100000000000000) (f0 fl : Bool) : SCall Try.prog 55 [.sl 0 0 1 1 fl] [some (.ro [.sl 1 0 b0.length 1 f0]), some (.ro (b0.map .u8))] (.agg ((sum_w (b0)).map .u8)) [some (.ro [.sl 1 0 b0.length 1 f0]), some (.ro (b0.map .u8))] := by
 have q := f104_b h0_w k0_w h0_w_len k0_w_len b0 hb0 f0 fl
 rw [show hash_w k0_w h0_w (b0) = sum_w (b0) by unfold sum_w; rfl] at q
 have hl := sum_len_w (b0)
 obtain ⟨W, hW⟩ : ∃ W, W = sum_w (b0) := ⟨_, rfl⟩
 rw [← hW] at q hl ⊢
 refine scall_of ttOk (by kernel_rfl : Try.prog.funcs[55]? = some Try.f55) rfl rfl rfl ?_
 try simp only [List.length_cons, List.length_nil, Nat.zero_add, Nat.reduceAdd]
 refine sw_ok ttOk mixed (by kernel_rfl) ?_
 conv => whnf
 repeat (fail)
 refine ok1_callF [] [false, true, true] false (f103) rfl rfl ⟨⟨rfl, by first | rfl | fail⟩, trivial, by first | simp [plainHf, plainB], by first | rfl | fail, ?_⟩
 conv => whnf
 repeat (fail)
 refine ok1_callF [3, 4, 5, 0, 1] [false, false, false, false, false, true] false (q) rfl rfl ⟨⟨rfl, by first | rfl | fail⟩, by (repeat' (first | exact trivial | refine And.intro ?_ ?_)) <;> first | rfl | exact ren_eq (by first | (simp; done) | fail) (by first | rfl | fail) | fail, by first | simp [plainHf, plainB], by first | rfl | fail, ?_⟩
 conv => whnf
 repeat (first | (refine Exists.intro _ (And.intro (sload_all rfl (by first | rfl | (simp [hl]; done) | fail)) ?_); conv => whnf) | (refine Exists.intro _ (And.intro (sput_all rfl (by first | rfl | (simp [hl]; done) | fail)) ?_); conv => whnf) | (refine And.intro (by first | omega | (simp; omega) | fail) ?_; conv => whnf) | fail)
 refine ⟨[0, 1], ?_, rfl, rfl, ?_, rfl⟩
 ·
  (repeat' (first | (refine wk_agg ?_) | fail)) <;> first | exact ren_eq (by first | (simp; done) | fail) (by first | rfl | fail) | fail
 ·
  (repeat' (first | exact trivial | refine And.intro ?_ ?_ | (refine wk_cons ?_ ?_))) <;> first | rfl | exact ren_eq (by first | (simp; done) | fail) (by first | rfl | fail) | fail
theorem f99_w_b (b0 : List UInt8) (hb0 : b0.length < 100000000000000) (f0 fl : Bool) : SCall Try.prog 99 [.u8 2, .sl 0 0 1 1 fl] [some (.ro [.sl 1 0 b0.length 1 f0]), some (.ro (b0.map .u8))] (.sl 2 0 64 1 true) [some (.ro [.sl 1 0 b0.length 1 f0]), some (.ro (b0.map .u8)), some (.box ((sum_w (b0)).map .u8))] := by
 have q := f55_b b0 hb0 f0 fl
 have hl := sum_len_w (b0)
 obtain ⟨W, hW⟩ : ∃ W, W = sum_w (b0) := ⟨_, rfl⟩
 rw [← hW] at q hl ⊢
 refine scall_of ttOk (by kernel_rfl : Try.prog.funcs[99]? = some Try.f99) rfl rfl rfl ?_
 try simp only [List.length_cons, List.length_nil, Nat.zero_add, Nat.reduceAdd]
 refine sw_ok ttOk mixed (by kernel_rfl) ?_
 conv => whnf
 repeat (first | (refine brF rfl ?_; conv => whnf) | fail)
 refine ok1_callF [0, 1] [false, false] true (q) rfl rfl ⟨⟨rfl, by first | rfl | fail⟩, by (repeat' (first | exact trivial | refine And.intro ?_ ?_)) <;> first | rfl | exact ren_eq (by first | (simp; done) | fail) (by first | rfl | fail) | fail, by first | rfl | fail, by first | simp [plainRf, plainR, plainT, plainW], ?_⟩
 conv => whnf
 repeat (first | (refine Exists.intro _ (And.intro (sput_all rfl (by first | rfl | (simp [hl]; done) | fail)) ?_); conv => whnf) | (refine Exists.intro _ (And.intro rfl ?_); conv => whnf) | (refine And.intro (by first | omega | (simp; omega) | fail) ?_; conv => whnf) | fail)
 refine ⟨[0, 1, 2], ?_, rfl, rfl, ?_, rfl⟩
 ·
  (repeat' (fail)) <;> first | rfl | fail
 ·
  (repeat' (first | exact trivial | refine And.intro ?_ ?_ | (refine wk_cons ?_ ?_))) <;> first | rfl | exact ren_eq (by first | (simp; done) | fail) (by first | rfl | fail) | fail
theorem f55_bb (b0 b1 : List UInt8) (hb0 : b0.length < 100000000000000) (hb1 : b1.length < 100000000000000) (f0 f1 fl : Bool) : SCall Try.prog 55 [.sl 0 0 2 1 fl] [some (.ro [.sl 1 0 b0.length 1 f0, .sl 2 0 b1.length 1 f1]), some (.ro (b0.map .u8)), some (.ro (b1.map .u8))] (.agg ((sum_w (b0 ++ b1)).map .u8)) [some (.ro [.sl 1 0 b0.length 1 f0, .sl 2 0 b1.length 1 f1]), some (.ro (b0.map .u8)), some (.ro (b1.map .u8))] := by
 have q := f104_bb h0_w k0_w h0_w_len k0_w_len b0 b1 hb0 hb1 f0 f1 fl
 rw [show hash_w k0_w h0_w (b0 ++ b1) = sum_w (b0 ++ b1) by unfold sum_w; rfl] at q
 have hl := sum_len_w (b0 ++ b1)
 obtain ⟨W, hW⟩ : ∃ W, W = sum_w (b0 ++ b1) := ⟨_, rfl⟩
 rw [← hW] at q hl ⊢
 refine scall_of ttOk (by kernel_rfl : Try.prog.funcs[55]? = some Try.f55) rfl rfl rfl ?_
 try simp only [List.length_cons, List.length_nil, Nat.zero_add, Nat.reduceAdd]
 refine sw_ok ttOk mixed (by kernel_rfl) ?_
 conv => whnf
 repeat (fail)
 refine ok1_callF [] [false, true, true] false (f103) rfl rfl ⟨⟨rfl, by first | rfl | fail⟩, trivial, by first | simp [plainHf, plainB], by first | rfl | fail, ?_⟩
 conv => whnf
 repeat (fail)
 refine ok1_callF [4, 5, 6, 0, 1, 2] [false, false, false, false, false, false, true] false (q) rfl rfl ⟨⟨rfl, by first | rfl | fail⟩, by (repeat' (first | exact trivial | refine And.intro ?_ ?_)) <;> first | rfl | exact ren_eq (by first | (simp; done) | fail) (by first | rfl | fail) | fail, by first | simp [plainHf, plainB], by first | rfl | fail, ?_⟩
 conv => whnf
 repeat (first | (refine Exists.intro _ (And.intro (sload_all rfl (by first | rfl | (simp [hl]; done) | fail)) ?_); conv => whnf) | (refine Exists.intro _ (And.intro (sput_all rfl (by first | rfl | (simp [hl]; done) | fail)) ?_); conv => whnf) | (refine And.intro (by first | omega | (simp; omega) | fail) ?_; conv => whnf) | fail)
 refine ⟨[0, 1, 2], ?_, rfl, rfl, ?_, rfl⟩
 ·
  (repeat' (first | (refine wk_agg ?_) | fail)) <;> first | exact ren_eq (by first | (simp; done) | fail) (by first | rfl | fail) | fail
 ·
  (repeat' (first | exact trivial | refine And.intro ?_ ?_ | (refine wk_cons ?_ ?_))) <;> first | rfl | exact ren_eq (by first | (simp; done) | fail) (by first | rfl | fail) | fail
theorem f99_w_bb (b0 b1 : List UInt8) (hb0 : b0.length < 100000000000000) (hb1 : b1.length < 100000000000000) (f0 f1 fl : Bool) : SCall Try.prog 99 [.u8 2, .sl 0 0 2 1 fl] [some (.ro [.sl 1 0 b0.length 1 f0, .sl 2 0 b1.length 1 f1]), some (.ro (b0.map .u8)), some (.ro (b1.map .u8))] (.sl 3 0 64 1 true) [some (.ro [.sl 1 0 b0.length 1 f0, .sl 2 0 b1.length 1 f1]), some (.ro (b0.map .u8)), some (.ro (b1.map .u8)), some (.box ((sum_w (b0 ++ b1)).map .u8))] := by
 have q := f55_bb b0 b1 hb0 hb1 f0 f1 fl
 have hl := sum_len_w (b0 ++ b1)
 obtain ⟨W, hW⟩ : ∃ W, W = sum_w (b0 ++ b1) := ⟨_, rfl⟩
 rw [← hW] at q hl ⊢
 refine scall_of ttOk (by kernel_rfl : Try.prog.funcs[99]? = some Try.f99) rfl rfl rfl ?_
 try simp only [List.length_cons, List.length_nil, Nat.zero_add, Nat.reduceAdd]
 refine sw_ok ttOk mixed (by kernel_rfl) ?_
 conv => whnf
 repeat (first | (refine brF rfl ?_; conv => whnf) | fail)
 refine ok1_callF [0, 1, 2] [false, false, false] true (q) rfl rfl ⟨⟨rfl, by first | rfl | fail⟩, by (repeat' (first | exact trivial | refine And.intro ?_ ?_)) <;> first | rfl | exact ren_eq (by first | (simp; done) | fail) (by first | rfl | fail) | fail, by first | rfl | fail, by first | simp [plainRf, plainR, plainT, plainW], ?_⟩
 conv => whnf
 repeat (first | (refine Exists.intro _ (And.intro (sput_all rfl (by first | rfl | (simp [hl]; done) | fail)) ?_); conv => whnf) | (refine Exists.intro _ (And.intro rfl ?_); conv => whnf) | (refine And.intro (by first | omega | (simp; omega) | fail) ?_; conv => whnf) | fail)
 refine ⟨[0, 1, 2, 3], ?_, rfl, rfl, ?_, rfl⟩
 ·
  (repeat' (fail)) <;> first | rfl | fail
 ·
  (repeat' (first | exact trivial | refine And.intro ?_ ?_ | (refine wk_cons ?_ ?_))) <;> first | rfl | exact ren_eq (by first | (simp; done) | fail) (by first | rfl | fail) | fail
theorem f55_bobb (b0 b2 b3 : List UInt8) (hb0 : b0.length < 100000000000000) (hb2 : b2.length < 100000000000000) (hb3 : b3.length < 100000000000000) (f0 f2 f3 fl : Bool) : SCall Try.prog 55 [.sl 0 0 4 1 fl] [some (.ro [.sl 1 0 b0.length 1 f0, .slnil, .sl 2 0 b2.length 1 f2, .sl 3 0 b3.length 1 f3]), some (.ro (b0.map .u8)), some (.ro (b2.map .u8)), some (.ro (b3.map .u8))] (.agg ((sum_w (b0 ++ b2 ++ b3)).map .u8)) [some (.ro [.sl 1 0 b0.length 1 f0, .slnil, .sl 2 0 b2.length 1 f2, .sl 3 0 b3.length 1 f3]), some (.ro (b0.map .u8)), some (.ro (b2.map .u8)), some (.ro (b3.map .u8))] := by
 have q := f104_bobb h0_w k0_w h0_w_len k0_w_len b0 b2 b3 hb0 hb2 hb3 f0 f2 f3 fl
 rw [show hash_w k0_w h0_w (b0 ++ b2 ++ b3) = sum_w (b0 ++ b2 ++ b3) by unfold sum_w; rfl] at q
 have hl := sum_len_w (b0 ++ b2 ++ b3)
 obtain ⟨W, hW⟩ : ∃ W, W = sum_w (b0 ++ b2 ++ b3) := ⟨_, rfl⟩
 rw [← hW] at q hl ⊢
 refine scall_of ttOk (by kernel_rfl : Try.prog.funcs[55]? = some Try.f55) rfl rfl rfl ?_
 try simp only [List.length_cons, List.length_nil, Nat.zero_add, Nat.reduceAdd]
 refine sw_ok ttOk mixed (by kernel_rfl) ?_
 conv => whnf
 repeat (fail)
 refine ok1_callF [] [false, true, true] false (f103) rfl rfl ⟨⟨rfl, by first | rfl | fail⟩, trivial, by first | simp [plainHf, plainB], by first | rfl | fail, ?_⟩
 conv => whnf
 repeat (fail)
 refine ok1_callF [5, 6, 7, 0, 1, 2, 3] [false, false, false, false, false, false, false, true] false (q) rfl rfl ⟨⟨rfl, by first | rfl | fail⟩, by (repeat' (first | exact trivial | refine And.intro ?_ ?_)) <;> first | rfl | exact ren_eq (by first | (simp; done) | fail) (by first | rfl | fail) | fail, by first | simp [plainHf, plainB], by first | rfl | fail, ?_⟩
 conv => whnf
 repeat (first | (refine Exists.intro _ (And.intro (sload_all rfl (by first | rfl | (simp [hl]; done) | fail)) ?_); conv => whnf) | (refine Exists.intro _ (And.intro (sput_all rfl (by first | rfl | (simp [hl]; done) | fail)) ?_); conv => whnf) | (refine And.intro (by first | omega | (simp; omega) | fail) ?_; conv => whnf) | fail)
 refine ⟨[0, 1, 2, 3], ?_, rfl, rfl, ?_, rfl⟩
 ·
  (repeat' (first | (refine wk_agg ?_) | fail)) <;> first | exact ren_eq (by first | (simp; done) | fail) (by first | rfl | fail) | fail
 ·
  (repeat' (first | exact trivial | refine And.intro ?_ ?_ | (refine wk_cons ?_ ?_))) <;> first | rfl | exact ren_eq (by first | (simp; done) | fail) (by first | rfl | fail) | fail
theorem f99_w_bobb (b0 b2 b3 : List UInt8) (hb0 : b0.length < 100000000000000) (hb2 : b2.length < 100000000000000) (hb3 : b3.length < 100000000000000) (f0 f2 f3 fl : Bool) : SCall Try.prog 99 [.u8 2, .sl 0 0 4 1 fl] [some (.ro [.sl 1 0 b0.length 1 f0, .slnil, .sl 2 0 b2.length 1 f2, .sl 3 0 b3.length 1 f3]), some (.ro (b0.map .u8)), some (.ro (b2.map .u8)), some (.ro (b3.map .u8))] (.sl 4 0 64 1 true) [some (.ro [.sl 1 0 b0.length 1 f0, .slnil, .sl 2 0 b2.length 1 f2, .sl 3 0 b3.length 1 f3]), some (.ro (b0.map .u8)), some (.ro (b2.map .u8)), some (.ro (b3.map .u8)), some (.box ((sum_w (b0 ++ b2 ++ b3)).map .u8))] := by
 have q := f55_bobb b0 b2 b3 hb0 hb2 hb3 f0 f2 f3 fl
 have hl := sum_len_w (b0 ++ b2 ++ b3)
 obtain ⟨W, hW⟩ : ∃ W, W = sum_w (b0 ++ b2 ++ b3) := ⟨_, rfl⟩
 rw [← hW] at q hl ⊢
 refine scall_of ttOk (by kernel_rfl : Try.prog.funcs[99]? = some Try.f99) rfl rfl rfl ?_
 try simp only [List.length_cons, List.length_nil, Nat.zero_add, Nat.reduceAdd]
 refine sw_ok ttOk mixed (by kernel_rfl) ?_
 conv => whnf
 repeat (first | (refine brF rfl ?_; conv => whnf) | fail)
 refine ok1_callF [0, 1, 2, 3] [false, false, false, false] true (q) rfl rfl ⟨⟨rfl, by first | rfl | fail⟩, by (repeat' (first | exact trivial | refine And.intro ?_ ?_)) <;> first | rfl | exact ren_eq (by first | (simp; done) | fail) (by first | rfl | fail) | fail, by first | rfl | fail, by first | simp [plainRf, plainR, plainT, plainW], ?_⟩
 conv => whnf
 repeat (first | (refine Exists.intro _ (And.intro (sput_all rfl (by first | rfl | (simp [hl]; done) | fail)) ?_); conv => whnf) | (refine Exists.intro _ (And.intro rfl ?_); conv => whnf) | (refine And.intro (by first | omega | (simp; omega) | fail) ?_; conv => whnf) | fail)
 refine ⟨[0, 1, 2, 3, 4], ?_, rfl, rfl, ?_, rfl⟩
 ·
  (repeat' (fail)) <;> first | rfl | fail
 ·
  (repeat' (first | exact trivial | refine And.intro ?_ ?_ | (refine wk_cons ?_ ?_))) <;> first | rfl | exact ren_eq (by first | (simp; done) | fail) (by first | rfl | fail) | fail
theorem f55_bbbb (b0 b1 b2 b3 : List UInt8) (hb0 : b0.length < 100000000000000) (hb1 : b1.length < 100000000000000) (hb2 : b2.length < 100000000000000) (hb3 : b3.length < 100000000000000) (f0 f1 f2 f3 fl : Bool) : SCall Try.prog 55 [.sl 0 0 4 1 fl] [some (.ro [.sl 1 0 b0.length 1 f0, .sl 2 0 b1.length 1 f1, .sl 3 0 b2.length 1 f2, .sl 4 0 b3.length 1 f3]), some (.ro (b0.map .u8)), some (.ro (b1.map .u8)), some (.ro (b2.map .u8)), some (.ro (b3.map .u8))] (.agg ((sum_w (b0 ++ b1 ++ b2 ++ b3)).map .u8)) [some (.ro [.sl 1 0 b0.length 1 f0, .sl 2 0 b1.length 1 f1, .sl 3 0 b2.length 1 f2, .sl 4 0 b3.length 1 f3]), some (.ro (b0.map .u8)), some (.ro (b1.map .u8)), some (.ro (b2.map .u8)), some (.ro (b3.map .u8))] := by
 have q := f104_bbbb h0_w k0_w h0_w_len k0_w_len b0 b1 b2 b3 hb0 hb1 hb2 hb3 f0 f1 f2 f3 fl
 rw [show hash_w k0_w h0_w (b0 ++ b1 ++ b2 ++ b3) = sum_w (b0 ++ b1 ++ b2 ++ b3) by unfold sum_w; rfl] at q
 have hl := sum_len_w (b0 ++ b1 ++ b2 ++ b3)
 obtain ⟨W, hW⟩ : ∃ W, W = sum_w (b0 ++ b1 ++ b2 ++ b3) := ⟨_, rfl⟩
 rw [← hW] at q hl ⊢
 refine scall_of ttOk (by kernel_rfl : Try.prog.funcs[55]? = some Try.f55) rfl rfl rfl ?_
 try simp only [List.length_cons, List.length_nil, Nat.zero_add, Nat.reduceAdd]
 refine sw_ok ttOk mixed (by kernel_rfl) ?_
 conv => whnf
 repeat (fail)
 refine ok1_callF [] [false, true, true] false (f103) rfl rfl ⟨⟨rfl, by first | rfl | fail⟩, trivial, by first | simp [plainHf, plainB], by first | rfl | fail, ?_⟩
 conv => whnf
 repeat (fail)
 refine ok1_callF [6, 7, 8, 0, 1, 2, 3, 4] [false, false, false, false, false, false, false, false, true] false (q) rfl rfl ⟨⟨rfl, by first | rfl | fail⟩, by (repeat' (first | exact trivial | refine And.intro ?_ ?_)) <;> first | rfl | exact ren_eq (by first | (simp; done) | fail) (by first | rfl | fail) | fail, by first | simp [plainHf, plainB], by first | rfl | fail, ?_⟩
 conv => whnf
 repeat (first | (refine Exists.intro _ (And.intro (sload_all rfl (by first | rfl | (simp [hl]; done) | fail)) ?_); conv => whnf) | (refine Exists.intro _ (And.intro (sput_all rfl (by first | rfl | (simp [hl]; done) | fail)) ?_); conv => whnf) | (refine And.intro (by first | omega | (simp; omega) | fail) ?_; conv => whnf) | fail)
 refine ⟨[0, 1, 2, 3, 4], ?_, rfl, rfl, ?_, rfl⟩
 ·
  (repeat' (first | (refine wk_agg ?_) | fail)) <;> first | exact ren_eq (by first | (simp; done) | fail) (by first | rfl | fail) | fail
 ·
  (repeat' (first | exact trivial | refine And.intro ?_ ?_ | (refine wk_cons ?_ ?_))) <;> first | rfl | exact ren_eq (by first | (simp; done) | fail) (by first | rfl | fail) | fail
theorem f99_w_bbbb (b0 b1 b2 b3 : List UInt8) (hb0 : b0.length < 100000000000000) (hb1 : b1.length < 100000000000000) (hb2 : b2.length < 100000000000000) (hb3 : b3.length < 100000000000000) (f0 f1 f2 f3 fl : Bool) : SCall Try.prog 99 [.u8 2, .sl 0 0 4 1 fl] [some (.ro [.sl 1 0 b0.length 1 f0, .sl 2 0 b1.length 1 f1, .sl 3 0 b2.length 1 f2, .sl 4 0 b3.length 1 f3]), some (.ro (b0.map .u8)), some (.ro (b1.map .u8)), some (.ro (b2.map .u8)), some (.ro (b3.map .u8))] (.sl 5 0 64 1 true) [some (.ro [.sl 1 0 b0.length 1 f0, .sl 2 0 b1.length 1 f1, .sl 3 0 b2.length 1 f2, .sl 4 0 b3.length 1 f3]), some (.ro (b0.map .u8)), some (.ro (b1.map .u8)), some (.ro (b2.map .u8)), some (.ro (b3.map .u8)), some (.box ((sum_w (b0 ++ b1 ++ b2 ++ b3)).map .u8))] := by
 have q := f55_bbbb b0 b1 b2 b3 hb0 hb1 hb2 hb3 f0 f1 f2 f3 fl
 have hl := sum_len_w (b0 ++ b1 ++ b2 ++ b3)
 obtain ⟨W, hW⟩ : ∃ W, W = sum_w (b0 ++ b1 ++ b2 ++ b3) := ⟨_, rfl⟩
 rw [← hW] at q hl ⊢
 refine scall_of ttOk (by kernel_rfl : Try.prog.funcs[99]? = some Try.f99) rfl rfl rfl ?_
 try simp only [List.length_cons, List.length_nil, Nat.zero_add, Nat.reduceAdd]
 refine sw_ok ttOk mixed (by kernel_rfl) ?_
 conv => whnf
 repeat (first | (refine brF rfl ?_; conv => whnf) | fail)
 refine ok1_callF [0, 1, 2, 3, 4] [false, false, false, false, false] true (q) rfl rfl ⟨⟨rfl, by first | rfl | fail⟩, by (repeat' (first | exact trivial | refine And.intro ?_ ?_)) <;> first | rfl | exact ren_eq (by first | (simp; done) | fail) (by first | rfl | fail) | fail, by first | rfl | fail, by first | simp [plainRf, plainR, plainT, plainW], ?_⟩
 conv => whnf
 repeat (first | (refine Exists.intro _ (And.intro (sput_all rfl (by first | rfl | (simp [hl]; done) | fail)) ?_); conv => whnf) | (refine Exists.intro _ (And.intro rfl ?_); conv => whnf) | (refine And.intro (by first | omega | (simp; omega) | fail) ?_; conv => whnf) | fail)
 refine ⟨[0, 1, 2, 3, 4, 5], ?_, rfl, rfl, ?_, rfl⟩
 ·
  (repeat' (fail)) <;> first | rfl | fail
 ·
  (repeat' (first | exact trivial | refine And.intro ?_ ?_ | (refine wk_cons ?_ ?_))) <;> first | rfl | exact ren_eq (by first | (simp; done) | fail) (by first | rfl | fail) | fail
end Go.Sh
namespace Go.Sh
open Go.Proofs
set_option maxHeartbeats 4000000
def padL (B : Nat) (K : List UInt8) (w : UInt8) : List UInt8 := (List.range B).map (fun i => w ^^^ K.getD i 0)
theorem padL_len (B : Nat) (K : List UInt8) (w : UInt8) : (padL B K w).length = B := by unfold padL; simp
theorem pad_fil {B : Nat} {K : List UInt8} {w : UInt8} (h : K.length ≤ B) : fil B K.length (fun i => w ^^^ K.getD i 0) (fun _ => w) = padL B K w := by
 unfold fil padL
 apply List.map_congr_left
 intro i _
 by_cases hi : i < K.length
 ·
  rw [if_pos hi]
 ·
  rw [if_neg hi, List.getD_eq_getElem?_getD, List.getElem?_eq_none (by omega)]
  show w = w ^^^ 0
  exact (UInt8.xor_zero).symm
def key_n (K : List UInt8) : List UInt8 := if 64 < K.length then sum_n K else K
def key_w (K : List UInt8) : List UInt8 := if 128 < K.length then sum_w K else K
theorem key_len_n (K : List UInt8) : (key_n K).length ≤ 64 := by
 unfold key_n
 by_cases hk : 64 < K.length
 ·
  rw [if_pos hk, sum_len_n]; decide
 ·
  rw [if_neg hk]; omega
theorem f98_n : SCall Try.prog 98 [.u8 1] [] (.i 32) [] := by
 refine scall_of ttOk (by kernel_rfl : Try.prog.funcs[98]? = some Try.f98) rfl rfl rfl ?_
 try simp only [List.length_cons, List.length_nil, Nat.zero_add, Nat.reduceAdd]
 refine sw_ok ttOk mixed (by kernel_rfl) ?_
 conv => whnf
 repeat (first | (refine brT rfl ?_; conv => whnf) | fail)
 refine ⟨[], ?_, rfl, rfl, ?_, rfl⟩
 ·
  (repeat' (fail)) <;> first | rfl | fail
 ·
  (repeat' (first | exact trivial | fail)) <;> fail
theorem f134_n : SCall Try.prog 134 [.u8 1] [] (.i 64) [] := by
 refine scall_of ttOk (by kernel_rfl : Try.prog.funcs[134]? = some Try.f134) rfl rfl rfl ?_
 try simp only [List.length_cons, List.length_nil, Nat.zero_add, Nat.reduceAdd]
 refine sw_ok ttOk mixed (by kernel_rfl) ?_
 conv => whnf
 repeat (fail)
 refine ok1_callF [] [] true (f98_n) rfl rfl ⟨⟨rfl, by first | rfl | fail⟩, trivial, by first | rfl | fail, by first | rfl | fail, ?_⟩
 conv => whnf
 repeat (fail)
 refine ⟨[], ?_, rfl, rfl, ?_, rfl⟩
 ·
  (repeat' (fail)) <;> first | rfl | fail
 ·
  (repeat' (first | exact trivial | fail)) <;> fail
theorem key_len_w (K : List UInt8) : (key_w K).length ≤ 128 := by
 unfold key_w
 by_cases hk : 128 < K.length
 ·
  rw [if_pos hk, sum_len_w]; decide
 ·
  rw [if_neg hk]; omega
theorem f98_w : SCall Try.prog 98 [.u8 2] [] (.i 64) [] := by
 refine scall_of ttOk (by kernel_rfl : Try.prog.funcs[98]? = some Try.f98) rfl rfl rfl ?_
 try simp only [List.length_cons, List.length_nil, Nat.zero_add, Nat.reduceAdd]
 refine sw_ok ttOk mixed (by kernel_rfl) ?_
 conv => whnf
 repeat (first | (refine brT rfl ?_; conv => whnf) | (refine brF rfl ?_; conv => whnf) | fail)
 refine ⟨[], ?_, rfl, rfl, ?_, rfl⟩
 ·
  (repeat' (fail)) <;> first | rfl | fail
 ·
  (repeat' (first | exact trivial | fail)) <;> fail
theorem f134_w : SCall Try.prog 134 [.u8 2] [] (.i 128) [] := by
 refine scall_of ttOk (by kernel_rfl : Try.prog.funcs[134]? = some Try.f134) rfl rfl rfl ?_
 try simp only [List.length_cons, List.length_nil, Nat.zero_add, Nat.reduceAdd]
 refine sw_ok ttOk mixed (by kernel_rfl) ?_
 conv => whnf
 repeat (fail)
 refine ok1_callF [] [] true (f98_w) rfl rfl ⟨⟨rfl, by first | rfl | fail⟩, trivial, by first | rfl | fail, by first | rfl | fail, ?_⟩
 conv => whnf
 repeat (fail)
 refine ⟨[], ?_, rfl, rfl, ?_, rfl⟩
 ·
  (repeat' (fail)) <;> first | rfl | fail
 ·
  (repeat' (first | exact trivial | fail)) <;> fail
theorem wpi8 (i : Nat) (h : i < 1000) : w64 ((i : Int) + 1) = ((i + 1 : Nat) : Int) := by simp only [w64_eq]; omega
attribute [local irreducible] sum_n sum_w
theorem f100_n_s (K : List UInt8) (hK : K.length ≤ 64) (w : UInt8) (f : Bool) : SCall Try.prog 100 [.u8 1, .sl 0 0 K.length 1 f, .u8 w] [some (.ro (K.map .u8))] (.sl 1 0 64 1 true) [some (.ro (K.map .u8)), some (.row 5 ((padL 64 K w).map .u8))] := by
 have q135 := f135 w 64 (by decide) (by decide) true
 obtain ⟨Z, hZ⟩ : ∃ Z, Z = List.replicate 64 w := ⟨_, rfl⟩
 rw [← hZ] at q135
 have hlt : decide ((K.length : Int) > 64) = false := by simp; omega
 have hKl : K.length ≤ 64 := hK
 refine scall_of ttOk (by kernel_rfl : Try.prog.funcs[100]? = some Try.f100) rfl rfl rfl ?_
 try simp only [List.length_cons, List.length_nil, Nat.zero_add, Nat.reduceAdd]
 refine sw_ok ttOk mixed (by kernel_rfl) ?_
 conv => whnf
 repeat (fail)
 refine ok1_callF [] [] true (f134_n) rfl rfl ⟨⟨rfl, by first | rfl | fail⟩, trivial, by first | rfl | fail, by first | rfl | fail, ?_⟩
 conv => whnf
 repeat (first | (refine And.intro (by first | omega | (simp; omega) | fail) ?_; conv => whnf) | fail)
 first | intro _
 conv => whnf
 repeat (first | (refine Exists.intro _ (And.intro rfl ?_); conv => whnf) | fail)
 refine ok1_callF [] [] true (f134_n) rfl rfl ⟨⟨rfl, by first | rfl | fail⟩, trivial, by first | rfl | fail, by first | rfl | fail, ?_⟩
 conv => whnf
 repeat (fail)
 refine ok1_callF [1] [false, true] false (q135) rfl rfl ⟨⟨rfl, by first | rfl | fail⟩, by (repeat' (first | exact trivial | refine And.intro ?_ ?_)) <;> first | rfl | fail, by first | simp [plainHf, plainB], by first | rfl | fail, ?_⟩
 conv => whnf
 repeat (fail)
 refine loop_rule ttOk mixed (by kernel_rfl) (ι := { i : Nat // i ≤ K.length }) (fun i => [(7, .sl 1 0 64 1 true), (24, .sl 0 0 K.length 1 f), (25, .i K.length), (26, .i (i.1 : Int))]) (fun i => [some (.ro (K.map .u8)), some (.row 5 ((fil 64 i.1 (fun i => w ^^^ K.getD i 0) (fun _ => w)).map .u8))]) (fun _ => 1 + 1) (fun i => K.length - i.1) ⟨0, by omega⟩ ?_ ?_
 ·
  have hz : fil 64 0 (fun i => w ^^^ K.getD i 0) (fun _ => w) = Z := by rw [hZ]; exact fil_zero _ _ _
  dsimp only
  rw [hz]
  refine Weak.sel [0, 2] rfl rfl ?_ ?_ rfl rfl
  ·
   (repeat' (first | exact trivial | refine And.intro ?_ ?_ | fail)) <;> first | rfl | fail
  ·
   (repeat' (first | exact trivial | refine And.intro ?_ ?_ | fail)) <;> first | rfl | exact ren_eq (by first | (simp; done) | fail) (by first | rfl | fail) | fail
 ·
  rintro ⟨i, hi⟩
  dsimp only
  have hf := fil_len 64 i (fun i => w ^^^ K.getD i 0) (fun _ => w)
  by_cases hi2 : i < K.length
  ·
   have hlt2 : decide ((i : Int) < (K.length : Int)) = true := by simp; omega
   have hp := wpi8 i (by omega)
   have hiB : i < 64 := by omega
   have hx : (fil 64 i (fun i => w ^^^ K.getD i 0) (fun _ => w)).getD i 0 ^^^ K.getD i 0 = (fun i => w ^^^ K.getD i 0) i := by
    rw [fil_getD hiB, if_neg (by omega)]
   have hs := fil_setx (f := fun i => w ^^^ K.getD i 0) (g := fun _ => w) hiB hx
   conv => whnf
   first | refine brT (by exact hlt2) ?_ | fail
   conv => whnf
   repeat (first | (refine Exists.intro _ (And.intro (sput_m8 (i := i) (by first | rfl | omega | fail)) ?_); conv => whnf) | (refine Exists.intro _ (And.intro (sload_u8 (i := i) (by first | rfl | omega | fail) (by first | omega | fail)) ?_); conv => whnf) | (refine Exists.intro _ (And.intro (idx_i (m := i) (by first | rfl | fail)) ?_); conv => whnf) | (refine And.intro (by first | omega | fail) ?_; conv => whnf) | (refine And.intro ⟨by first | exact @rfl Nat _ | fail, by first | (simp only [hf, ti5, List.length_map]; omega) | fail⟩ ?_; conv => whnf) | fail)
   refine ⟨⟨i + 1, by omega⟩, by simp only; omega, ?_⟩
   dsimp only
   rw [← hs]
   refine Weak.sel [0, 1] rfl rfl ?_ ?_ rfl rfl
   ·
    (repeat' (first | exact trivial | refine And.intro ?_ ?_ | fail)) <;> first | exact wk_i (by first | exact hp | exact hp.symm | fail) | rfl | fail
   ·
    (repeat' (first | exact trivial | refine And.intro ?_ ?_ | fail)) <;> first | rfl | exact ren_eq (by first | (simp; done) | fail) (by first | rfl | fail) | exact ren_m8 (by first | rfl | fail) | fail
  ·
   obtain rfl : i = K.length := by omega
   have hlt2 : decide ((K.length : Int) < (K.length : Int)) = false := by simp
   rw [pad_fil (by omega)]
   conv => whnf
   first | refine brF (by exact hlt2) ?_ | fail
   conv => whnf
   repeat (fail)
   refine ⟨[0, 1], ?_, rfl, rfl, ?_, rfl⟩
   ·
    (repeat' (fail)) <;> first | rfl | fail
   ·
    (repeat' (first | exact trivial | refine And.intro ?_ ?_ | (refine wk_cons ?_ ?_))) <;> first | rfl | exact ren_eq (by first | (simp; done) | fail) (by first | rfl | fail) | fail
theorem f100_n_l (K : List UInt8) (hK : 64 < K.length) (hKb : K.length < 100000000000000) (w : UInt8) (f : Bool) : SCall Try.prog 100 [.u8 1, .sl 0 0 K.length 1 f, .u8 w] [some (.ro (K.map .u8))] (.sl 1 0 64 1 true) [some (.ro (K.map .u8)), some (.row 5 ((padL 64 (sum_n K) w).map .u8))] := by
 have q135 := f135 w 64 (by decide) (by decide) true
 obtain ⟨Z, hZ⟩ : ∃ Z, Z = List.replicate 64 w := ⟨_, rfl⟩
 rw [← hZ] at q135
 have hlt : decide ((K.length : Int) > 64) = true := by simp; omega
 have q99 := f99_n_b K hKb f true
 have hKl := sum_len_n K
 obtain ⟨W, hW⟩ : ∃ W, W = sum_n K := ⟨_, rfl⟩
 rw [← hW] at q99 hKl ⊢
 refine scall_of ttOk (by kernel_rfl : Try.prog.funcs[100]? = some Try.f100) rfl rfl rfl ?_
 try simp only [List.length_cons, List.length_nil, Nat.zero_add, Nat.reduceAdd]
 refine sw_ok ttOk mixed (by kernel_rfl) ?_
 conv => whnf
 repeat (fail)
 refine ok1_callF [] [] true (f134_n) rfl rfl ⟨⟨rfl, by first | rfl | fail⟩, trivial, by first | rfl | fail, by first | rfl | fail, ?_⟩
 conv => whnf
 repeat (fail)
 first | refine brT (by exact hlt) ?_ | fail
 conv => whnf
 repeat (first | (refine Exists.intro _ (And.intro rfl ?_); conv => whnf) | fail)
 refine ok1_callF [1, 0] [false, false, true] false (q99) rfl rfl ⟨⟨rfl, by first | rfl | fail⟩, by (repeat' (first | exact trivial | refine And.intro ?_ ?_)) <;> first | rfl | exact ren_eq (by first | (simp; done) | fail) (by first | rfl | fail) | fail, by first | simp [plainHf, plainB], by first | rfl | fail, ?_⟩
 conv => whnf
 repeat (first | (refine Exists.intro _ (And.intro rfl ?_); conv => whnf) | fail)
 refine ok1_callF [] [] true (f134_n) rfl rfl ⟨⟨rfl, by first | rfl | fail⟩, trivial, by first | rfl | fail, by first | rfl | fail, ?_⟩
 conv => whnf
 repeat (fail)
 refine ok1_callF [3] [false, true] false (q135) rfl rfl ⟨⟨rfl, by first | rfl | fail⟩, by (repeat' (first | exact trivial | refine And.intro ?_ ?_)) <;> first | rfl | fail, by first | simp [plainHf, plainB], by first | rfl | fail, ?_⟩
 conv => whnf
 repeat (fail)
 refine loop_rule ttOk mixed (by kernel_rfl) (ι := { i : Nat // i ≤ W.length }) (fun i => [(7, .sl 2 0 64 1 true), (24, .sl 1 0 W.length 1 true), (25, .i W.length), (26, .i (i.1 : Int))]) (fun i => [some (.ro (K.map .u8)), some (.ro (W.map .u8)), some (.row 5 ((fil 64 i.1 (fun i => w ^^^ W.getD i 0) (fun _ => w)).map .u8))]) (fun _ => 2 + 1) (fun i => W.length - i.1) ⟨0, by omega⟩ ?_ ?_
 ·
  have hz : fil 64 0 (fun i => w ^^^ W.getD i 0) (fun _ => w) = Z := by rw [hZ]; exact fil_zero _ _ _
  dsimp only
  rw [hz]
  refine Weak.sel [0, 2, 4] rfl rfl ?_ ?_ rfl rfl
  ·
   (repeat' (first | exact trivial | refine And.intro ?_ ?_ | fail)) <;> first | rfl | exact wk_i (by first | rfl | omega | fail) | exact wk_sl rfl (by first | rfl | fail) (by first | exact hKl | fail) | fail
  ·
   (repeat' (first | exact trivial | refine And.intro ?_ ?_ | fail)) <;> first | rfl | exact ren_eq (by first | (simp; done) | fail) (by first | rfl | fail) | fail
 ·
  rintro ⟨i, hi⟩
  dsimp only
  have hf := fil_len 64 i (fun i => w ^^^ W.getD i 0) (fun _ => w)
  by_cases hi2 : i < W.length
  ·
   have hlt2 : decide ((i : Int) < (W.length : Int)) = true := by simp; omega
   have hp := wpi8 i (by omega)
   have hiB : i < 64 := by omega
   have hx : (fil 64 i (fun i => w ^^^ W.getD i 0) (fun _ => w)).getD i 0 ^^^ W.getD i 0 = (fun i => w ^^^ W.getD i 0) i := by
    rw [fil_getD hiB, if_neg (by omega)]
   have hs := fil_setx (f := fun i => w ^^^ W.getD i 0) (g := fun _ => w) hiB hx
   conv => whnf
   first | refine brT (by exact hlt2) ?_ | fail
   conv => whnf
   repeat (first | (refine Exists.intro _ (And.intro (sput_m8 (i := i) (by first | rfl | omega | fail)) ?_); conv => whnf) | (refine Exists.intro _ (And.intro (sload_u8 (i := i) (by first | rfl | omega | fail) (by first | omega | fail)) ?_); conv => whnf) | (refine Exists.intro _ (And.intro (idx_i (m := i) (by first | rfl | fail)) ?_); conv => whnf) | (refine And.intro (by first | omega | fail) ?_; conv => whnf) | (refine And.intro ⟨by first | exact @rfl Nat _ | fail, by first | (simp only [hf, ti5, List.length_map]; omega) | fail⟩ ?_; conv => whnf) | fail)
   refine ⟨⟨i + 1, by omega⟩, by simp only; omega, ?_⟩
   dsimp only
   rw [← hs]
   refine Weak.sel [0, 1, 2] rfl rfl ?_ ?_ rfl rfl
   ·
    (repeat' (first | exact trivial | refine And.intro ?_ ?_ | fail)) <;> first | exact wk_i (by first | exact hp | exact hp.symm | fail) | rfl | fail
   ·
    (repeat' (first | exact trivial | refine And.intro ?_ ?_ | fail)) <;> first | rfl | exact ren_eq (by first | (simp; done) | fail) (by first | rfl | fail) | exact ren_m8 (by first | rfl | fail) | fail
  ·
   obtain rfl : i = W.length := by omega
   have hlt2 : decide ((W.length : Int) < (W.length : Int)) = false := by simp
   rw [pad_fil (by omega)]
   conv => whnf
   first | refine brF (by exact hlt2) ?_ | fail
   conv => whnf
   repeat (fail)
   refine ⟨[0, 2], ?_, rfl, rfl, ?_, rfl⟩
   ·
    (repeat' (fail)) <;> first | rfl | fail
   ·
    (repeat' (first | exact trivial | refine And.intro ?_ ?_ | (refine wk_cons ?_ ?_))) <;> first | rfl | exact ren_eq (by first | (simp; done) | fail) (by first | rfl | fail) | fail
theorem f100_n (K : List UInt8) (hKb : K.length < 100000000000000) (w : UInt8) (f : Bool) : SCall Try.prog 100 [.u8 1, .sl 0 0 K.length 1 f, .u8 w] [some (.ro (K.map .u8))] (.sl 1 0 64 1 true) [some (.ro (K.map .u8)), some (.row 5 ((padL 64 (key_n K) w).map .u8))] := by
 by_cases hk : 64 < K.length
 ·
  rw [show key_n K = sum_n K by unfold key_n; rw [if_pos hk]]; exact f100_n_l K hk hKb w f
 ·
  rw [show key_n K = K by unfold key_n; rw [if_neg hk]]; exact f100_n_s K (by omega) w f
theorem f100_w_s (K : List UInt8) (hK : K.length ≤ 128) (w : UInt8) (f : Bool) : SCall Try.prog 100 [.u8 2, .sl 0 0 K.length 1 f, .u8 w] [some (.ro (K.map .u8))] (.sl 1 0 128 1 true) [some (.ro (K.map .u8)), some (.row 5 ((padL 128 K w).map .u8))] := by
 have q135 := f135 w 128 (by decide) (by decide) true
 obtain ⟨Z, hZ⟩ : ∃ Z, Z = List.replicate 128 w := ⟨_, rfl⟩
 rw [← hZ] at q135
 have hlt : decide ((K.length : Int) > 128) = false := by simp; omega
 have hKl : K.length ≤ 128 := hK
 refine scall_of ttOk (by kernel_rfl : Try.prog.funcs[100]? = some Try.f100) rfl rfl rfl ?_
 try simp only [List.length_cons, List.length_nil, Nat.zero_add, Nat.reduceAdd]
 refine sw_ok ttOk mixed (by kernel_rfl) ?_
 conv => whnf
 repeat (fail)
 refine ok1_callF [] [] true (f134_w) rfl rfl ⟨⟨rfl, by first | rfl | fail⟩, trivial, by first | rfl | fail, by first | rfl | fail, ?_⟩
 conv => whnf
 repeat (first | (refine And.intro (by first | omega | (simp; omega) | fail) ?_; conv => whnf) | fail)
 first | intro _
 conv => whnf
 repeat (first | (refine Exists.intro _ (And.intro rfl ?_); conv => whnf) | fail)
 refine ok1_callF [] [] true (f134_w) rfl rfl ⟨⟨rfl, by first | rfl | fail⟩, trivial, by first | rfl | fail, by first | rfl | fail, ?_⟩
 conv => whnf
 repeat (fail)
 refine ok1_callF [1] [false, true] false (q135) rfl rfl ⟨⟨rfl, by first | rfl | fail⟩, by (repeat' (first | exact trivial | refine And.intro ?_ ?_)) <;> first | rfl | fail, by first | simp [plainHf, plainB], by first | rfl | fail, ?_⟩
 conv => whnf
 repeat (fail)
 refine loop_rule ttOk mixed (by kernel_rfl) (ι := { i : Nat // i ≤ K.length }) (fun i => [(7, .sl 1 0 128 1 true), (24, .sl 0 0 K.length 1 f), (25, .i K.length), (26, .i (i.1 : Int))]) (fun i => [some (.ro (K.map .u8)), some (.row 5 ((fil 128 i.1 (fun i => w ^^^ K.getD i 0) (fun _ => w)).map .u8))]) (fun _ => 1 + 1) (fun i => K.length - i.1) ⟨0, by omega⟩ ?_ ?_
 ·
  have hz : fil 128 0 (fun i => w ^^^ K.getD i 0) (fun _ => w) = Z := by rw [hZ]; exact fil_zero _ _ _
  dsimp only
  rw [hz]
  refine Weak.sel [0, 2] rfl rfl ?_ ?_ rfl rfl
  ·
   (repeat' (first | exact trivial | refine And.intro ?_ ?_ | fail)) <;> first | rfl | fail
  ·
   (repeat' (first | exact trivial | refine And.intro ?_ ?_ | fail)) <;> first | rfl | exact ren_eq (by first | (simp; done) | fail) (by first | rfl | fail) | fail
 ·
  rintro ⟨i, hi⟩
  dsimp only
  have hf := fil_len 128 i (fun i => w ^^^ K.getD i 0) (fun _ => w)
  by_cases hi2 : i < K.length
  ·
   have hlt2 : decide ((i : Int) < (K.length : Int)) = true := by simp; omega
   have hp := wpi8 i (by omega)
   have hiB : i < 128 := by omega
   have hx : (fil 128 i (fun i => w ^^^ K.getD i 0) (fun _ => w)).getD i 0 ^^^ K.getD i 0 = (fun i => w ^^^ K.getD i 0) i := by
    rw [fil_getD hiB, if_neg (by omega)]
   have hs := fil_setx (f := fun i => w ^^^ K.getD i 0) (g := fun _ => w) hiB hx
   conv => whnf
   first | refine brT (by exact hlt2) ?_ | fail
   conv => whnf
   repeat (first | (refine Exists.intro _ (And.intro (sput_m8 (i := i) (by first | rfl | omega | fail)) ?_); conv => whnf) | (refine Exists.intro _ (And.intro (sload_u8 (i := i) (by first | rfl | omega | fail) (by first | omega | fail)) ?_); conv => whnf) | (refine Exists.intro _ (And.intro (idx_i (m := i) (by first | rfl | fail)) ?_); conv => whnf) | (refine And.intro (by first | omega | fail) ?_; conv => whnf) | (refine And.intro ⟨by first | exact @rfl Nat _ | fail, by first | (simp only [hf, ti5, List.length_map]; omega) | fail⟩ ?_; conv => whnf) | fail)
   refine ⟨⟨i + 1, by omega⟩, by simp only; omega, ?_⟩
   dsimp only
   rw [← hs]
   refine Weak.sel [0, 1] rfl rfl ?_ ?_ rfl rfl
   ·
    (repeat' (first | exact trivial | refine And.intro ?_ ?_ | fail)) <;> first | exact wk_i (by first | exact hp | exact hp.symm | fail) | rfl | fail
   ·
    (repeat' (first | exact trivial | refine And.intro ?_ ?_ | fail)) <;> first | rfl | exact ren_eq (by first | (simp; done) | fail) (by first | rfl | fail) | exact ren_m8 (by first | rfl | fail) | fail
  ·
   obtain rfl : i = K.length := by omega
   have hlt2 : decide ((K.length : Int) < (K.length : Int)) = false := by simp
   rw [pad_fil (by omega)]
   conv => whnf
   first | refine brF (by exact hlt2) ?_ | fail
   conv => whnf
   repeat (fail)
   refine ⟨[0, 1], ?_, rfl, rfl, ?_, rfl⟩
   ·
    (repeat' (fail)) <;> first | rfl | fail
   ·
    (repeat' (first | exact trivial | refine And.intro ?_ ?_ | (refine wk_cons ?_ ?_))) <;> first | rfl | exact ren_eq (by first | (simp; done) | fail) (by first | rfl | fail) | fail
theorem f100_w_l (K : List UInt8) (hK : 128 < K.length) (hKb : K.length < 100000000000000) (w : UInt8) (f : Bool) : SCall Try.prog 100 [.u8 2, .sl 0 0 K.length 1 f, .u8 w] [some (.ro (K.map .u8))] (.sl 1 0 128 1 true) [some (.ro (K.map .u8)), some (.row 5 ((padL 128 (sum_w K) w).map .u8))] := by
 have q135 := f135 w 128 (by decide) (by decide) true
 obtain ⟨Z, hZ⟩ : ∃ Z, Z = List.replicate 128 w := ⟨_, rfl⟩
 rw [← hZ] at q135
 have hlt : decide ((K.length : Int) > 128) = true := by simp; omega
 have q99 := f99_w_b K hKb f true
 have hKl := sum_len_w K
 obtain ⟨W, hW⟩ : ∃ W, W = sum_w K := ⟨_, rfl⟩
 rw [← hW] at q99 hKl ⊢
 refine scall_of ttOk (by kernel_rfl : Try.prog.funcs[100]? = some Try.f100) rfl rfl rfl ?_
 try simp only [List.length_cons, List.length_nil, Nat.zero_add, Nat.reduceAdd]
 refine sw_ok ttOk mixed (by kernel_rfl) ?_
 conv => whnf
 repeat (fail)
 refine ok1_callF [] [] true (f134_w) rfl rfl ⟨⟨rfl, by first | rfl | fail⟩, trivial, by first | rfl | fail, by first | rfl | fail, ?_⟩
 conv => whnf
 repeat (fail)
 first | refine brT (by exact hlt) ?_ | fail
 conv => whnf
 repeat (first | (refine Exists.intro _ (And.intro rfl ?_); conv => whnf) | fail)
 refine ok1_callF [1, 0] [false, false, true] false (q99) rfl rfl ⟨⟨rfl, by first | rfl | fail⟩, by (repeat' (first | exact trivial | refine And.intro ?_ ?_)) <;> first | rfl | exact ren_eq (by first | (simp; done) | fail) (by first | rfl | fail) | fail, by first | simp [plainHf, plainB], by first | rfl | fail, ?_⟩
 conv => whnf
 repeat (first | (refine Exists.intro _ (And.intro rfl ?_); conv => whnf) | fail)
 refine ok1_callF [] [] true (f134_w) rfl rfl ⟨⟨rfl, by first | rfl | fail⟩, trivial, by first | rfl | fail, by first | rfl | fail, ?_⟩
 conv => whnf
 repeat (fail)
 refine ok1_callF [3] [false, true] false (q135) rfl rfl ⟨⟨rfl, by first | rfl | fail⟩, by (repeat' (first | exact trivial | refine And.intro ?_ ?_)) <;> first | rfl | fail, by first | simp [plainHf, plainB], by first | rfl | fail, ?_⟩
 conv => whnf
 repeat (fail)
 refine loop_rule ttOk mixed (by kernel_rfl) (ι := { i : Nat // i ≤ W.length }) (fun i => [(7, .sl 2 0 128 1 true), (24, .sl 1 0 W.length 1 true), (25, .i W.length), (26, .i (i.1 : Int))]) (fun i => [some (.ro (K.map .u8)), some (.ro (W.map .u8)), some (.row 5 ((fil 128 i.1 (fun i => w ^^^ W.getD i 0) (fun _ => w)).map .u8))]) (fun _ => 2 + 1) (fun i => W.length - i.1) ⟨0, by omega⟩ ?_ ?_
 ·
  have hz : fil 128 0 (fun i => w ^^^ W.getD i 0) (fun _ => w) = Z := by rw [hZ]; exact fil_zero _ _ _
  dsimp only
  rw [hz]
  refine Weak.sel [0, 2, 4] rfl rfl ?_ ?_ rfl rfl
  ·
   (repeat' (first | exact trivial | refine And.intro ?_ ?_ | fail)) <;> first | rfl | exact wk_i (by first | rfl | omega | fail) | exact wk_sl rfl (by first | rfl | fail) (by first | exact hKl | fail) | fail
  ·
   (repeat' (first | exact trivial | refine And.intro ?_ ?_ | fail)) <;> first | rfl | exact ren_eq (by first | (simp; done) | fail) (by first | rfl | fail) | fail
 ·
  rintro ⟨i, hi⟩
  dsimp only
  have hf := fil_len 128 i (fun i => w ^^^ W.getD i 0) (fun _ => w)
  by_cases hi2 : i < W.length
  ·
   have hlt2 : decide ((i : Int) < (W.length : Int)) = true := by simp; omega
   have hp := wpi8 i (by omega)
   have hiB : i < 128 := by omega
   have hx : (fil 128 i (fun i => w ^^^ W.getD i 0) (fun _ => w)).getD i 0 ^^^ W.getD i 0 = (fun i => w ^^^ W.getD i 0) i := by
    rw [fil_getD hiB, if_neg (by omega)]
   have hs := fil_setx (f := fun i => w ^^^ W.getD i 0) (g := fun _ => w) hiB hx
   conv => whnf
   first | refine brT (by exact hlt2) ?_ | fail
   conv => whnf
   repeat (first | (refine Exists.intro _ (And.intro (sput_m8 (i := i) (by first | rfl | omega | fail)) ?_); conv => whnf) | (refine Exists.intro _ (And.intro (sload_u8 (i := i) (by first | rfl | omega | fail) (by first | omega | fail)) ?_); conv => whnf) | (refine Exists.intro _ (And.intro (idx_i (m := i) (by first | rfl | fail)) ?_); conv => whnf) | (refine And.intro (by first | omega | fail) ?_; conv => whnf) | (refine And.intro ⟨by first | exact @rfl Nat _ | fail, by first | (simp only [hf, ti5, List.length_map]; omega) | fail⟩ ?_; conv => whnf) | fail)
   refine ⟨⟨i + 1, by omega⟩, by simp only; omega, ?_⟩
   dsimp only
   rw [← hs]
   refine Weak.sel [0, 1, 2] rfl rfl ?_ ?_ rfl rfl
   ·
    (repeat' (first | exact trivial | refine And.intro ?_ ?_ | fail)) <;> first | exact wk_i (by first | exact hp | exact hp.symm | fail) | rfl | fail
   ·
    (repeat' (first | exact trivial | refine And.intro ?_ ?_ | fail)) <;> first | rfl | exact ren_eq (by first | (simp; done) | fail) (by first | rfl | fail) | exact ren_m8 (by first | rfl | fail) | fail
  ·
   obtain rfl : i = W.length := by omega
   have hlt2 : decide ((W.length : Int) < (W.length : Int)) = false := by simp
   rw [pad_fil (by omega)]
   conv => whnf
   first | refine brF (by exact hlt2) ?_ | fail
   conv => whnf
   repeat (fail)
   refine ⟨[0, 2], ?_, rfl, rfl, ?_, rfl⟩
   ·
    (repeat' (fail)) <;> first | rfl | fail
   ·
    (repeat' (first | exact trivial | refine And.intro ?_ ?_ | (refine wk_cons ?_ ?_))) <;> first | rfl | exact ren_eq (by first | (simp; done) | fail) (by first | rfl | fail) | fail
theorem f100_w (K : List UInt8) (hKb : K.length < 100000000000000) (w : UInt8) (f : Bool) : SCall Try.prog 100 [.u8 2, .sl 0 0 K.length 1 f, .u8 w] [some (.ro (K.map .u8))] (.sl 1 0 128 1 true) [some (.ro (K.map .u8)), some (.row 5 ((padL 128 (key_w K) w).map .u8))] := by
 by_cases hk : 128 < K.length
 ·
  rw [show key_w K = sum_w K by unfold key_w; rw [if_pos hk]]; exact f100_w_l K hk hKb w f
 ·
  rw [show key_w K = K by unfold key_w; rw [if_neg hk]]; exact f100_w_s K (by omega) w f
end Go.Sh
namespace Go.Sh
open Go.Proofs
set_option maxHeartbeats 4000000
def mac_n (K T : List UInt8) : List UInt8 := sum_n (padL 64 (key_n K) 92 ++ sum_n (padL 64 (key_n K) 54 ++ T))
def mac_w (K T : List UInt8) : List UInt8 := sum_w (padL 128 (key_w K) 92 ++ sum_w (padL 128 (key_w K) 54 ++ T))
theorem mac_len_n (K T : List UInt8) : (mac_n K T).length = 32 := sum_len_n _
theorem mac_len_w (K T : List UInt8) : (mac_w K T).length = 64 := sum_len_w _
attribute [local irreducible] sum_n sum_w padL key_n key_w
theorem f49_n_b (K : List UInt8) (hK : K.length < 100000000000000) (b0 : List UInt8) (hb0 : b0.length < 100000000000000) (fk f0 fl : Bool) : SCall Try.prog 49 [.u8 1, .sl 0 0 K.length 1 fk, .sl 1 0 1 1 fl] [some (.ro (K.map .u8)), some (.ro [.sl 2 0 b0.length 1 f0]), some (.ro (b0.map .u8))] (.sl 3 0 32 1 true) [some (.ro (K.map .u8)), some (.ro [.sl 2 0 b0.length 1 f0]), some (.ro (b0.map .u8)), some (.box ((mac_n K (b0)).map .u8))] := by
 have q1 := f100_n K hK 54 fk
 have q2 := f100_n K hK 92 fk
 have l1 := padL_len 64 (key_n K) 54
 have l2 := padL_len 64 (key_n K) 92
 obtain ⟨P1, hP1⟩ : ∃ P, P = padL 64 (key_n K) 54 := ⟨_, rfl⟩
 obtain ⟨P2, hP2⟩ : ∃ P, P = padL 64 (key_n K) 92 := ⟨_, rfl⟩
 rw [← hP1] at q1 l1
 rw [← hP2] at q2 l2
 have q3 := f99_n_bb P1 b0 (by omega) hb0 true f0 false
 have e3 : sum_n (P1 ++ b0) = sum_n (P1 ++ (b0)) := by simp only [List.append_assoc]
 have l3 := sum_len_n (P1 ++ (b0))
 rw [e3, l1] at q3
 have hm : mac_n K (b0) = sum_n (P2 ++ sum_n (P1 ++ (b0))) := by unfold mac_n; rw [hP1, hP2]
 rw [hm]
 obtain ⟨I, hI⟩ : ∃ I, I = sum_n (P1 ++ (b0)) := ⟨_, rfl⟩
 rw [← hI] at q3 l3 ⊢
 have q4 := f99_n_bb P2 I (by omega) (by omega) true true true
 rw [l2, l3] at q4
 have l4 := sum_len_n (P2 ++ I)
 obtain ⟨W, hW⟩ : ∃ W, W = sum_n (P2 ++ I) := ⟨_, rfl⟩
 rw [← hW] at q4 l4 ⊢
 clear hP1 hP2 hI hW hm e3
 refine scall_of ttOk (by kernel_rfl : Try.prog.funcs[49]? = some Try.f49) rfl rfl rfl ?_
 try simp only [List.length_cons, List.length_nil, Nat.zero_add, Nat.reduceAdd]
 refine sw_ok ttOk mixed (by kernel_rfl) ?_
 conv => whnf
 repeat (fail)
 refine ok1_callF [] [] true (f98_n) rfl rfl ⟨⟨rfl, by first | rfl | fail⟩, trivial, by first | rfl | fail, by first | rfl | fail, ?_⟩
 conv => whnf
 repeat (first | (refine brF rfl ?_; conv => whnf) | fail)
 refine ok1_callF [0] [false, true] false (q1) rfl rfl ⟨⟨rfl, by first | rfl | fail⟩, by (repeat' (first | exact trivial | refine And.intro ?_ ?_)) <;> first | exact ren_eq (by first | (simp; done) | fail) (by first | rfl | fail) | fail, by first | simp [plainHf, plainB], by first | rfl | fail, ?_⟩
 conv => whnf
 repeat (first | (refine Exists.intro _ (And.intro rfl ?_); conv => whnf) | (refine And.intro ⟨Nat.le_of_ble_eq_true rfl, Nat.le_of_ble_eq_true rfl, Nat.le_of_ble_eq_true rfl, Nat.le_of_ble_eq_true rfl⟩ ?_; conv => whnf) | fail)
 refine ok1_callF [5, 3, 2] [false, false, false, true] false (q3) rfl rfl ⟨⟨rfl, by first | rfl | fail⟩, by (repeat' (first | exact trivial | refine And.intro ?_ ?_)) <;> first | rfl | exact ren_eq (by first | (simp; done) | fail) (by first | rfl | fail) | fail, by first | simp [plainHf, plainB], by first | rfl | fail, ?_⟩
 conv => whnf
 repeat (fail)
 refine ok1_callF [0] [false, true] false (q2) rfl rfl ⟨⟨rfl, by first | rfl | fail⟩, by (repeat' (first | exact trivial | refine And.intro ?_ ?_)) <;> first | exact ren_eq (by first | (simp; done) | fail) (by first | rfl | fail) | fail, by first | simp [plainHf, plainB], by first | rfl | fail, ?_⟩
 conv => whnf
 repeat (first | (refine Exists.intro _ (And.intro rfl ?_); conv => whnf) | fail)
 refine ok1_callF [8, 7, 6] [false, false, false, true] false (q4) rfl rfl ⟨⟨rfl, by first | rfl | fail⟩, by (repeat' (first | exact trivial | refine And.intro ?_ ?_)) <;> first | rfl | exact ren_eq (by first | (simp; done) | fail) (by first | rfl | fail) | fail, by first | simp [plainHf, plainB], by first | rfl | fail, ?_⟩
 conv => whnf
 repeat (fail)
 refine ⟨[0, 1, 2, 9], ?_, rfl, rfl, ?_, rfl⟩
 ·
  (repeat' (fail)) <;> first | rfl | fail
 ·
  (repeat' (first | exact trivial | refine And.intro ?_ ?_ | (refine wk_cons ?_ ?_))) <;> first | rfl | exact ren_eq (by first | (simp; done) | fail) (by first | rfl | fail) | fail
theorem f49_n_bb (K : List UInt8) (hK : K.length < 100000000000000) (b0 b1 : List UInt8) (hb0 : b0.length < 100000000000000) (hb1 : b1.length < 100000000000000) (fk f0 f1 fl : Bool) : SCall Try.prog 49 [.u8 1, .sl 0 0 K.length 1 fk, .sl 1 0 2 1 fl] [some (.ro (K.map .u8)), some (.ro [.sl 2 0 b0.length 1 f0, .sl 3 0 b1.length 1 f1]), some (.ro (b0.map .u8)), some (.ro (b1.map .u8))] (.sl 4 0 32 1 true) [some (.ro (K.map .u8)), some (.ro [.sl 2 0 b0.length 1 f0, .sl 3 0 b1.length 1 f1]), some (.ro (b0.map .u8)), some (.ro (b1.map .u8)), some (.box ((mac_n K (b0 ++ b1)).map .u8))] := by
 have q1 := f100_n K hK 54 fk
 have q2 := f100_n K hK 92 fk
 have l1 := padL_len 64 (key_n K) 54
 have l2 := padL_len 64 (key_n K) 92
 obtain ⟨P1, hP1⟩ : ∃ P, P = padL 64 (key_n K) 54 := ⟨_, rfl⟩
 obtain ⟨P2, hP2⟩ : ∃ P, P = padL 64 (key_n K) 92 := ⟨_, rfl⟩
 rw [← hP1] at q1 l1
 rw [← hP2] at q2 l2
 have q3 := f99_n_bbb P1 b0 b1 (by omega) hb0 hb1 true f0 f1 false
 have e3 : sum_n (P1 ++ b0 ++ b1) = sum_n (P1 ++ (b0 ++ b1)) := by simp only [List.append_assoc]
 have l3 := sum_len_n (P1 ++ (b0 ++ b1))
 rw [e3, l1] at q3
 have hm : mac_n K (b0 ++ b1) = sum_n (P2 ++ sum_n (P1 ++ (b0 ++ b1))) := by unfold mac_n; rw [hP1, hP2]
 rw [hm]
 obtain ⟨I, hI⟩ : ∃ I, I = sum_n (P1 ++ (b0 ++ b1)) := ⟨_, rfl⟩
 rw [← hI] at q3 l3 ⊢
 have q4 := f99_n_bb P2 I (by omega) (by omega) true true true
 rw [l2, l3] at q4
 have l4 := sum_len_n (P2 ++ I)
 obtain ⟨W, hW⟩ : ∃ W, W = sum_n (P2 ++ I) := ⟨_, rfl⟩
 rw [← hW] at q4 l4 ⊢
 clear hP1 hP2 hI hW hm e3
 refine scall_of ttOk (by kernel_rfl : Try.prog.funcs[49]? = some Try.f49) rfl rfl rfl ?_
 try simp only [List.length_cons, List.length_nil, Nat.zero_add, Nat.reduceAdd]
 refine sw_ok ttOk mixed (by kernel_rfl) ?_
 conv => whnf
 repeat (fail)
 refine ok1_callF [] [] true (f98_n) rfl rfl ⟨⟨rfl, by first | rfl | fail⟩, trivial, by first | rfl | fail, by first | rfl | fail, ?_⟩
 conv => whnf
 repeat (first | (refine brF rfl ?_; conv => whnf) | fail)
 refine ok1_callF [0] [false, true] false (q1) rfl rfl ⟨⟨rfl, by first | rfl | fail⟩, by (repeat' (first | exact trivial | refine And.intro ?_ ?_)) <;> first | exact ren_eq (by first | (simp; done) | fail) (by first | rfl | fail) | fail, by first | simp [plainHf, plainB], by first | rfl | fail, ?_⟩
 conv => whnf
 repeat (first | (refine Exists.intro _ (And.intro rfl ?_); conv => whnf) | (refine And.intro ⟨Nat.le_of_ble_eq_true rfl, Nat.le_of_ble_eq_true rfl, Nat.le_of_ble_eq_true rfl, Nat.le_of_ble_eq_true rfl⟩ ?_; conv => whnf) | fail)
 refine ok1_callF [6, 4, 2, 3] [false, false, false, false, true] false (q3) rfl rfl ⟨⟨rfl, by first | rfl | fail⟩, by (repeat' (first | exact trivial | refine And.intro ?_ ?_)) <;> first | rfl | exact ren_eq (by first | (simp; done) | fail) (by first | rfl | fail) | fail, by first | simp [plainHf, plainB], by first | rfl | fail, ?_⟩
 conv => whnf
 repeat (fail)
 refine ok1_callF [0] [false, true] false (q2) rfl rfl ⟨⟨rfl, by first | rfl | fail⟩, by (repeat' (first | exact trivial | refine And.intro ?_ ?_)) <;> first | exact ren_eq (by first | (simp; done) | fail) (by first | rfl | fail) | fail, by first | simp [plainHf, plainB], by first | rfl | fail, ?_⟩
 conv => whnf
 repeat (first | (refine Exists.intro _ (And.intro rfl ?_); conv => whnf) | fail)
 refine ok1_callF [9, 8, 7] [false, false, false, true] false (q4) rfl rfl ⟨⟨rfl, by first | rfl | fail⟩, by (repeat' (first | exact trivial | refine And.intro ?_ ?_)) <;> first | rfl | exact ren_eq (by first | (simp; done) | fail) (by first | rfl | fail) | fail, by first | simp [plainHf, plainB], by first | rfl | fail, ?_⟩
 conv => whnf
 repeat (fail)
 refine ⟨[0, 1, 2, 3, 10], ?_, rfl, rfl, ?_, rfl⟩
 ·
  (repeat' (fail)) <;> first | rfl | fail
 ·
  (repeat' (first | exact trivial | refine And.intro ?_ ?_ | (refine wk_cons ?_ ?_))) <;> first | rfl | exact ren_eq (by first | (simp; done) | fail) (by first | rfl | fail) | fail
theorem f49_n_obb (K : List UInt8) (hK : K.length < 100000000000000) (b1 b2 : List UInt8) (hb1 : b1.length < 100000000000000) (hb2 : b2.length < 100000000000000) (fk f1 f2 fl : Bool) : SCall Try.prog 49 [.u8 1, .sl 0 0 K.length 1 fk, .sl 1 0 3 1 fl] [some (.ro (K.map .u8)), some (.ro [.slnil, .sl 2 0 b1.length 1 f1, .sl 3 0 b2.length 1 f2]), some (.ro (b1.map .u8)), some (.ro (b2.map .u8))] (.sl 4 0 32 1 true) [some (.ro (K.map .u8)), some (.ro [.slnil, .sl 2 0 b1.length 1 f1, .sl 3 0 b2.length 1 f2]), some (.ro (b1.map .u8)), some (.ro (b2.map .u8)), some (.box ((mac_n K (b1 ++ b2)).map .u8))] := by
 have q1 := f100_n K hK 54 fk
 have q2 := f100_n K hK 92 fk
 have l1 := padL_len 64 (key_n K) 54
 have l2 := padL_len 64 (key_n K) 92
 obtain ⟨P1, hP1⟩ : ∃ P, P = padL 64 (key_n K) 54 := ⟨_, rfl⟩
 obtain ⟨P2, hP2⟩ : ∃ P, P = padL 64 (key_n K) 92 := ⟨_, rfl⟩
 rw [← hP1] at q1 l1
 rw [← hP2] at q2 l2
 have q3 := f99_n_bobb P1 b1 b2 (by omega) hb1 hb2 true f1 f2 false
 have e3 : sum_n (P1 ++ b1 ++ b2) = sum_n (P1 ++ (b1 ++ b2)) := by simp only [List.append_assoc]
 have l3 := sum_len_n (P1 ++ (b1 ++ b2))
 rw [e3, l1] at q3
 have hm : mac_n K (b1 ++ b2) = sum_n (P2 ++ sum_n (P1 ++ (b1 ++ b2))) := by unfold mac_n; rw [hP1, hP2]
 rw [hm]
 obtain ⟨I, hI⟩ : ∃ I, I = sum_n (P1 ++ (b1 ++ b2)) := ⟨_, rfl⟩
 rw [← hI] at q3 l3 ⊢
 have q4 := f99_n_bb P2 I (by omega) (by omega) true true true
 rw [l2, l3] at q4
 have l4 := sum_len_n (P2 ++ I)
 obtain ⟨W, hW⟩ : ∃ W, W = sum_n (P2 ++ I) := ⟨_, rfl⟩
 rw [← hW] at q4 l4 ⊢
 clear hP1 hP2 hI hW hm e3
 refine scall_of ttOk (by kernel_rfl : Try.prog.funcs[49]? = some Try.f49) rfl rfl rfl ?_
 try simp only [List.length_cons, List.length_nil, Nat.zero_add, Nat.reduceAdd]
 refine sw_ok ttOk mixed (by kernel_rfl) ?_
 conv => whnf
 repeat (fail)
 refine ok1_callF [] [] true (f98_n) rfl rfl ⟨⟨rfl, by first | rfl | fail⟩, trivial, by first | rfl | fail, by first | rfl | fail, ?_⟩
 conv => whnf
 repeat (first | (refine brF rfl ?_; conv => whnf) | fail)
 refine ok1_callF [0] [false, true] false (q1) rfl rfl ⟨⟨rfl, by first | rfl | fail⟩, by (repeat' (first | exact trivial | refine And.intro ?_ ?_)) <;> first | exact ren_eq (by first | (simp; done) | fail) (by first | rfl | fail) | fail, by first | simp [plainHf, plainB], by first | rfl | fail, ?_⟩
 conv => whnf
 repeat (first | (refine Exists.intro _ (And.intro rfl ?_); conv => whnf) | (refine And.intro ⟨Nat.le_of_ble_eq_true rfl, Nat.le_of_ble_eq_true rfl, Nat.le_of_ble_eq_true rfl, Nat.le_of_ble_eq_true rfl⟩ ?_; conv => whnf) | fail)
 refine ok1_callF [6, 4, 2, 3] [false, false, false, false, true] false (q3) rfl rfl ⟨⟨rfl, by first | rfl | fail⟩, by (repeat' (first | exact trivial | refine And.intro ?_ ?_)) <;> first | rfl | exact ren_eq (by first | (simp; done) | fail) (by first | rfl | fail) | fail, by first | simp [plainHf, plainB], by first | rfl | fail, ?_⟩
 conv => whnf
 repeat (fail)
 refine ok1_callF [0] [false, true] false (q2) rfl rfl ⟨⟨rfl, by first | rfl | fail⟩, by (repeat' (first | exact trivial | refine And.intro ?_ ?_)) <;> first | exact ren_eq (by first | (simp; done) | fail) (by first | rfl | fail) | fail, by first | simp [plainHf, plainB], by first | rfl | fail, ?_⟩
 conv => whnf
 repeat (first | (refine Exists.intro _ (And.intro rfl ?_); conv => whnf) | fail)
 refine ok1_callF [9, 8, 7] [false, false, false, true] false (q4) rfl rfl ⟨⟨rfl, by first | rfl | fail⟩, by (repeat' (first | exact trivial | refine And.intro ?_ ?_)) <;> first | rfl | exact ren_eq (by first | (simp; done) | fail) (by first | rfl | fail) | fail, by first | simp [plainHf, plainB], by first | rfl | fail, ?_⟩
 conv => whnf
 repeat (fail)
 refine ⟨[0, 1, 2, 3, 10], ?_, rfl, rfl, ?_, rfl⟩
 ·
  (repeat' (fail)) <;> first | rfl | fail
 ·
  (repeat' (first | exact trivial | refine And.intro ?_ ?_ | (refine wk_cons ?_ ?_))) <;> first | rfl | exact ren_eq (by first | (simp; done) | fail) (by first | rfl | fail) | fail
theorem f49_n_bbb (K : List UInt8) (hK : K.length < 100000000000000) (b0 b1 b2 : List UInt8) (hb0 : b0.length < 100000000000000) (hb1 : b1.length < 100000000000000) (hb2 : b2.length < 100000000000000) (fk f0 f1 f2 fl : Bool) : SCall Try.prog 49 [.u8 1, .sl 0 0 K.length 1 fk, .sl 1 0 3 1 fl] [some (.ro (K.map .u8)), some (.ro [.sl 2 0 b0.length 1 f0, .sl 3 0 b1.length 1 f1, .sl 4 0 b2.length 1 f2]), some (.ro (b0.map .u8)), some (.ro (b1.map .u8)), some (.ro (b2.map .u8))] (.sl 5 0 32 1 true) [some (.ro (K.map .u8)), some (.ro [.sl 2 0 b0.length 1 f0, .sl 3 0 b1.length 1 f1, .sl 4 0 b2.length 1 f2]), some (.ro (b0.map .u8)), some (.ro (b1.map .u8)), some (.ro (b2.map .u8)), some (.box ((mac_n K (b0 ++ b1 ++ b2)).map .u8))] := by
 have q1 := f100_n K hK 54 fk
 have q2 := f100_n K hK 92 fk
 have l1 := padL_len 64 (key_n K) 54
 have l2 := padL_len 64 (key_n K) 92
 obtain ⟨P1, hP1⟩ : ∃ P, P = padL 64 (key_n K) 54 := ⟨_, rfl⟩
 obtain ⟨P2, hP2⟩ : ∃ P, P = padL 64 (key_n K) 92 := ⟨_, rfl⟩
 rw [← hP1] at q1 l1
 rw [← hP2] at q2 l2
 have q3 := f99_n_bbbb P1 b0 b1 b2 (by omega) hb0 hb1 hb2 true f0 f1 f2 false
 have e3 : sum_n (P1 ++ b0 ++ b1 ++ b2) = sum_n (P1 ++ (b0 ++ b1 ++ b2)) := by simp only [List.append_assoc]
 have l3 := sum_len_n (P1 ++ (b0 ++ b1 ++ b2))
 rw [e3, l1] at q3
 have hm : mac_n K (b0 ++ b1 ++ b2) = sum_n (P2 ++ sum_n (P1 ++ (b0 ++ b1 ++ b2))) := by unfold mac_n; rw [hP1, hP2]
 rw [hm]
 obtain ⟨I, hI⟩ : ∃ I, I = sum_n (P1 ++ (b0 ++ b1 ++ b2)) := ⟨_, rfl⟩
 rw [← hI] at q3 l3 ⊢
 have q4 := f99_n_bb P2 I (by omega) (by omega) true true true
 rw [l2, l3] at q4
 have l4 := sum_len_n (P2 ++ I)
 obtain ⟨W, hW⟩ : ∃ W, W = sum_n (P2 ++ I) := ⟨_, rfl⟩
 rw [← hW] at q4 l4 ⊢
 clear hP1 hP2 hI hW hm e3
 refine scall_of ttOk (by kernel_rfl : Try.prog.funcs[49]? = some Try.f49) rfl rfl rfl ?_
 try simp only [List.length_cons, List.length_nil, Nat.zero_add, Nat.reduceAdd]
 refine sw_ok ttOk mixed (by kernel_rfl) ?_
 conv => whnf
 repeat (fail)
 refine ok1_callF [] [] true (f98_n) rfl rfl ⟨⟨rfl, by first | rfl | fail⟩, trivial, by first | rfl | fail, by first | rfl | fail, ?_⟩
 conv => whnf
 repeat (first | (refine brF rfl ?_; conv => whnf) | fail)
 refine ok1_callF [0] [false, true] false (q1) rfl rfl ⟨⟨rfl, by first | rfl | fail⟩, by (repeat' (first | exact trivial | refine And.intro ?_ ?_)) <;> first | exact ren_eq (by first | (simp; done) | fail) (by first | rfl | fail) | fail, by first | simp [plainHf, plainB], by first | rfl | fail, ?_⟩
 conv => whnf
 repeat (first | (refine Exists.intro _ (And.intro rfl ?_); conv => whnf) | (refine And.intro ⟨Nat.le_of_ble_eq_true rfl, Nat.le_of_ble_eq_true rfl, Nat.le_of_ble_eq_true rfl, Nat.le_of_ble_eq_true rfl⟩ ?_; conv => whnf) | fail)
 refine ok1_callF [7, 5, 2, 3, 4] [false, false, false, false, false, true] false (q3) rfl rfl ⟨⟨rfl, by first | rfl | fail⟩, by (repeat' (first | exact trivial | refine And.intro ?_ ?_)) <;> first | rfl | exact ren_eq (by first | (simp; done) | fail) (by first | rfl | fail) | fail, by first | simp [plainHf, plainB], by first | rfl | fail, ?_⟩
 conv => whnf
 repeat (fail)
 refine ok1_callF [0] [false, true] false (q2) rfl rfl ⟨⟨rfl, by first | rfl | fail⟩, by (repeat' (first | exact trivial | refine And.intro ?_ ?_)) <;> first | exact ren_eq (by first | (simp; done) | fail) (by first | rfl | fail) | fail, by first | simp [plainHf, plainB], by first | rfl | fail, ?_⟩
 conv => whnf
 repeat (first | (refine Exists.intro _ (And.intro rfl ?_); conv => whnf) | fail)
 refine ok1_callF [10, 9, 8] [false, false, false, true] false (q4) rfl rfl ⟨⟨rfl, by first | rfl | fail⟩, by (repeat' (first | exact trivial | refine And.intro ?_ ?_)) <;> first | rfl | exact ren_eq (by first | (simp; done) | fail) (by first | rfl | fail) | fail, by first | simp [plainHf, plainB], by first | rfl | fail, ?_⟩
 conv => whnf
 repeat (fail)
 refine ⟨[0, 1, 2, 3, 4, 11], ?_, rfl, rfl, ?_, rfl⟩
 ·
  (repeat' (fail)) <;> first | rfl | fail
 ·
  (repeat' (first | exact trivial | refine And.intro ?_ ?_ | (refine wk_cons ?_ ?_))) <;> first | rfl | exact ren_eq (by first | (simp; done) | fail) (by first | rfl | fail) | fail
theorem f49_w_b (K : List UInt8) (hK : K.length < 100000000000000) (b0 : List UInt8) (hb0 : b0.length < 100000000000000) (fk f0 fl : Bool) : SCall Try.prog 49 [.u8 2, .sl 0 0 K.length 1 fk, .sl 1 0 1 1 fl] [some (.ro (K.map .u8)), some (.ro [.sl 2 0 b0.length 1 f0]), some (.ro (b0.map .u8))] (.sl 3 0 64 1 true) [some (.ro (K.map .u8)), some (.ro [.sl 2 0 b0.length 1 f0]), some (.ro (b0.map .u8)), some (.box ((mac_w K (b0)).map .u8))] := by
 have q1 := f100_w K hK 54 fk
 have q2 := f100_w K hK 92 fk
 have l1 := padL_len 128 (key_w K) 54
 have l2 := padL_len 128 (key_w K) 92
 obtain ⟨P1, hP1⟩ : ∃ P, P = padL 128 (key_w K) 54 := ⟨_, rfl⟩
 obtain ⟨P2, hP2⟩ : ∃ P, P = padL 128 (key_w K) 92 := ⟨_, rfl⟩
 rw [← hP1] at q1 l1
 rw [← hP2] at q2 l2
 have q3 := f99_w_bb P1 b0 (by omega) hb0 true f0 false
 have e3 : sum_w (P1 ++ b0) = sum_w (P1 ++ (b0)) := by simp only [List.append_assoc]
 have l3 := sum_len_w (P1 ++ (b0))
 rw [e3, l1] at q3
 have hm : mac_w K (b0) = sum_w (P2 ++ sum_w (P1 ++ (b0))) := by unfold mac_w; rw [hP1, hP2]
 rw [hm]
 obtain ⟨I, hI⟩ : ∃ I, I = sum_w (P1 ++ (b0)) := ⟨_, rfl⟩
 rw [← hI] at q3 l3 ⊢
 have q4 := f99_w_bb P2 I (by omega) (by omega) true true true
 rw [l2, l3] at q4
 have l4 := sum_len_w (P2 ++ I)
 obtain ⟨W, hW⟩ : ∃ W, W = sum_w (P2 ++ I) := ⟨_, rfl⟩
 rw [← hW] at q4 l4 ⊢
 clear hP1 hP2 hI hW hm e3
 refine scall_of ttOk (by kernel_rfl : Try.prog.funcs[49]? = some Try.f49) rfl rfl rfl ?_
 try simp only [List.length_cons, List.length_nil, Nat.zero_add, Nat.reduceAdd]
 refine sw_ok ttOk mixed (by kernel_rfl) ?_
 conv => whnf
 repeat (fail)
 refine ok1_callF [] [] true (f98_w) rfl rfl ⟨⟨rfl, by first | rfl | fail⟩, trivial, by first | rfl | fail, by first | rfl | fail, ?_⟩
 conv => whnf
 repeat (first | (refine brF rfl ?_; conv => whnf) | fail)
 refine ok1_callF [0] [false, true] false (q1) rfl rfl ⟨⟨rfl, by first | rfl | fail⟩, by (repeat' (first | exact trivial | refine And.intro ?_ ?_)) <;> first | exact ren_eq (by first | (simp; done) | fail) (by first | rfl | fail) | fail, by first | simp [plainHf, plainB], by first | rfl | fail, ?_⟩
 conv => whnf
 repeat (first | (refine Exists.intro _ (And.intro rfl ?_); conv => whnf) | (refine And.intro ⟨Nat.le_of_ble_eq_true rfl, Nat.le_of_ble_eq_true rfl, Nat.le_of_ble_eq_true rfl, Nat.le_of_ble_eq_true rfl⟩ ?_; conv => whnf) | fail)
 refine ok1_callF [5, 3, 2] [false, false, false, true] false (q3) rfl rfl ⟨⟨rfl, by first | rfl | fail⟩, by (repeat' (first | exact trivial | refine And.intro ?_ ?_)) <;> first | rfl | exact ren_eq (by first | (simp; done) | fail) (by first | rfl | fail) | fail, by first | simp [plainHf, plainB], by first | rfl | fail, ?_⟩
 conv => whnf
 repeat (fail)
 refine ok1_callF [0] [false, true] false (q2) rfl rfl ⟨⟨rfl, by first | rfl | fail⟩, by (repeat' (first | exact trivial | refine And.intro ?_ ?_)) <;> first | exact ren_eq (by first | (simp; done) | fail) (by first | rfl | fail) | fail, by first | simp [plainHf, plainB], by first | rfl | fail, ?_⟩
 conv => whnf
 repeat (first | (refine Exists.intro _ (And.intro rfl ?_); conv => whnf) | fail)
 refine ok1_callF [8, 7, 6] [false, false, false, true] false (q4) rfl rfl ⟨⟨rfl, by first | rfl | fail⟩, by (repeat' (first | exact trivial | refine And.intro ?_ ?_)) <;> first | rfl | exact ren_eq (by first | (simp; done) | fail) (by first | rfl | fail) | fail, by first | simp [plainHf, plainB], by first | rfl | fail, ?_⟩
 conv => whnf
 repeat (fail)
 refine ⟨[0, 1, 2, 9], ?_, rfl, rfl, ?_, rfl⟩
 ·
  (repeat' (fail)) <;> first | rfl | fail
 ·
  (repeat' (first | exact trivial | refine And.intro ?_ ?_ | (refine wk_cons ?_ ?_))) <;> first | rfl | exact ren_eq (by first | (simp; done) | fail) (by first | rfl | fail) | fail
theorem f49_w_obb (K : List UInt8) (hK : K.length < 100000000000000) (b1 b2 : List UInt8) (hb1 : b1.length < 100000000000000) (hb2 : b2.length < 100000000000000) (fk f1 f2 fl : Bool) : SCall Try.prog 49 [.u8 2, .sl 0 0 K.length 1 fk, .sl 1 0 3 1 fl] [some (.ro (K.map .u8)), some (.ro [.slnil, .sl 2 0 b1.length 1 f1, .sl 3 0 b2.length 1 f2]), some (.ro (b1.map .u8)), some (.ro (b2.map .u8))] (.sl 4 0 64 1 true) [some (.ro (K.map .u8)), some (.ro [.slnil, .sl 2 0 b1.length 1 f1, .sl 3 0 b2.length 1 f2]), some (.ro (b1.map .u8)), some (.ro (b2.map .u8)), some (.box ((mac_w K (b1 ++ b2)).map .u8))] := by
 have q1 := f100_w K hK 54 fk
 have q2 := f100_w K hK 92 fk
 have l1 := padL_len 128 (key_w K) 54
 have l2 := padL_len 128 (key_w K) 92
 obtain ⟨P1, hP1⟩ : ∃ P, P = padL 128 (key_w K) 54 := ⟨_, rfl⟩
 obtain ⟨P2, hP2⟩ : ∃ P, P = padL 128 (key_w K) 92 := ⟨_, rfl⟩
 rw [← hP1] at q1 l1
 rw [← hP2] at q2 l2
 have q3 := f99_w_bobb P1 b1 b2 (by omega) hb1 hb2 true f1 f2 false
 have e3 : sum_w (P1 ++ b1 ++ b2) = sum_w (P1 ++ (b1 ++ b2)) := by simp only [List.append_assoc]
 have l3 := sum_len_w (P1 ++ (b1 ++ b2))
 rw [e3, l1] at q3
 have hm : mac_w K (b1 ++ b2) = sum_w (P2 ++ sum_w (P1 ++ (b1 ++ b2))) := by unfold mac_w; rw [hP1, hP2]
 rw [hm]
 obtain ⟨I, hI⟩ : ∃ I, I = sum_w (P1 ++ (b1 ++ b2)) := ⟨_, rfl⟩
 rw [← hI] at q3 l3 ⊢
 have q4 := f99_w_bb P2 I (by omega) (by omega) true true true
 rw [l2, l3] at q4
 have l4 := sum_len_w (P2 ++ I)
 obtain ⟨W, hW⟩ : ∃ W, W = sum_w (P2 ++ I) := ⟨_, rfl⟩
 rw [← hW] at q4 l4 ⊢
 clear hP1 hP2 hI hW hm e3
 refine scall_of ttOk (by kernel_rfl : Try.prog.funcs[49]? = some Try.f49) rfl rfl rfl ?_
 try simp only [List.length_cons, List.length_nil, Nat.zero_add, Nat.reduceAdd]
 refine sw_ok ttOk mixed (by kernel_rfl) ?_
 conv => whnf
 repeat (fail)
 refine ok1_callF [] [] true (f98_w) rfl rfl ⟨⟨rfl, by first | rfl | fail⟩, trivial, by first | rfl | fail, by first | rfl | fail, ?_⟩
 conv => whnf
 repeat (first | (refine brF rfl ?_; conv => whnf) | fail)
 refine ok1_callF [0] [false, true] false (q1) rfl rfl ⟨⟨rfl, by first | rfl | fail⟩, by (repeat' (first | exact trivial | refine And.intro ?_ ?_)) <;> first | exact ren_eq (by first | (simp; done) | fail) (by first | rfl | fail) | fail, by first | simp [plainHf, plainB], by first | rfl | fail, ?_⟩
 conv => whnf
 repeat (first | (refine Exists.intro _ (And.intro rfl ?_); conv => whnf) | (refine And.intro ⟨Nat.le_of_ble_eq_true rfl, Nat.le_of_ble_eq_true rfl, Nat.le_of_ble_eq_true rfl, Nat.le_of_ble_eq_true rfl⟩ ?_; conv => whnf) | fail)
 refine ok1_callF [6, 4, 2, 3] [false, false, false, false, true] false (q3) rfl rfl ⟨⟨rfl, by first | rfl | fail⟩, by (repeat' (first | exact trivial | refine And.intro ?_ ?_)) <;> first | rfl | exact ren_eq (by first | (simp; done) | fail) (by first | rfl | fail) | fail, by first | simp [plainHf, plainB], by first | rfl | fail, ?_⟩
 conv => whnf
 repeat (fail)
 refine ok1_callF [0] [false, true] false (q2) rfl rfl ⟨⟨rfl, by first | rfl | fail⟩, by (repeat' (first | exact trivial | refine And.intro ?_ ?_)) <;> first | exact ren_eq (by first | (simp; done) | fail) (by first | rfl | fail) | fail, by first | simp [plainHf, plainB], by first | rfl | fail, ?_⟩
 conv => whnf
 repeat (first | (refine Exists.intro _ (And.intro rfl ?_); conv => whnf) | fail)
 refine ok1_callF [9, 8, 7] [false, false, false, true] false (q4) rfl rfl ⟨⟨rfl, by first | rfl | fail⟩, by (repeat' (first | exact trivial | refine And.intro ?_ ?_)) <;> first | rfl | exact ren_eq (by first | (simp; done) | fail) (by first | rfl | fail) | fail, by first | simp [plainHf, plainB], by first | rfl | fail, ?_⟩
 conv => whnf
 repeat (fail)
 refine ⟨[0, 1, 2, 3, 10], ?_, rfl, rfl, ?_, rfl⟩
 ·
  (repeat' (fail)) <;> first | rfl | fail
 ·
  (repeat' (first | exact trivial | refine And.intro ?_ ?_ | (refine wk_cons ?_ ?_))) <;> first | rfl | exact ren_eq (by first | (simp; done) | fail) (by first | rfl | fail) | fail
theorem f49_w_bbb (K : List UInt8) (hK : K.length < 100000000000000) (b0 b1 b2 : List UInt8) (hb0 : b0.length < 100000000000000) (hb1 : b1.length < 100000000000000) (hb2 : b2.length < 100000000000000) (fk f0 f1 f2 fl : Bool) : SCall Try.prog 49 [.u8 2, .sl 0 0 K.length 1 fk, .sl 1 0 3 1 fl] [some (.ro (K.map .u8)), some (.ro [.sl 2 0 b0.length 1 f0, .sl 3 0 b1.length 1 f1, .sl 4 0 b2.length 1 f2]), some (.ro (b0.map .u8)), some (.ro (b1.map .u8)), some (.ro (b2.map .u8))] (.sl 5 0 64 1 true) [some (.ro (K.map .u8)), some (.ro [.sl 2 0 b0.length 1 f0, .sl 3 0 b1.length 1 f1, .sl 4 0 b2.length 1 f2]), some (.ro (b0.map .u8)), some (.ro (b1.map .u8)), some (.ro (b2.map .u8)), some (.box ((mac_w K (b0 ++ b1 ++ b2)).map .u8))] := by
 have q1 := f100_w K hK 54 fk
 have q2 := f100_w K hK 92 fk
 have l1 := padL_len 128 (key_w K) 54
 have l2 := padL_len 128 (key_w K) 92
 obtain ⟨P1, hP1⟩ : ∃ P, P = padL 128 (key_w K) 54 := ⟨_, rfl⟩
 obtain ⟨P2, hP2⟩ : ∃ P, P = padL 128 (key_w K) 92 := ⟨_, rfl⟩
 rw [← hP1] at q1 l1
 rw [← hP2] at q2 l2
 have q3 := f99_w_bbbb P1 b0 b1 b2 (by omega) hb0 hb1 hb2 true f0 f1 f2 false
 have e3 : sum_w (P1 ++ b0 ++ b1 ++ b2) = sum_w (P1 ++ (b0 ++ b1 ++ b2)) := by simp only [List.append_assoc]
 have l3 := sum_len_w (P1 ++ (b0 ++ b1 ++ b2))
 rw [e3, l1] at q3
 have hm : mac_w K (b0 ++ b1 ++ b2) = sum_w (P2 ++ sum_w (P1 ++ (b0 ++ b1 ++ b2))) := by unfold mac_w; rw [hP1, hP2]
 rw [hm]
 obtain ⟨I, hI⟩ : ∃ I, I = sum_w (P1 ++ (b0 ++ b1 ++ b2)) := ⟨_, rfl⟩
 rw [← hI] at q3 l3 ⊢
 have q4 := f99_w_bb P2 I (by omega) (by omega) true true true
 rw [l2, l3] at q4
 have l4 := sum_len_w (P2 ++ I)
 obtain ⟨W, hW⟩ : ∃ W, W = sum_w (P2 ++ I) := ⟨_, rfl⟩
 rw [← hW] at q4 l4 ⊢
 clear hP1 hP2 hI hW hm e3
 refine scall_of ttOk (by kernel_rfl : Try.prog.funcs[49]? = some Try.f49) rfl rfl rfl ?_
 try simp only [List.length_cons, List.length_nil, Nat.zero_add, Nat.reduceAdd]
 refine sw_ok ttOk mixed (by kernel_rfl) ?_
 conv => whnf
 repeat (fail)
 refine ok1_callF [] [] true (f98_w) rfl rfl ⟨⟨rfl, by first | rfl | fail⟩, trivial, by first | rfl | fail, by first | rfl | fail, ?_⟩
 conv => whnf
 repeat (first | (refine brF rfl ?_; conv => whnf) | fail)
 refine ok1_callF [0] [false, true] false (q1) rfl rfl ⟨⟨rfl, by first | rfl | fail⟩, by (repeat' (first | exact trivial | refine And.intro ?_ ?_)) <;> first | exact ren_eq (by first | (simp; done) | fail) (by first | rfl | fail) | fail, by first | simp [plainHf, plainB], by first | rfl | fail, ?_⟩
 conv => whnf
 repeat (first | (refine Exists.intro _ (And.intro rfl ?_); conv => whnf) | (refine And.intro ⟨Nat.le_of_ble_eq_true rfl, Nat.le_of_ble_eq_true rfl, Nat.le_of_ble_eq_true rfl, Nat.le_of_ble_eq_true rfl⟩ ?_; conv => whnf) | fail)
 refine ok1_callF [7, 5, 2, 3, 4] [false, false, false, false, false, true] false (q3) rfl rfl ⟨⟨rfl, by first | rfl | fail⟩, by (repeat' (first | exact trivial | refine And.intro ?_ ?_)) <;> first | rfl | exact ren_eq (by first | (simp; done) | fail) (by first | rfl | fail) | fail, by first | simp [plainHf, plainB], by first | rfl | fail, ?_⟩
 conv => whnf
 repeat (fail)
 refine ok1_callF [0] [false, true] false (q2) rfl rfl ⟨⟨rfl, by first | rfl | fail⟩, by (repeat' (first | exact trivial | refine And.intro ?_ ?_)) <;> first | exact ren_eq (by first | (simp; done) | fail) (by first | rfl | fail) | fail, by first | simp [plainHf, plainB], by first | rfl | fail, ?_⟩
 conv => whnf
 repeat (first | (refine Exists.intro _ (And.intro rfl ?_); conv => whnf) | fail)
 refine ok1_callF [10, 9, 8] [false, false, false, true] false (q4) rfl rfl ⟨⟨rfl, by first | rfl | fail⟩, by (repeat' (first | exact trivial | refine And.intro ?_ ?_)) <;> first | rfl | exact ren_eq (by first | (simp; done) | fail) (by first | rfl | fail) | fail, by first | simp [plainHf, plainB], by first | rfl | fail, ?_⟩
 conv => whnf
 repeat (fail)
 refine ⟨[0, 1, 2, 3, 4, 11], ?_, rfl, rfl, ?_, rfl⟩
 ·
  (repeat' (fail)) <;> first | rfl | fail
 ·
  (repeat' (first | exact trivial | refine And.intro ?_ ?_ | (refine wk_cons ?_ ?_))) <;> first | rfl | exact ren_eq (by first | (simp; done) | fail) (by first | rfl | fail) | fail
theorem f50_n (K T : List UInt8) (hK : K.length < 100000000000000) (hT : T.length < 100000000000000) (fk ft : Bool) : SCall Try.prog 50 [.u8 1, .sl 0 0 K.length 1 fk, .sl 1 0 T.length 1 ft] [some (.ro (K.map .u8)), some (.ro (T.map .u8))] (.sl 2 0 32 1 true) [some (.ro (K.map .u8)), some (.ro (T.map .u8)), some (.box ((mac_n K T).map .u8))] := by
 have q := f49_n_b K hK T hT fk ft true
 have l := mac_len_n K T
 obtain ⟨W, hW⟩ : ∃ W, W = mac_n K T := ⟨_, rfl⟩
 rw [← hW] at q l ⊢
 refine scall_of ttOk (by kernel_rfl : Try.prog.funcs[50]? = some Try.f50) rfl rfl rfl ?_
 try simp only [List.length_cons, List.length_nil, Nat.zero_add, Nat.reduceAdd]
 refine sw_ok ttOk mixed (by kernel_rfl) ?_
 conv => whnf
 repeat (first | (refine Exists.intro _ (And.intro rfl ?_); conv => whnf) | fail)
 refine ok1_callF [0, 2, 1] [false, false, false, true] false (q) rfl rfl ⟨⟨rfl, by first | rfl | fail⟩, by (repeat' (first | exact trivial | refine And.intro ?_ ?_)) <;> first | rfl | exact ren_eq (by first | (simp; done) | fail) (by first | rfl | fail) | fail, by first | simp [plainHf, plainB], by first | rfl | fail, ?_⟩
 conv => whnf
 repeat (fail)
 refine ⟨[0, 1, 3], ?_, rfl, rfl, ?_, rfl⟩
 ·
  (repeat' (fail)) <;> first | rfl | fail
 ·
  (repeat' (first | exact trivial | refine And.intro ?_ ?_ | fail)) <;> first | exact ren_eq (by first | (simp; done) | fail) (by first | rfl | fail) | fail
theorem f50_w (K T : List UInt8) (hK : K.length < 100000000000000) (hT : T.length < 100000000000000) (fk ft : Bool) : SCall Try.prog 50 [.u8 2, .sl 0 0 K.length 1 fk, .sl 1 0 T.length 1 ft] [some (.ro (K.map .u8)), some (.ro (T.map .u8))] (.sl 2 0 64 1 true) [some (.ro (K.map .u8)), some (.ro (T.map .u8)), some (.box ((mac_w K T).map .u8))] := by
 have q := f49_w_b K hK T hT fk ft true
 have l := mac_len_w K T
 obtain ⟨W, hW⟩ : ∃ W, W = mac_w K T := ⟨_, rfl⟩
 rw [← hW] at q l ⊢
 refine scall_of ttOk (by kernel_rfl : Try.prog.funcs[50]? = some Try.f50) rfl rfl rfl ?_
 try simp only [List.length_cons, List.length_nil, Nat.zero_add, Nat.reduceAdd]
 refine sw_ok ttOk mixed (by kernel_rfl) ?_
 conv => whnf
 repeat (first | (refine Exists.intro _ (And.intro rfl ?_); conv => whnf) | fail)
 refine ok1_callF [0, 2, 1] [false, false, false, true] false (q) rfl rfl ⟨⟨rfl, by first | rfl | fail⟩, by (repeat' (first | exact trivial | refine And.intro ?_ ?_)) <;> first | rfl | exact ren_eq (by first | (simp; done) | fail) (by first | rfl | fail) | fail, by first | simp [plainHf, plainB], by first | rfl | fail, ?_⟩
 conv => whnf
 repeat (fail)
 refine ⟨[0, 1, 3], ?_, rfl, rfl, ?_, rfl⟩
 ·
  (repeat' (fail)) <;> first | rfl | fail
 ·
  (repeat' (first | exact trivial | refine And.intro ?_ ?_ | fail)) <;> first | exact ren_eq (by first | (simp; done) | fail) (by first | rfl | fail) | fail
end Go.Sh
namespace Go.Sh
open Go.Proofs
set_option maxHeartbeats 4000000
def exT_n (K I : List UInt8) : Nat → List UInt8
 | 0 => []
 | i + 1 => mac_n K (exT_n K I i ++ I ++ [u8i ((i + 1 : Nat) : Int)])
def exO_n (K I : List UInt8) : Nat → List UInt8
 | 0 => []
 | i + 1 => exO_n K I i ++ exT_n K I (i + 1)
def exp_n (K I : List UInt8) (n : Nat) : List UInt8 := (exO_n K I ((n + (32 - 1)) / 32)).take n
theorem exT_len_n (K I : List UInt8) (i : Nat) : (exT_n K I (i + 1)).length = 32 := mac_len_n _ _
theorem exO_len_n (K I : List UInt8) : ∀ i, (exO_n K I i).length = 32 * i
 | 0 => rfl
 | i + 1 => by
  show (exO_n K I i ++ exT_n K I (i + 1)).length = _
  rw [List.length_append, exO_len_n K I i, exT_len_n]; omega
theorem exO_pre_n (K I : List UInt8) (i : Nat) : ∀ j, (exO_n K I (i + j)).take (32 * i) = exO_n K I i
 | 0 => by rw [Nat.add_zero, List.take_of_length_le (by rw [exO_len_n]; exact Nat.le_refl _)]
 | j + 1 => by
  show (exO_n K I (i + j) ++ exT_n K I (i + j + 1)).take (32 * i) = _
  rw [List.take_append_of_le_length (by rw [exO_len_n]; omega)]
  exact exO_pre_n K I i j
theorem exp_len_n (K I : List UInt8) (n : Nat) : (exp_n K I n).length = n := by
 unfold exp_n; rw [List.length_take, exO_len_n]; omega
theorem exp_pre_n (K I : List UInt8) {n m : Nat} (h : n ≤ m) : (exp_n K I m).take n = exp_n K I n := by
 unfold exp_n
 obtain ⟨j, hj⟩ : ∃ j, (m + (32 - 1)) / 32 = (n + (32 - 1)) / 32 + j := ⟨(m + (32 - 1)) / 32 - (n + (32 - 1)) / 32, by omega⟩
 rw [hj, List.take_take, Nat.min_eq_left h, ← exO_pre_n K I ((n + (32 - 1)) / 32) j, List.take_take, Nat.min_eq_left (by omega)]
theorem exT_s_n (K I : List UInt8) (i : Nat) : exT_n K I (i + 1) = mac_n K (exT_n K I i ++ I ++ [u8i ((i + 1 : Nat) : Int)]) := rfl
theorem exT_1_n (K I : List UInt8) : exT_n K I 1 = mac_n K (I ++ [u8i ((1 : Nat) : Int)]) := rfl
theorem exO_s_n (K I : List UInt8) (i : Nat) : exO_n K I (i + 1) = exO_n K I i ++ exT_n K I (i + 1) := rfl
theorem exO_z_n (K I : List UInt8) : exO_n K I 0 = [] := rfl
def exR_n : Nat → SV
 | 0 => .slnil
 | _ + 1 => .sl 3 0 32 1 true
def exB_n (K I : List UInt8) : Nat → Option SB
 | 0 => none
 | i + 1 => some (.box ((exT_n K I (i + 1)).map .u8))
section
attribute [local irreducible] mac_n exT_n exO_n
theorem f51_n (K I : List UInt8) (hK : K.length < 100000000000000) (hI : I.length < 100000000000000) (n : Nat) (hn1 : 1 ≤ n) (hn : n ≤ 8160) (fk fi : Bool) : SCall Try.prog 51 [.u8 1, .sl 0 0 K.length 1 fk, .sl 1 0 I.length 1 fi, .i (n : Int)] [some (.ro (K.map .u8)), some (.ro (I.map .u8))] (.tup [.sl 2 0 n 1 true, .i 0]) [some (.ro (K.map .u8)), some (.ro (I.map .u8)), some (.row 5 ((exO_n K I ((n + (32 - 1)) / 32)).map .u8))] := by
 have e1 : decide ((n : Int) < 1) = false := by simp; omega
 have e2 : decide ((n : Int) > w64 (255 * 32)) = false := by simp [w64_eq]; omega
 obtain ⟨m, hm⟩ : ∃ m, m = (n + (32 - 1)) / 32 := ⟨_, rfl⟩
 rw [← hm]
 refine scall_of ttOk (by kernel_rfl : Try.prog.funcs[51]? = some Try.f51) rfl rfl rfl ?_
 try simp only [List.length_cons, List.length_nil, Nat.zero_add, Nat.reduceAdd]
 refine sw_ok ttOk mixed (by kernel_rfl) ?_
 conv => whnf
 repeat (first | (refine gdT e1 ?_; conv => whnf) | fail)
 refine ok1_callF [] [] true (f98_n) rfl rfl ⟨⟨rfl, by first | rfl | fail⟩, trivial, by first | rfl | fail, by first | rfl | fail, ?_⟩
 conv => whnf
 repeat (first | (refine gdT e1 ?_; conv => whnf) | (refine pkF e1 ?_; conv => whnf) | (refine gdF e2 ?_; conv => whnf) | fail)
 refine SWp.weak (Weak.virt 10 5 1 rfl) ?_
 refine loop_rule ttOk mixed (by kernel_rfl) (ι := { i : Nat // i ≤ m }) (fun i => [(0, .u8 1), (1, .sl 0 0 K.length 1 fk), (2, .sl 1 0 I.length 1 fi), (3, .i n), (8, .slnil), (9, .i 0), (10, .sl 2 0 (32 * i.1) 1 false), (11, exR_n i.1), (12, .i ((i.1 + 1 : Nat) : Int))]) (fun i => [some (.ro (K.map .u8)), some (.ro (I.map .u8)), some (.row 5 ((exO_n K I i.1).map .u8)), exB_n K I i.1]) (fun _ => 4) (fun i => m - i.1) ⟨0, by omega⟩ ?_ ?_
 ·
  have hz := exO_z_n K I
  dsimp only
  rw [hz]
  refine Weak.sel [0, 1, 2, 0] rfl rfl ?_ ?_ rfl rfl
  ·
   (repeat' (first | exact trivial | refine And.intro ?_ ?_ | fail)) <;> first | rfl | fail
  ·
   (repeat' (first | exact trivial | refine And.intro ?_ ?_ | fail)) <;> first | rfl | exact ren_eq (by first | (simp; done) | fail) (by first | rfl | fail) | fail
 ·
  rintro ⟨i, hi⟩
  dsimp only
  have hol := exO_len_n K I i
  have hos := exO_s_n K I i
  have htl := exT_len_n K I i
  have hts := exT_s_n K I i
  have hp : w64 (((i + 1 : Nat) : Int) + 1) = ((i + 1 + 1 : Nat) : Int) := by simp only [w64_eq]; omega
  by_cases hi2 : i < m
  ·
   have hlt : decide (((32 * i : Nat) : Int) < (n : Int)) = true := by simp; omega
   obtain ⟨O, hO⟩ : ∃ O, O = exO_n K I i := ⟨_, rfl⟩
   rw [← hO] at hol hos ⊢
   rcases i with _ | i
   ·
    have q := f49_n_obb K hK I [u8i ((1 : Nat) : Int)] hI (by decide : [u8i ((1 : Nat) : Int)].length < 100000000000000) fk fi true true
    rw [← exT_1_n] at q
    obtain ⟨T, hT⟩ : ∃ T, T = exT_n K I 1 := ⟨_, rfl⟩
    rw [← hT] at q
    have hTl : T.length = 32 := by rw [hT]; exact exT_len_n K I 0
    have hap : (O ++ T).map SV.u8 = List.take (32 * 0 * 1) (List.drop 0 (O.map SV.u8)) ++ List.take (32 * 1) (List.drop 0 (T.map SV.u8)) := by
     rw [List.drop_zero, List.drop_zero, List.take_of_length_le (l := O.map SV.u8) (by rw [List.length_map]; omega), List.take_of_length_le (l := T.map SV.u8) (by rw [List.length_map]; omega), List.map_append]
    conv => whnf
    first | refine brT (by exact hlt) ?_ | fail
    conv => whnf
    repeat (first | (refine Exists.intro _ (And.intro rfl ?_); conv => whnf) | fail)
    refine ok1_callF [0, 5, 1, 4] [false, false, false, false, true] false (q) rfl rfl ⟨⟨rfl, by first | rfl | fail⟩, by (repeat' (first | exact trivial | refine And.intro ?_ ?_)) <;> first | rfl | exact ren_eq (by first | (simp; done) | fail) (by first | rfl | fail) | fail, by first | simp [plainHf, plainB], by first | rfl | fail, ?_⟩
    conv => whnf
    repeat (first | (refine And.intro (by first | omega | (simp [ti5]; omega)) ?_; conv => whnf) | fail)
    refine ⟨⟨1, by omega⟩, by simp only; omega, ?_⟩
    dsimp only
    rw [hos]
    unfold exR_n exB_n
    dsimp only
    rw [← hT]
    refine Weak.sel [0, 1, 7, 6] rfl rfl ?_ ?_ rfl rfl
    ·
     (repeat' (first | exact trivial | refine And.intro ?_ ?_ | fail)) <;> first | exact wk_i (by first | exact hp | fail) | rfl | fail
    ·
     (repeat' (first | exact trivial | exact ren_eq (plainL_u8 _) hap | refine And.intro ?_ ?_ | fail)) <;> first | rfl | exact ren_eq (by first | (simp; done) | fail) (by first | rfl | fail) | fail
   ·
    obtain ⟨T0, hT0⟩ : ∃ T, T = exT_n K I (i + 1) := ⟨_, rfl⟩
    have htl0 := exT_len_n K I i
    rw [← hT0] at htl0
    have q := f49_n_bbb K hK T0 I [u8i ((i + 1 + 1 : Nat) : Int)] (by omega) hI (by simp) fk true fi true true
    rw [hT0, ← exT_s_n, ← hT0, htl0] at q
    obtain ⟨T, hT⟩ : ∃ T, T = exT_n K I (i + 1 + 1) := ⟨_, rfl⟩
    rw [← hT] at q
    have hTl : T.length = 32 := by rw [hT]; exact exT_len_n K I (i + 1)
    have hap : (O ++ T).map SV.u8 = List.take (32 * (i + 1) * 1) (List.drop 0 (O.map SV.u8)) ++ List.take (32 * 1) (List.drop 0 (T.map SV.u8)) := by
     rw [List.drop_zero, List.drop_zero, List.take_of_length_le (l := O.map SV.u8) (by rw [List.length_map]; omega), List.take_of_length_le (l := T.map SV.u8) (by rw [List.length_map]; omega), List.map_append]
    have hnx : 32 * (i + 1 + 1) = 32 * (i + 1) + 32 := by omega
    unfold exR_n exB_n
    dsimp only
    rw [← hT0]
    conv => whnf
    first | refine brT (by exact hlt) ?_ | fail
    conv => whnf
    repeat (first | (refine Exists.intro _ (And.intro rfl ?_); conv => whnf) | fail)
    refine ok1_callF [0, 5, 3, 1, 4] [false, false, false, false, false, true] false (q) rfl rfl ⟨⟨rfl, by first | rfl | fail⟩, by (repeat' (first | exact trivial | refine And.intro ?_ ?_)) <;> first | rfl | exact ren_eq (by first | (simp; done) | fail) (by first | rfl | fail) | fail, by first | simp [plainHf, plainB], by first | rfl | fail, ?_⟩
    conv => whnf
    repeat (first | (refine And.intro (by first | omega | (simp [ti5]; omega)) ?_; conv => whnf) | fail)
    refine ⟨⟨i + 1 + 1, by omega⟩, by simp only; omega, ?_⟩
    dsimp only
    rw [hos, ← hT]
    refine Weak.sel [0, 1, 7, 6] rfl rfl ?_ ?_ rfl rfl
    ·
     (repeat' (first | exact trivial | refine And.intro ?_ ?_ | fail)) <;> first | exact wk_i (by first | exact hp | exact hp.symm | fail) | rfl | fail
    ·
     (repeat' (first | exact trivial | exact ren_eq (plainL_u8 _) hap | refine And.intro ?_ ?_ | fail)) <;> first | rfl | exact ren_eq (by first | (simp; done) | fail) (by first | rfl | fail) | fail
  ·
   obtain rfl : i = m := by omega
   have hlt : decide (((32 * i : Nat) : Int) < (n : Int)) = false := by simp; omega
   rcases i with _ | i
   ·
    omega
   ·
    conv => whnf
    first | refine brF (by exact hlt) ?_ | fail
    conv => whnf
    repeat (first | (refine Exists.intro _ (And.intro rfl ?_); conv => whnf) | (refine And.intro (by first | omega | fail) ?_; conv => whnf) | fail)
    have hdd : decide (((n : Nat) : Int).toNat = ((n : Nat) : Int).toNat) = true := by simp
    rw [hdd, Int.toNat_natCast]
    refine ⟨[0, 1, 2], ?_, rfl, rfl, ?_, rfl⟩
    ·
     (repeat' (first | (refine wk_tup ?_) | (refine wk_cons ?_ ?_))) <;> first | rfl | fail
    ·
     (repeat' (first | exact trivial | refine And.intro ?_ ?_ | fail)) <;> first | rfl | exact ren_eq (by first | (simp; done) | fail) (by first | rfl | fail) | fail
end
def exT_w (K I : List UInt8) : Nat → List UInt8
 | 0 => []
 | i + 1 => mac_w K (exT_w K I i ++ I ++ [u8i ((i + 1 : Nat) : Int)])
def exO_w (K I : List UInt8) : Nat → List UInt8
 | 0 => []
 | i + 1 => exO_w K I i ++ exT_w K I (i + 1)
def exp_w (K I : List UInt8) (n : Nat) : List UInt8 := (exO_w K I ((n + (64 - 1)) / 64)).take n
theorem exT_len_w (K I : List UInt8) (i : Nat) : (exT_w K I (i + 1)).length = 64 := mac_len_w _ _
theorem exO_len_w (K I : List UInt8) : ∀ i, (exO_w K I i).length = 64 * i
 | 0 => rfl
 | i + 1 => by
  show (exO_w K I i ++ exT_w K I (i + 1)).length = _
  rw [List.length_append, exO_len_w K I i, exT_len_w]; omega
theorem exO_pre_w (K I : List UInt8) (i : Nat) : ∀ j, (exO_w K I (i + j)).take (64 * i) = exO_w K I i
 | 0 => by rw [Nat.add_zero, List.take_of_length_le (by rw [exO_len_w]; exact Nat.le_refl _)]
 | j + 1 => by
  show (exO_w K I (i + j) ++ exT_w K I (i + j + 1)).take (64 * i) = _
  rw [List.take_append_of_le_length (by rw [exO_len_w]; omega)]
  exact exO_pre_w K I i j
theorem exp_len_w (K I : List UInt8) (n : Nat) : (exp_w K I n).length = n := by
 unfold exp_w; rw [List.length_take, exO_len_w]; omega
theorem exp_pre_w (K I : List UInt8) {n m : Nat} (h : n ≤ m) : (exp_w K I m).take n = exp_w K I n := by
 unfold exp_w
 obtain ⟨j, hj⟩ : ∃ j, (m + (64 - 1)) / 64 = (n + (64 - 1)) / 64 + j := ⟨(m + (64 - 1)) / 64 - (n + (64 - 1)) / 64, by omega⟩
 rw [hj, List.take_take, Nat.min_eq_left h, ← exO_pre_w K I ((n + (64 - 1)) / 64) j, List.take_take, Nat.min_eq_left (by omega)]
theorem exT_s_w (K I : List UInt8) (i : Nat) : exT_w K I (i + 1) = mac_w K (exT_w K I i ++ I ++ [u8i ((i + 1 : Nat) : Int)]) := rfl
theorem exT_1_w (K I : List UInt8) : exT_w K I 1 = mac_w K (I ++ [u8i ((1 : Nat) : Int)]) := rfl
theorem exO_s_w (K I : List UInt8) (i : Nat) : exO_w K I (i + 1) = exO_w K I i ++ exT_w K I (i + 1) := rfl
theorem exO_z_w (K I : List UInt8) : exO_w K I 0 = [] := rfl
def exR_w : Nat → SV
 | 0 => .slnil
 | _ + 1 => .sl 3 0 64 1 true
def exB_w (K I : List UInt8) : Nat → Option SB
 | 0 => none
 | i + 1 => some (.box ((exT_w K I (i + 1)).map .u8))
section
attribute [local irreducible] mac_w exT_w exO_w
theorem f51_w (K I : List UInt8) (hK : K.length < 100000000000000) (hI : I.length < 100000000000000) (n : Nat) (hn1 : 1 ≤ n) (hn : n ≤ 16320) (fk fi : Bool) : SCall Try.prog 51 [.u8 2, .sl 0 0 K.length 1 fk, .sl 1 0 I.length 1 fi, .i (n : Int)] [some (.ro (K.map .u8)), some (.ro (I.map .u8))] (.tup [.sl 2 0 n 1 true, .i 0]) [some (.ro (K.map .u8)), some (.ro (I.map .u8)), some (.row 5 ((exO_w K I ((n + (64 - 1)) / 64)).map .u8))] := by
 have e1 : decide ((n : Int) < 1) = false := by simp; omega
 have e2 : decide ((n : Int) > w64 (255 * 64)) = false := by simp [w64_eq]; omega
 obtain ⟨m, hm⟩ : ∃ m, m = (n + (64 - 1)) / 64 := ⟨_, rfl⟩
 rw [← hm]
 refine scall_of ttOk (by kernel_rfl : Try.prog.funcs[51]? = some Try.f51) rfl rfl rfl ?_
 try simp only [List.length_cons, List.length_nil, Nat.zero_add, Nat.reduceAdd]
 refine sw_ok ttOk mixed (by kernel_rfl) ?_
 conv => whnf
 repeat (first | (refine gdT e1 ?_; conv => whnf) | fail)
 refine ok1_callF [] [] true (f98_w) rfl rfl ⟨⟨rfl, by first | rfl | fail⟩, trivial, by first | rfl | fail, by first | rfl | fail, ?_⟩
 conv => whnf
 repeat (first | (refine gdT e1 ?_; conv => whnf) | (refine pkF e1 ?_; conv => whnf) | (refine gdF e2 ?_; conv => whnf) | fail)
 refine SWp.weak (Weak.virt 10 5 1 rfl) ?_
 refine loop_rule ttOk mixed (by kernel_rfl) (ι := { i : Nat // i ≤ m }) (fun i => [(0, .u8 2), (1, .sl 0 0 K.length 1 fk), (2, .sl 1 0 I.length 1 fi), (3, .i n), (8, .slnil), (9, .i 0), (10, .sl 2 0 (64 * i.1) 1 false), (11, exR_w i.1), (12, .i ((i.1 + 1 : Nat) : Int))]) (fun i => [some (.ro (K.map .u8)), some (.ro (I.map .u8)), some (.row 5 ((exO_w K I i.1).map .u8)), exB_w K I i.1]) (fun _ => 4) (fun i => m - i.1) ⟨0, by omega⟩ ?_ ?_
 ·
  have hz := exO_z_w K I
  dsimp only
  rw [hz]
  refine Weak.sel [0, 1, 2, 0] rfl rfl ?_ ?_ rfl rfl
  ·
   (repeat' (first | exact trivial | refine And.intro ?_ ?_ | fail)) <;> first | rfl | fail
  ·
   (repeat' (first | exact trivial | refine And.intro ?_ ?_ | fail)) <;> first | rfl | exact ren_eq (by first | (simp; done) | fail) (by first | rfl | fail) | fail
 ·
  rintro ⟨i, hi⟩
  dsimp only
  have hol := exO_len_w K I i
  have hos := exO_s_w K I i
  have htl := exT_len_w K I i
  have hts := exT_s_w K I i
  have hp : w64 (((i + 1 : Nat) : Int) + 1) = ((i + 1 + 1 : Nat) : Int) := by simp only [w64_eq]; omega
  by_cases hi2 : i < m
  ·
   have hlt : decide (((64 * i : Nat) : Int) < (n : Int)) = true := by simp; omega
   obtain ⟨O, hO⟩ : ∃ O, O = exO_w K I i := ⟨_, rfl⟩
   rw [← hO] at hol hos ⊢
   rcases i with _ | i
   ·
    have q := f49_w_obb K hK I [u8i ((1 : Nat) : Int)] hI (by decide : [u8i ((1 : Nat) : Int)].length < 100000000000000) fk fi true true
    rw [← exT_1_w] at q
    obtain ⟨T, hT⟩ : ∃ T, T = exT_w K I 1 := ⟨_, rfl⟩
    rw [← hT] at q
    have hTl : T.length = 64 := by rw [hT]; exact exT_len_w K I 0
    have hap : (O ++ T).map SV.u8 = List.take (64 * 0 * 1) (List.drop 0 (O.map SV.u8)) ++ List.take (64 * 1) (List.drop 0 (T.map SV.u8)) := by
     rw [List.drop_zero, List.drop_zero, List.take_of_length_le (l := O.map SV.u8) (by rw [List.length_map]; omega), List.take_of_length_le (l := T.map SV.u8) (by rw [List.length_map]; omega), List.map_append]
    conv => whnf
    first | refine brT (by exact hlt) ?_ | fail
    conv => whnf
    repeat (first | (refine Exists.intro _ (And.intro rfl ?_); conv => whnf) | fail)
    refine ok1_callF [0, 5, 1, 4] [false, false, false, false, true] false (q) rfl rfl ⟨⟨rfl, by first | rfl | fail⟩, by (repeat' (first | exact trivial | refine And.intro ?_ ?_)) <;> first | rfl | exact ren_eq (by first | (simp; done) | fail) (by first | rfl | fail) | fail, by first | simp [plainHf, plainB], by first | rfl | fail, ?_⟩
    conv => whnf
    repeat (first | (refine And.intro (by first | omega | (simp [ti5]; omega)) ?_; conv => whnf) | fail)
    refine ⟨⟨1, by omega⟩, by simp only; omega, ?_⟩
    dsimp only
    rw [hos]
    unfold exR_w exB_w
    dsimp only
    rw [← hT]
    refine Weak.sel [0, 1, 7, 6] rfl rfl ?_ ?_ rfl rfl
    ·
     (repeat' (first | exact trivial | refine And.intro ?_ ?_ | fail)) <;> first | exact wk_i (by first | exact hp | fail) | rfl | fail
    ·
     (repeat' (first | exact trivial | exact ren_eq (plainL_u8 _) hap | refine And.intro ?_ ?_ | fail)) <;> first | rfl | exact ren_eq (by first | (simp; done) | fail) (by first | rfl | fail) | fail
   ·
    obtain ⟨T0, hT0⟩ : ∃ T, T = exT_w K I (i + 1) := ⟨_, rfl⟩
    have htl0 := exT_len_w K I i
    rw [← hT0] at htl0
    have q := f49_w_bbb K hK T0 I [u8i ((i + 1 + 1 : Nat) : Int)] (by omega) hI (by simp) fk true fi true true
    rw [hT0, ← exT_s_w, ← hT0, htl0] at q
    obtain ⟨T, hT⟩ : ∃ T, T = exT_w K I (i + 1 + 1) := ⟨_, rfl⟩
    rw [← hT] at q
    have hTl : T.length = 64 := by rw [hT]; exact exT_len_w K I (i + 1)
    have hap : (O ++ T).map SV.u8 = List.take (64 * (i + 1) * 1) (List.drop 0 (O.map SV.u8)) ++ List.take (64 * 1) (List.drop 0 (T.map SV.u8)) := by
     rw [List.drop_zero, List.drop_zero, List.take_of_length_le (l := O.map SV.u8) (by rw [List.length_map]; omega), List.take_of_length_le (l := T.map SV.u8) (by rw [List.length_map]; omega), List.map_append]
    have hnx : 64 * (i + 1 + 1) = 64 * (i + 1) + 64 := by omega
    unfold exR_w exB_w
    dsimp only
    rw [← hT0]
    conv => whnf
    first | refine brT (by exact hlt) ?_ | fail
    conv => whnf
    repeat (first | (refine Exists.intro _ (And.intro rfl ?_); conv => whnf) | fail)
    refine ok1_callF [0, 5, 3, 1, 4] [false, false, false, false, false, true] false (q) rfl rfl ⟨⟨rfl, by first | rfl | fail⟩, by (repeat' (first | exact trivial | refine And.intro ?_ ?_)) <;> first | rfl | exact ren_eq (by first | (simp; done) | fail) (by first | rfl | fail) | fail, by first | simp [plainHf, plainB], by first | rfl | fail, ?_⟩
    conv => whnf
    repeat (first | (refine And.intro (by first | omega | (simp [ti5]; omega)) ?_; conv => whnf) | fail)
    refine ⟨⟨i + 1 + 1, by omega⟩, by simp only; omega, ?_⟩
    dsimp only
    rw [hos, ← hT]
    refine Weak.sel [0, 1, 7, 6] rfl rfl ?_ ?_ rfl rfl
    ·
     (repeat' (first | exact trivial | refine And.intro ?_ ?_ | fail)) <;> first | exact wk_i (by first | exact hp | exact hp.symm | fail) | rfl | fail
    ·
     (repeat' (first | exact trivial | exact ren_eq (plainL_u8 _) hap | refine And.intro ?_ ?_ | fail)) <;> first | rfl | exact ren_eq (by first | (simp; done) | fail) (by first | rfl | fail) | fail
  ·
   obtain rfl : i = m := by omega
   have hlt : decide (((64 * i : Nat) : Int) < (n : Int)) = false := by simp; omega
   rcases i with _ | i
   ·
    omega
   ·
    conv => whnf
    first | refine brF (by exact hlt) ?_ | fail
    conv => whnf
    repeat (first | (refine Exists.intro _ (And.intro rfl ?_); conv => whnf) | (refine And.intro (by first | omega | fail) ?_; conv => whnf) | fail)
    have hdd : decide (((n : Nat) : Int).toNat = ((n : Nat) : Int).toNat) = true := by simp
    rw [hdd, Int.toNat_natCast]
    refine ⟨[0, 1, 2], ?_, rfl, rfl, ?_, rfl⟩
    ·
     (repeat' (first | (refine wk_tup ?_) | (refine wk_cons ?_ ?_))) <;> first | rfl | fail
    ·
     (repeat' (first | exact trivial | refine And.intro ?_ ?_ | fail)) <;> first | rfl | exact ren_eq (by first | (simp; done) | fail) (by first | rfl | fail) | fail
end
end Go.Sh
