/- Merged for a claim: M5hw, Sh38, M8, M9, M10, M12, R8, R9, R10, R11, M13, M11, M14, M15, J1, M23, Sh37. -/
import Derived.SizedLaws
import Derived.Test.YtannakicfkjhbaaMt4
set_option linter.unusedSimpArgs false
set_option linter.unusedVariables false
namespace Go.Sh
open Go.Proofs
set_option maxHeartbeats 8000000
attribute [local irreducible] comp_w blks_w st_w rest_w hash_w pz_w outl_w outb_w lset_w last_w pTx pTh
theorem f104_h (h k : List UInt64) (hh : h.length = 8) (hk : k.length = 80) (b0 : List UInt8) (f0 : Bool) (ps : List Part) (hn : ps.length < 1000000000) (hb0 : (pTh b0 ps (ps.length + 1)).length < 100000000000000) (fl : Bool) : SCall Try.prog 104 [.p 0 0, .sl 3 0 (ps.length + 1) 1 fl] [some (.ro (mach_w 1 2)), some (.row 25 (h.map .u64)), some (.ro (k.map .u64)), some (.ro (.sl 5 0 b0.length 1 f0 :: ps.map pLit)), some (.ext (.fam (ps.map pFe))), some (.ro (b0.map .u8))] (.sl 6 0 64 1 false) [some (.ro (mach_w 1 2)), none, some (.ro (k.map .u64)), some (.ro (.sl 5 0 b0.length 1 f0 :: ps.map pLit)), some (.ext (.fam (ps.map pFe))), some (.ro (b0.map .u8)), some (.row 5 ((hash_w k h (pTh b0 ps (ps.length + 1))).map .u8))] := by
 obtain ⟨tx, htx⟩ : ∃ tx : Nat → List UInt8, tx = pTh b0 ps := ⟨_, rfl⟩
 have tx0 : tx 0 = [] := by rw [htx]; unfold pTh; rfl
 have tx1 : tx 1 = tx 0 ++ b0 := by rw [htx]; exact pTh_1 b0 ps
 have txn : ∀ i p, ps[i]? = some p → tx (i + 1 + 1) = tx (i + 1) ++ p.2.2 := fun i p hp => by rw [htx]; exact pTh_s hp
 have txl : ∀ i, (tx i).length ≤ (tx (ps.length + 1)).length := fun i => by rw [htx]; exact pTh_le b0 ps i
 rw [← htx] at hb0 ⊢
 clear htx
 refine scall_of ttOk (by kernel_rfl : Try.prog.funcs[104]? = some Try.f104) rfl rfl rfl ?_
 try simp only [List.length_cons, List.length_nil, Nat.zero_add, Nat.reduceAdd]
 refine sw_ok ttOk mixed (by kernel_rfl) ?_
 conv => whnf
 repeat (first | (refine Exists.intro _ (And.intro rfl ?_); conv => whnf) | fail)
 refine SWp.weak (Weak.virt 6 5 1 rfl) ?_
 refine loop_rulex [7] ttOk mixed (by kernel_rfl) (ι := { x : Nat × List UInt8 × Nat // x.1 ≤ ps.length + 1 ∧ x.2.2 ≤ x.2.1.length ∧ x.2.1.drop x.2.2 = rest_w (tx x.1) }) (fun x => [(0, .p 0 0), (5, .i 128), (6, .sl 6 x.1.2.2 (x.1.2.1.length - x.1.2.2) 1 false), (7, .u64 (UInt64.ofNat (tx x.1.1).length)), (21, .sl 3 0 (ps.length + 1) 1 fl), (22, .i ((ps.length + 1 : Nat) : Int)), (23, .i (x.1.1 : Int))]) (fun x => [some (.ro (mach_w 1 2)), some (.row 25 ((st_w k h (tx x.1.1)).map .u64)), some (.ro (k.map .u64)), some (.ro (.sl 5 0 b0.length 1 f0 :: ps.map pLit)), some (.ext (.fam (ps.map pFe))), some (.ro (b0.map .u8)), some (.row 5 (x.1.2.1.map .u8))]) (fun _ => 7) (fun x => ps.length + 1 - x.1.1) ⟨(0, [], 0), by omega, by simp, by rw [tx0]; exact rest_nil'_w⟩ ?_ ?_
 ·
  dsimp only
  rw [tx0, st_nil'_w]
  refine Weak.sel [0, 1, 2, 3, 4, 5, 6] rfl rfl ?_ ?_ rfl rfl
  ·
   (repeat' (first | exact trivial | refine And.intro ?_ ?_ | fail)) <;> first | rfl | fail
  ·
   (repeat' (first | exact trivial | refine And.intro ?_ ?_ | (refine wk_cons ?_ ?_))) <;> first | rfl | exact ren_eq (by first | (simp; done) | fail) (by first | rfl | fail) | fail
 ·
  rintro ⟨⟨i, E, o⟩, hi, ho, hE⟩
  dsimp only at hi ho hE ⊢
  have hsl := st_len_w k hh (tx i)
  have hrl := rest_len_w (tx i)
  obtain ⟨S, hS⟩ : ∃ S, S = st_w k h (tx i) := ⟨_, rfl⟩
  rw [← hS] at hsl ⊢
  have hEl : E.length - o = (rest_w (tx i)).length := by rw [← hE, List.length_drop]
  by_cases hi2 : i < ps.length + 1
  ·
   have hlt : decide ((i : Int) < ((ps.length + 1 : Nat) : Int)) = true := by simp; omega
   have hp1 : w64 ((i : Int) + 1) = ((i + 1 : Nat) : Int) := by simp only [w64_eq]; omega
   have htl := txl i
   rcases i with _ | i
   ·
    have htxs := tx1
    have hbb := txl 1
    have hbl : b0.length < 100000000000000 := by rw [htxs, List.length_append] at hbb; omega
    have hq := feed_st_w k h (tx 0) b0
    have hq2 := feed_rest_w (tx 0) b0
    rw [← hS] at hq
    rw [← htxs] at hq hq2
    rw [← hE] at hq hq2 hEl
    have hap : (E.drop o ++ b0).map SV.u8 = List.take ((E.length - o) * 1) (List.drop o (E.map SV.u8)) ++ List.take (b0.length * 1) (List.drop 0 (b0.map SV.u8)) := (cat8w rfl rfl).symm
    have hDl : (E.drop o ++ b0).length = E.length - o + b0.length := by rw [List.length_append, List.length_drop]
    have hel : E.length - o < 128 := by rw [← List.length_drop, hE, hrl]; omega
    have hul : UInt64.ofNat (tx 0).length + u64i (b0.length : Int) = UInt64.ofNat (tx 1).length := by rw [u64_add_i _ _ (by omega), htxs, List.length_append]
    clear hS hrl
    conv => whnf
    first | refine brT (by exact hlt) ?_ | fail
    conv => whnf
    repeat (first | (refine Exists.intro _ (And.intro rfl ?_); conv => whnf) | (refine And.intro (by first | omega | fail) ?_; conv => whnf) | fail)
    refine sw_ok ttOk mixed (by kernel_rfl) ?_
    conv => whnf
    repeat (first | (refine And.intro (by first | omega | (simp [ti5]; omega)) ?_; conv => whnf) | fail)
    obtain ⟨D, hD⟩ : ∃ D, D = E.drop o ++ b0 := ⟨_, rfl⟩
    rw [← hD] at hq hq2 hap hDl
    refine loop_rule ttOk mixed (by kernel_rfl) (ι := { j : Nat // 128 * j ≤ D.length }) (fun j => [(0, .p 0 0), (5, .i 128), (6, .sl 6 (128 * j.1) (D.length - 128 * j.1) 1 false), (7, .u64 (UInt64.ofNat (tx 1).length)), (21, .sl 3 0 (ps.length + 1) 1 fl), (22, .i (((ps.length + 1) : Nat) : Int)), (23, .i ((0 : Nat) : Int))]) (fun j => [some (.ro (mach_w 1 2)), some (.row 25 ((blks_w k S D j.1).map .u64)), some (.ro (k.map .u64)), some (.ro (.sl 5 0 b0.length 1 f0 :: ps.map pLit)), some (.ext (.fam (ps.map pFe))), some (.ro (b0.map .u8)), some (.row 5 (D.map .u8))]) (fun _ => 6 + 1) (fun j => D.length - 128 * j.1) ⟨0, by omega⟩ ?_ ?_
    ·
     have hz := blks_z_w k S D
     have hDn : E.length - o + b0.length = D.length - 128 * 0 := by omega
     dsimp only
     rw [hz]
     refine Weak.sel [0, 1, 2, 3, 4, 5, 7] rfl rfl ?_ ?_ rfl rfl
     ·
      (repeat' (first | exact trivial | refine And.intro ?_ ?_ | fail)) <;> first | exact wk_u64 (by first | exact hul | exact hul.symm | fail) | rfl | exact wk_sl rfl (by first | rfl | fail) (by first | exact hDn.symm | fail) | fail
     ·
      (repeat' (first | exact trivial | exact ren_eq (plainL_u8 _) hap | refine And.intro ?_ ?_ | (refine wk_cons ?_ ?_))) <;> first | rfl | exact ren_eq (by first | (simp; done) | fail) (by first | rfl | fail) | fail
    ·
     rintro ⟨j, hj⟩
     dsimp only
     have hbl := blks_len_w k hsl D j
     by_cases hc : 128 * (j + 1) ≤ D.length
     ·
      have hge : decide (((D.length - 128 * j : Nat) : Int) ≥ 128) = true := by simp; omega
      have hs := blks_s_w k S D j
      have q140 := f140D (blks_w k S D j) k D (128 * j) hbl hk (by omega) false
      rw [← hs] at q140
      conv => whnf
      first | refine brT (by exact hge) ?_ | fail
      conv => whnf
      repeat (first | (refine Exists.intro _ (And.intro rfl ?_); conv => whnf) | (refine And.intro (by first | omega | fail) ?_; conv => whnf) | fail)
      refine ok1_callF [0, 1, 2, 6] [false, true, false, false] true (q140) rfl rfl ⟨⟨rfl, by first | rfl | fail⟩, by (repeat' (first | exact trivial | refine And.intro ?_ ?_)) <;> first | rfl | exact ren_eq (by first | (simp; done) | fail) (by first | rfl | fail) | fail, by first | simp [plainHf, plainB], by first | rfl | fail, ?_⟩
      conv => whnf
      repeat (first | (refine Exists.intro _ (And.intro rfl ?_); conv => whnf) | (refine And.intro (by first | omega | fail) ?_; conv => whnf) | fail)
      refine ⟨⟨j + 1, hc⟩, by simp only; omega, ?_⟩
      dsimp only
      refine Weak.sel [0, 1, 2, 3, 4, 5, 6] rfl rfl ?_ ?_ rfl rfl
      ·
       (repeat' (first | exact trivial | refine And.intro ?_ ?_ | fail)) <;> first | rfl | fail
      ·
       (repeat' (first | exact trivial | refine And.intro ?_ ?_ | (refine wk_cons ?_ ?_))) <;> first | rfl | exact ren_eq (by first | (simp; done) | fail) (by first | rfl | fail) | fail
     ·
      obtain rfl : j = D.length / 128 := by omega
      have hge : decide (((D.length - 128 * (D.length / 128) : Nat) : Int) ≥ 128) = false := by simp; omega
      rw [hq]
      conv => whnf
      first | refine brF (by exact hge) ?_ | fail
      conv => whnf
      repeat (fail)
      refine ⟨⟨(1, D, 128 * (D.length / 128)), by omega, by simp only; omega, hq2⟩, by simp only; omega, ?_⟩
      dsimp only
      refine Weak.sel [0, 1, 2, 3, 4, 5, 6] rfl rfl ?_ ?_ rfl rfl
      ·
       (repeat' (first | exact trivial | refine And.intro ?_ ?_ | fail)) <;> first | rfl | fail
      ·
       (repeat' (first | exact trivial | refine And.intro ?_ ?_ | (refine wk_cons ?_ ?_))) <;> first | rfl | exact ren_eq (by first | (simp; done) | fail) (by first | rfl | fail) | fail
   ·
    obtain ⟨p, hp⟩ : ∃ p, ps[i]? = some p := ⟨_, List.getElem?_eq_getElem (by omega)⟩
    have hld := sload_lit1 (x := .sl 5 0 b0.length 1 f0) hp
    have hmem : pFe p ∈ ps.map pFe := List.mem_map_of_mem (List.mem_of_getElem? hp)
    have htxs := txn i p hp
    have hbb := txl (i + 1 + 1)
    obtain ⟨pv, prb, b⟩ := p
    dsimp only at htxs
    have hbl : b.length < 100000000000000 := by rw [htxs, List.length_append] at hbb; omega
    have hq := feed_st_w k h (tx (i + 1)) b
    have hq2 := feed_rest_w (tx (i + 1)) b
    rw [← hS] at hq
    rw [← htxs] at hq hq2
    rw [← hE] at hq hq2 hEl
    have hap : (E.drop o ++ b).map SV.u8 = List.take ((E.length - o) * 1) (List.drop o (E.map SV.u8)) ++ List.take (b.length * 1) (List.drop 0 (b.map SV.u8)) := (cat8w rfl rfl).symm
    have hDl : (E.drop o ++ b).length = E.length - o + b.length := by rw [List.length_append, List.length_drop]
    have hel : E.length - o < 128 := by rw [← List.length_drop, hE, hrl]; omega
    have hul : UInt64.ofNat (tx (i + 1)).length + u64i (b.length : Int) = UInt64.ofNat (tx (i + 1 + 1)).length := by rw [u64_add_i _ _ (by omega), htxs, List.length_append]
    clear hS hrl
    conv => whnf
    first | refine brT (by exact hlt) ?_ | fail
    conv => whnf
    repeat (first | (refine Exists.intro _ (And.intro (hld) ?_); conv => whnf) | (refine Exists.intro _ (And.intro rfl ?_); conv => whnf) | (refine And.intro (by first | omega | fail) ?_; conv => whnf) | fail)
    refine SWp.weak (focus_p 9 4 rfl hmem rfl) ?_
    refine sw_ok ttOk mixed (by kernel_rfl) ?_
    conv => whnf
    repeat (first | (refine And.intro (by first | omega | (simp [ti5]; omega)) ?_; conv => whnf) | fail)
    obtain ⟨D, hD⟩ : ∃ D, D = E.drop o ++ b := ⟨_, rfl⟩
    rw [← hD] at hq hq2 hap hDl
    refine loop_rule ttOk mixed (by kernel_rfl) (ι := { j : Nat // 128 * j ≤ D.length }) (fun j => [(0, .p 0 0), (5, .i 128), (6, .sl 6 (128 * j.1) (D.length - 128 * j.1) 1 false), (7, .u64 (UInt64.ofNat (tx (i + 1 + 1)).length)), (21, .sl 3 0 (ps.length + 1) 1 fl), (22, .i (((ps.length + 1) : Nat) : Int)), (23, .i (((i + 1) : Nat) : Int))]) (fun j => [some (.ro (mach_w 1 2)), some (.row 25 ((blks_w k S D j.1).map .u64)), some (.ro (k.map .u64)), some (.ro (.sl 5 0 b0.length 1 f0 :: ps.map pLit)), some (.ext (.fam (ps.map pFe))), some (.ro (b0.map .u8)), some (.row 5 (D.map .u8))]) (fun _ => 6 + 1) (fun j => D.length - 128 * j.1) ⟨0, by omega⟩ ?_ ?_
    ·
     have hz := blks_z_w k S D
     have hDn : E.length - o + b.length = D.length - 128 * 0 := by omega
     dsimp only
     rw [hz]
     refine Weak.sel [0, 1, 2, 3, 4, 5, 8] rfl rfl ?_ ?_ rfl rfl
     ·
      (repeat' (first | exact trivial | refine And.intro ?_ ?_ | fail)) <;> first | exact wk_u64 (by first | exact hul | exact hul.symm | fail) | rfl | exact wk_sl rfl (by first | rfl | fail) (by first | exact hDn.symm | fail) | fail
     ·
      (repeat' (first | exact trivial | exact ren_eq (plainL_u8 _) hap | refine And.intro ?_ ?_ | (refine wk_cons ?_ ?_))) <;> first | rfl | exact ren_eq (by first | (simp; done) | fail) (by first | rfl | fail) | fail
    ·
     rintro ⟨j, hj⟩
     dsimp only
     have hbl := blks_len_w k hsl D j
     by_cases hc : 128 * (j + 1) ≤ D.length
     ·
      have hge : decide (((D.length - 128 * j : Nat) : Int) ≥ 128) = true := by simp; omega
      have hs := blks_s_w k S D j
      have q140 := f140D (blks_w k S D j) k D (128 * j) hbl hk (by omega) false
      rw [← hs] at q140
      conv => whnf
      first | refine brT (by exact hge) ?_ | fail
      conv => whnf
      repeat (first | (refine Exists.intro _ (And.intro rfl ?_); conv => whnf) | (refine And.intro (by first | omega | fail) ?_; conv => whnf) | fail)
      refine ok1_callF [0, 1, 2, 6] [false, true, false, false] true (q140) rfl rfl ⟨⟨rfl, by first | rfl | fail⟩, by (repeat' (first | exact trivial | refine And.intro ?_ ?_)) <;> first | rfl | exact ren_eq (by first | (simp; done) | fail) (by first | rfl | fail) | fail, by first | simp [plainHf, plainB], by first | rfl | fail, ?_⟩
      conv => whnf
      repeat (first | (refine Exists.intro _ (And.intro rfl ?_); conv => whnf) | (refine And.intro (by first | omega | fail) ?_; conv => whnf) | fail)
      refine ⟨⟨j + 1, hc⟩, by simp only; omega, ?_⟩
      dsimp only
      refine Weak.sel [0, 1, 2, 3, 4, 5, 6] rfl rfl ?_ ?_ rfl rfl
      ·
       (repeat' (first | exact trivial | refine And.intro ?_ ?_ | fail)) <;> first | rfl | fail
      ·
       (repeat' (first | exact trivial | refine And.intro ?_ ?_ | (refine wk_cons ?_ ?_))) <;> first | rfl | exact ren_eq (by first | (simp; done) | fail) (by first | rfl | fail) | fail
     ·
      obtain rfl : j = D.length / 128 := by omega
      have hge : decide (((D.length - 128 * (D.length / 128) : Nat) : Int) ≥ 128) = false := by simp; omega
      rw [hq]
      conv => whnf
      first | refine brF (by exact hge) ?_ | fail
      conv => whnf
      repeat (fail)
      refine ⟨⟨((i + 1 + 1), D, 128 * (D.length / 128)), by omega, by simp only; omega, hq2⟩, by simp only; omega, ?_⟩
      dsimp only
      refine Weak.sel [0, 1, 2, 3, 4, 5, 6] rfl rfl ?_ ?_ rfl rfl
      ·
       (repeat' (first | exact trivial | refine And.intro ?_ ?_ | fail)) <;> first | rfl | exact wk_i (by first | omega | fail) | fail
      ·
       (repeat' (first | exact trivial | refine And.intro ?_ ?_ | (refine wk_cons ?_ ?_))) <;> first | rfl | exact ren_eq (by first | (simp; done) | fail) (by first | rfl | fail) | fail
  ·
   obtain rfl : i = ps.length + 1 := by omega
   have hge0 : decide (((ps.length + 1 : Nat) : Int) < ((ps.length + 1 : Nat) : Int)) = false := by simp
   obtain ⟨n, hn⟩ : ∃ n, n = E.length - o := ⟨_, rfl⟩
   have hnE : o + n = E.length := by omega
   rw [← hn]
   have hcat : (rest_w (tx (ps.length + 1)) ++ [128]).map SV.u8 = List.take (n * 1) (List.drop o (E.map SV.u8)) ++ List.take (1 * 1) (List.drop 0 [SV.u8 128]) := by rw [← hE]; exact (cat8w (b := [128]) hn rfl).symm
   have hdd : decide (((n : Nat) : Int).toNat = ((n : Nat) : Int).toNat) = true := by simp
   conv => whnf
   first | refine brF (by exact hge0) ?_ | fail
   conv => whnf
   repeat (first | (refine Exists.intro _ (And.intro rfl ?_); conv => whnf) | (refine And.intro (by first | omega | fail) ?_; conv => whnf) | fail)
   rw [hdd]
   rw [Int.toNat_natCast]
   have hnl : n = (rest_w (tx (ps.length + 1))).length := by rw [hn, ← hE, List.length_drop]
   have hn64 : n < 128 := by rw [hnl, hrl]; omega
   have hpz := pz_rest_w (tx (ps.length + 1))
   rw [← hnl] at hpz
   have hpl : pz_w n < 128 := by unfold pz_w; exact Nat.mod_lt _ (by decide)
   conv => whnf
   refine And.intro ⟨by show _ ≤ (E.map SV.u8).length; rw [List.length_map]; omega, by decide, by show _ * 1 ≤ _; omega, by decide⟩ ?_
   conv => whnf
   repeat (fail)
   refine loop_rule ttOk mixed (by kernel_rfl) (ι := { j : Nat // j ≤ pz_w n }) (fun j => [(0, .p 0 0), (5, .i 128), (6, .sl 6 0 (n + 1 + j.1) 1 false), (7, .u64 (UInt64.ofNat (tx (ps.length + 1)).length))]) (fun j => [some (.ro (mach_w 1 2)), some (.row 25 (S.map .u64)), some (.ro (k.map .u64)), some (.ro (.sl 5 0 b0.length 1 f0 :: ps.map pLit)), some (.ext (.fam (ps.map pFe))), some (.ro (b0.map .u8)), some (.row 5 ((rest_w (tx (ps.length + 1)) ++ [128] ++ List.replicate j.1 0).map .u8))]) (fun _ => 6 + 1) (fun j => pz_w n - j.1) ⟨0, by omega⟩ ?_ ?_
   ·
    have hz : rest_w (tx (ps.length + 1)) ++ [128] ++ List.replicate 0 0 = rest_w (tx (ps.length + 1)) ++ [128] := List.append_nil _
    dsimp only
    rw [hz]
    refine Weak.sel [0, 1, 2, 3, 4, 5, 6 + 2] rfl rfl ?_ ?_ rfl rfl
    ·
     (repeat' (first | exact trivial | refine And.intro ?_ ?_ | fail)) <;> first | rfl | fail
    ·
     (repeat' (first | exact trivial | exact ren_eq (plainL_u8 _) hcat | refine And.intro ?_ ?_ | (refine wk_cons ?_ ?_))) <;> first | rfl | exact ren_eq (by first | (simp; done) | fail) (by first | rfl | fail) | fail
   ·
    rintro ⟨j, hj⟩
    dsimp only
    obtain ⟨Y, hY⟩ : ∃ Y, Y = rest_w (tx (ps.length + 1)) ++ [128] ++ List.replicate j 0 := ⟨_, rfl⟩
    have hYl : Y.length = n + 1 + j := by rw [hY, List.length_append, List.length_append, ← hnl, List.length_replicate]; rfl
    have hYs : rest_w (tx (ps.length + 1)) ++ [128] ++ List.replicate (j + 1) 0 = Y ++ [0] := by rw [hY, List.replicate_succ', List.append_assoc]; simp
    by_cases hj2 : j < pz_w n
    ·
     have hno := padz_no_w hj2
     have hcd : (((w64 (((n + 1 + j : Nat) : Int) + w64 (2 * 8))).tmod 128) != 0) = true := by
      have e : w64 (((n + 1 + j : Nat) : Int) + w64 (2 * 8)) = ((n + 1 + j + 16 : Nat) : Int) := by simp only [w64_eq]; omega
      rw [e, show (((n + 1 + j + 16 : Nat) : Int)).tmod 128 = (((n + 1 + j + 16) % 128 : Nat) : Int) from rfl]
      simp; omega
     rw [← hY]
     conv => whnf
     repeat (first | (refine Exists.intro _ (And.intro rfl ?_); conv => whnf) | fail)
     first | refine brT (by exact hcd) ?_ | fail
     conv => whnf
     repeat (first | (refine Exists.intro _ (And.intro rfl ?_); conv => whnf) | (refine And.intro (by first | omega | (simp [ti5]; omega)) ?_; conv => whnf) | fail)
     have hap2 : (Y ++ [0]).map SV.u8 = List.take ((n + 1 + j) * 1) (List.drop 0 (Y.map SV.u8)) ++ List.take (1 * 1) (List.drop 0 [SV.u8 0]) := (cat8w (o := 0) (n := n + 1 + j) (E := Y) (b := [0]) (by omega) rfl).symm
     refine ⟨⟨j + 1, by omega⟩, by simp only; omega, ?_⟩
     dsimp only
     rw [hYs]
     refine Weak.sel [0, 1, 2, 3, 4, 5, 6 + 2] rfl rfl ?_ ?_ rfl rfl
     ·
      (repeat' (first | exact trivial | refine And.intro ?_ ?_ | fail)) <;> first | rfl | fail
     ·
      (repeat' (first | exact trivial | exact ren_eq (plainL_u8 _) hap2 | refine And.intro ?_ ?_ | (refine wk_cons ?_ ?_))) <;> first | rfl | exact ren_eq (by first | (simp; done) | fail) (by first | rfl | fail) | fail
    ·
     obtain rfl : j = pz_w n := by omega
     have hyes := padz_yes_w n
     have hcd : (((w64 (((n + 1 + pz_w n : Nat) : Int) + w64 (2 * 8))).tmod 128) != 0) = false := by
      have e : w64 (((n + 1 + pz_w n : Nat) : Int) + w64 (2 * 8)) = ((n + 1 + pz_w n + 16 : Nat) : Int) := by simp only [w64_eq]; omega
      rw [e, show (((n + 1 + pz_w n + 16 : Nat) : Int)).tmod 128 = (((n + 1 + pz_w n + 16) % 128 : Nat) : Int) from rfl, hyes]
      rfl
     rw [← hY]
     conv => whnf
     repeat (first | (refine Exists.intro _ (And.intro rfl ?_); conv => whnf) | fail)
     first | refine brF (by exact hcd) ?_ | fail
     conv => whnf
     repeat (first | (refine Exists.intro _ (And.intro rfl ?_); conv => whnf) | (refine And.intro ⟨by first | decide | fail, by first | decide | fail⟩ ?_; conv => whnf) | fail)
     obtain ⟨N, hN⟩ : ∃ N, N = (tx (ps.length + 1)).length := ⟨_, rfl⟩
     rw [← hN]
     refine loop_rule ttOk mixed (by kernel_rfl) (ι := { i : Nat // i ≤ 8 }) (fun i => [(0, .p 0 0), (5, .i 128), (6, .sl 6 0 (n + 1 + pz_w n) 1 false), (7, .u64 (UInt64.ofNat N)), (10, .sl (6 + 1) 0 16 1 true), (76, .i (i.1 : Int))]) (fun i => [some (.ro (mach_w 1 2)), some (.row 25 (S.map .u64)), some (.ro (k.map .u64)), some (.ro (.sl 5 0 b0.length 1 f0 :: ps.map pLit)), some (.ext (.fam (ps.map pFe))), some (.ro (b0.map .u8)), some (.row 5 (Y.map .u8)), some (.row 5 ((lset_w N i.1).map .u8))]) (fun _ => 6 + 2) (fun i => 8 - i.1) ⟨0, by omega⟩ ?_ ?_
     ·
      have hz := lset_z_w N
      dsimp only
      rw [hz]
      refine Weak.sel [0, 1, 2, 3, 4, 5, 6, 6 + 1] rfl rfl ?_ ?_ rfl rfl
      ·
       (repeat' (first | exact trivial | refine And.intro ?_ ?_ | fail)) <;> first | rfl | fail
      ·
       (repeat' (first | exact trivial | exact ren_z8 | refine And.intro ?_ ?_ | (refine wk_cons ?_ ?_))) <;> first | rfl | exact ren_eq (by first | (simp; done) | fail) (by first | rfl | fail) | fail
     ·
      rintro ⟨i, hi⟩
      dsimp only
      have hll := lset_len_w N i
      by_cases hi8 : i < 8
      ·
       have hlt : decide ((i : Int) < 8) = true := by simp; omega
       have hp := wp1i i (by omega)
       have h8 : w64 (8 * (i : Int)) = ((8 * i : Nat) : Int) := by simp only [w64_eq]; omega
       have h7 : w64 (w64 (16 - 1) - (i : Int)) = ((15 - i : Nat) : Int) := by simp only [w64_eq]; omega
       have hs := lset_s_w N i
       conv => whnf
       first | refine brT (by exact hlt) ?_ | fail
       conv => whnf
       repeat (fail)
       refine ⟨_, mshr_64 h8, ?_⟩
       conv => whnf
       repeat (first | (refine Exists.intro _ (And.intro (sput_m8 (i := 15 - i) (by first | rfl | omega | fail)) ?_); conv => whnf) | (refine Exists.intro _ (And.intro (idx_i (m := 15 - i) (by first | rfl | omega | fail)) ?_); conv => whnf) | (refine And.intro (by first | omega | (simp; omega) | fail) ?_; conv => whnf) | fail)
       refine ⟨⟨i + 1, by omega⟩, by simp only; omega, ?_⟩
       dsimp only
       rw [hs]
       refine Weak.sel [0, 1, 2, 3, 4, 5, 6, 6 + 1] rfl rfl ?_ ?_ rfl rfl
       ·
        (repeat' (first | exact trivial | refine And.intro ?_ ?_ | fail)) <;> first | exact wk_i (by first | exact hp | exact hp.symm | fail) | rfl | fail
       ·
        (repeat' (first | exact trivial | refine And.intro ?_ ?_ | (refine wk_cons ?_ ?_))) <;> first | rfl | exact ren_eq (by first | (simp; done) | fail) (by first | rfl | fail) | exact ren_m8 (by first | rfl | fail) | fail
      ·
       obtain rfl : i = 8 := by omega
       have hap3 : (Y ++ lset_w N 8).map SV.u8 = List.take ((n + 1 + pz_w n) * 1) (List.drop 0 (Y.map SV.u8)) ++ List.take (16 * 1) (List.drop 0 ((lset_w N 8).map SV.u8)) := (cat8w (o := 0) (n := n + 1 + pz_w n) (E := Y) (b := lset_w N 8) (by omega) hll.symm).symm
       obtain ⟨D, hD⟩ : ∃ D, D = Y ++ lset_w N 8 := ⟨_, rfl⟩
       have hDl : D.length = n + 1 + pz_w n + 16 := by rw [hD, List.length_append, hYl, hll]
       have hDe : D = last_w (tx (ps.length + 1)) := by rw [hD, hY, hpz, hN]; exact last_e_w _
       have hD64 := last_len_w (tx (ps.length + 1))
       have hfin := last_st_w k h (tx (ps.length + 1))
       rw [← hDe] at hD64 hfin
       rw [← hS] at hfin
       rw [← hD] at hap3
       conv => whnf
       first | refine brF (by rfl) ?_ | fail
       conv => whnf
       repeat (first | (refine And.intro (by first | omega | (simp [ti5]; omega)) ?_; conv => whnf) | fail)
       refine loop_rule ttOk mixed (by kernel_rfl) (ι := { j : Nat // 128 * j ≤ D.length }) (fun j => [(0, .p 0 0), (5, .i 128), (6, .sl 6 (128 * j.1) (D.length - 128 * j.1) 1 false)]) (fun j => [some (.ro (mach_w 1 2)), some (.row 25 ((blks_w k S D j.1).map .u64)), some (.ro (k.map .u64)), some (.ro (.sl 5 0 b0.length 1 f0 :: ps.map pLit)), some (.ext (.fam (ps.map pFe))), some (.ro (b0.map .u8)), some (.row 5 (D.map .u8))]) (fun _ => 6 + 1) (fun j => D.length - 128 * j.1) ⟨0, by omega⟩ ?_ ?_
       ·
        have hz := blks_z_w k S D
        have hDn : n + 1 + pz_w n + 16 = D.length - 128 * 0 := by omega
        dsimp only
        rw [hz]
        refine Weak.sel [0, 1, 2, 3, 4, 5, 6 + 2] rfl rfl ?_ ?_ rfl rfl
        ·
         (repeat' (first | exact trivial | refine And.intro ?_ ?_ | fail)) <;> first | rfl | exact wk_sl rfl (by first | rfl | fail) (by first | exact hDn.symm | fail) | fail
        ·
         (repeat' (first | exact trivial | exact ren_eq (plainL_u8 _) hap3 | refine And.intro ?_ ?_ | (refine wk_cons ?_ ?_))) <;> first | rfl | exact ren_eq (by first | (simp; done) | fail) (by first | rfl | fail) | fail
       ·
        rintro ⟨j, hj⟩
        dsimp only
        have hbl := blks_len_w k hsl D j
        by_cases hc : 128 * (j + 1) ≤ D.length
        ·
         have hge : decide (((D.length - 128 * j : Nat) : Int) > 0) = true := by simp; omega
         have hs := blks_s_w k S D j
         have q140 := f140D (blks_w k S D j) k D (128 * j) hbl hk (by omega) false
         rw [← hs] at q140
         conv => whnf
         first | refine brT (by exact hge) ?_ | fail
         conv => whnf
         repeat (first | (refine Exists.intro _ (And.intro rfl ?_); conv => whnf) | (refine And.intro (by first | omega | fail) ?_; conv => whnf) | fail)
         refine ok1_callF [0, 1, 2, 6] [false, true, false, false] true (q140) rfl rfl ⟨⟨rfl, by first | rfl | fail⟩, by (repeat' (first | exact trivial | refine And.intro ?_ ?_)) <;> first | rfl | exact ren_eq (by first | (simp; done) | fail) (by first | rfl | fail) | fail, by first | simp [plainHf, plainB], by first | rfl | fail, ?_⟩
         conv => whnf
         repeat (first | (refine Exists.intro _ (And.intro rfl ?_); conv => whnf) | (refine And.intro (by first | omega | fail) ?_; conv => whnf) | fail)
         refine ⟨⟨j + 1, hc⟩, by simp only; omega, ?_⟩
         dsimp only
         refine Weak.sel [0, 1, 2, 3, 4, 5, 6] rfl rfl ?_ ?_ rfl rfl
         ·
          (repeat' (first | exact trivial | refine And.intro ?_ ?_ | fail)) <;> first | rfl | fail
         ·
          (repeat' (first | exact trivial | refine And.intro ?_ ?_ | (refine wk_cons ?_ ?_))) <;> first | rfl | exact ren_eq (by first | (simp; done) | fail) (by first | rfl | fail) | fail
        ·
         obtain rfl : j = D.length / 128 := by omega
         have hge : decide (((D.length - 128 * (D.length / 128) : Nat) : Int) > 0) = false := by simp; omega
         obtain ⟨H, hH⟩ : ∃ H, H = blks_w k S D (D.length / 128) := ⟨_, rfl⟩
         rw [← hH] at hbl hfin ⊢
         conv => whnf
         first | refine brF (by exact hge) ?_ | fail
         conv => whnf
         repeat (first | (refine Exists.intro _ (And.intro rfl ?_); conv => whnf) | fail)
         refine SWp.weak (Weak.virt 12 5 1 rfl) ?_
         refine loop_rule ttOk mixed (by kernel_rfl) (ι := { i : Nat // i ≤ 8 }) (fun i => [(0, .p 0 0), (12, .sl 6 0 (8 * i.1) 1 false), (110, .sl 1 0 8 1 true), (111, .i 8), (112, .i (i.1 : Int))]) (fun i => [some (.ro (mach_w 1 2)), some (.row 25 (H.map .u64)), some (.ro (k.map .u64)), some (.ro (.sl 5 0 b0.length 1 f0 :: ps.map pLit)), some (.ext (.fam (ps.map pFe))), some (.ro (b0.map .u8)), some (.row 5 ((outl_w H (8 * i.1)).map .u8))]) (fun _ => 6 + 1) (fun i => 8 - i.1) ⟨0, by omega⟩ ?_ ?_
         ·
          have hz := outl_z_w H
          dsimp only
          rw [hz]
          refine Weak.sel [0, 1, 2, 3, 4, 5, 6 + 1] rfl rfl ?_ ?_ rfl rfl
          ·
           (repeat' (first | exact trivial | refine And.intro ?_ ?_ | fail)) <;> first | rfl | fail
          ·
           (repeat' (first | exact trivial | refine And.intro ?_ ?_ | (refine wk_cons ?_ ?_))) <;> first | rfl | exact ren_eq (by first | (simp; done) | fail) (by first | rfl | fail) | fail
         ·
          rintro ⟨i, hi⟩
          dsimp only
          by_cases hi8 : i < 8
          ·
           have hlt : decide ((i : Int) < 8) = true := by simp; omega
           have hp := wp1i i (by omega)
           conv => whnf
           first | refine brT (by exact hlt) ?_ | fail
           conv => whnf
           repeat (first | (refine Exists.intro _ (And.intro (sload_u64 (i := i) (by first | rfl | omega | fail) (by first | omega | fail)) ?_); conv => whnf) | (refine Exists.intro _ (And.intro (idx_i (m := i) (by first | rfl | fail)) ?_); conv => whnf) | (refine Exists.intro _ (And.intro rfl ?_); conv => whnf) | (refine And.intro (by first | omega | fail) ?_; conv => whnf) | fail)
           refine loop_rule ttOk mixed (by kernel_rfl) (ι := { m : Nat // m ≤ 8 }) (fun m => [(0, .p 0 0), (12, .sl 6 0 (8 * i + m.1) 1 false), (14, .u64 (H.getD i 0)), (15, .i (7 - (m.1 : Int))), (110, .sl 1 0 8 1 true), (111, .i 8), (112, .i (i : Int))]) (fun m => [some (.ro (mach_w 1 2)), some (.row 25 (H.map .u64)), some (.ro (k.map .u64)), some (.ro (.sl 5 0 b0.length 1 f0 :: ps.map pLit)), some (.ext (.fam (ps.map pFe))), some (.ro (b0.map .u8)), some (.row 5 ((outl_w H (8 * i + m.1)).map .u8))]) (fun _ => 6 + 1) (fun m => 8 - m.1) ⟨0, by omega⟩ ?_ ?_
           ·
            refine Weak.sel [0, 1, 2, 3, 4, 5, 6] rfl rfl ?_ ?_ rfl rfl
            ·
             (repeat' (first | exact trivial | refine And.intro ?_ ?_ | fail)) <;> first | rfl | fail
            ·
             (repeat' (first | exact trivial | refine And.intro ?_ ?_ | (refine wk_cons ?_ ?_))) <;> first | rfl | exact ren_eq (by first | (simp; done) | fail) (by first | rfl | fail) | fail
           ·
            rintro ⟨m, hm⟩
            dsimp only
            have hol := outl_len_w H (8 * i + m)
            by_cases hm8 : m < 8
            ·
             have hge : decide ((7 - (m : Int)) ≥ 0) = true := by simp; omega
             have h8 : w64 (8 * (7 - (m : Int))) = ((8 * (7 - m) : Nat) : Int) := by simp only [w64_eq]; omega
             have hp2 : w64 (7 - (m : Int) - 1) = 7 - ((m + 1 : Nat) : Int) := by simp only [w64_eq]; omega
             have hs := outl_s_w H i m hm8
             obtain ⟨Z, hZ⟩ : ∃ Z, Z = outl_w H (8 * i + m) := ⟨_, rfl⟩
             rw [← hZ] at hol hs ⊢
             have hap4 : (Z ++ [(shr64 (H.getD i 0) (8 * (7 - m))).toUInt8]).map SV.u8 = List.take ((8 * i + m) * 1) (List.drop 0 (Z.map SV.u8)) ++ List.take (1 * 1) (List.drop 0 [SV.u8 (shr64 (H.getD i 0) (8 * (7 - m))).toUInt8]) := (cat8w (o := 0) (n := 8 * i + m) (E := Z) (b := [(shr64 (H.getD i 0) (8 * (7 - m))).toUInt8]) (by omega) rfl).symm
             conv => whnf
             first | refine brT (by exact hge) ?_ | fail
             conv => whnf
             repeat (fail)
             refine ⟨_, mshr_64 h8, ?_⟩
             conv => whnf
             repeat (first | (refine Exists.intro _ (And.intro rfl ?_); conv => whnf) | (refine And.intro (by first | omega | (simp [ti5]; omega)) ?_; conv => whnf) | fail)
             refine ⟨⟨m + 1, by omega⟩, by simp only; omega, ?_⟩
             dsimp only
             rw [hs]
             refine Weak.sel [0, 1, 2, 3, 4, 5, 6 + 2] rfl rfl ?_ ?_ rfl rfl
             ·
              (repeat' (first | exact trivial | refine And.intro ?_ ?_ | fail)) <;> first | exact wk_i (by first | exact hp2 | exact hp2.symm | fail) | rfl | fail
             ·
              (repeat' (first | exact trivial | exact ren_eq (plainL_u8 _) hap4 | refine And.intro ?_ ?_ | (refine wk_cons ?_ ?_))) <;> first | rfl | exact ren_eq (by first | (simp; done) | fail) (by first | rfl | fail) | fail
            ·
             obtain rfl : m = 8 := by omega
             conv => whnf
             first | refine brF (by rfl) ?_ | fail
             conv => whnf
             repeat (fail)
             refine ⟨⟨i + 1, by omega⟩, by simp only; omega, ?_⟩
             dsimp only
             rw [show 8 * (i + 1) = 8 * i + 8 by omega]
             refine Weak.sel [0, 1, 2, 3, 4, 5, 6] rfl rfl ?_ ?_ rfl rfl
             ·
              (repeat' (first | exact trivial | refine And.intro ?_ ?_ | fail)) <;> first | exact wk_i (by first | exact hp | exact hp.symm | fail) | rfl | fail
             ·
              (repeat' (first | exact trivial | refine And.intro ?_ ?_ | (refine wk_cons ?_ ?_))) <;> first | rfl | exact ren_eq (by first | (simp; done) | fail) (by first | rfl | fail) | fail
          ·
           obtain rfl : i = 8 := by omega
           rw [outb_e_w] at hfin
           rw [← hfin]
           conv => whnf
           first | refine brF (by rfl) ?_ | fail
           conv => whnf
           refine ⟨[0, 1, 2, 3, 4, 5, 6], ?_, rfl, rfl, ?_, rfl⟩
           ·
            (repeat' (fail)) <;> first | rfl | fail
           ·
            (repeat' (first | exact trivial | refine And.intro ?_ ?_ | (refine wk_cons ?_ ?_))) <;> first | rfl | exact ren_eq (by first | (simp; done) | fail) (by first | rfl | fail) | fail
end Go.Sh
namespace Go.Sh
theorem SCall.absorb {P : Program} {f : Nat} {args args' : List SV} {H0 N0 N1 : HL} {ret ret' : SV} (sel : List Nat) (fn : FnOk P f)
  (h : ∀ ρ w, HRel ρ (hg H0) w → ∃ G0 : HL, G0.length = sel.length ∧ (∀ j, j < sel.length → ∃ b, hg G0 j = some b ∧ b.own = false) ∧ HRel (pullR sel ρ) (hg G0) w ∧ SCall P f args' G0 ret' (G0 ++ N0))
  (hro : ∀ id b, hg H0 id = some b → b.own = false) (ha : renL sel args' = some args) (hr : renV (sel ++ newSel H0.length N0.length) ret' = some ret)
  (hs : ∀ (j s : Nat), sel[j]? = some s → s < H0.length) (hl : N1.length = N0.length)
  (hN : ∀ j, (hg N0 j = none ∧ hg N1 j = none) ∨ ∃ b b', hg N0 j = some b ∧ hg N1 j = some b' ∧ renB (sel ++ newSel H0.length N0.length) b = some b') : SCall P f args H0 ret (H0 ++ N1) := by
 refine ⟨fn, fun n ρ w vs hA hH hS hF => ?_⟩
 obtain ⟨G0, hGl, hGa, hGH, hG⟩ := h ρ w hH
 have hlt : ∀ {X : HL} {id : Nat} {b : SB}, hg X id = some b → id < X.length := fun {X id b} h => by
  unfold hg at h
  rcases Nat.lt_or_ge id X.length with h2 | h2
  ·
   exact h2
  ·
   rw [List.getElem?_eq_none h2] at h; simp at h
 have hgl : ∀ {X Y : HL} {id : Nat}, id < X.length → hg (X ++ Y) id = hg X id := fun {X Y id} h => by unfold hg; rw [List.getElem?_append_left h]
 have hgr : ∀ {X Y : HL} {j : Nat}, hg (X ++ Y) (X.length + j) = hg Y j := fun {X Y j} => by unfold hg; rw [List.getElem?_append_right (by omega)]; congr 2; omega
 have hGo : ∀ id b, hg G0 id = some b → b.own = false := fun id b hb => by
  obtain ⟨b2, h1, h2⟩ := hGa id (by rw [← hGl]; exact hlt hb)
  rw [hb] at h1; cases h1; exact h2
 have hno : ∀ k o, ¬ Owned (pullR sel ρ) (hg G0) k o := by
  rintro k o ⟨id, b, rb, h1, h2, h3, h4⟩
  rw [hGo id b h1] at h3; cases h3
 have hc := hG.call n (pullR sel ρ) w vs ((rels_ren args' ha).2 hA) hGH (fun i j bi bj ri rj hne hi hj hri hrj hown => by rw [hGo i bi hi] at hown; cases hown)
  (fun id hid => by have : sel[id]? = none := List.getElem?_eq_none (by omega); simp only [pullR, this])
 refine hc.mono ?_
 intro e w' hr'
 cases e with
 | panicked c => exact hr'.elim
 | outgrown => exact hr'.elim
 | returned v =>
  obtain ⟨ρf, q1, q2, q3, q4, q5⟩ := hr'
  let ρ' : Ren := fun id => if id < H0.length then ρ id else ρf (G0.length + (id - H0.length))
  have r1 : ∀ id, id < H0.length → ρ' id = ρ id := fun id h => if_pos h
  have r2 : ∀ j, ρ' (H0.length + j) = ρf (G0.length + j) := fun j => by
   show (if H0.length + j < H0.length then _ else _) = _
   rw [if_neg (by omega)]; congr 1; omega
  have hpull : pullR (sel ++ newSel H0.length N0.length) ρ' = ρf := by
   funext j
   by_cases hj : j < sel.length
   ·
    obtain ⟨b, hb, _⟩ := hGa j hj
    obtain ⟨rb, h1, _⟩ := hGH j b hb
    have h2 := q5.ext j (by omega) rb h1
    have hs1 : (sel ++ newSel H0.length N0.length)[j]? = some sel[j] := by rw [List.getElem?_append_left hj, List.getElem?_eq_getElem hj]
    simp only [pullR, List.getElem?_eq_getElem hj] at h1
    simp only [pullR, hs1]
    rw [r1 _ (hs j _ (List.getElem?_eq_getElem hj)), h1, h2]
   ·
    have hs1 : (sel ++ newSel H0.length N0.length)[j]? = if j - sel.length < N0.length then some (H0.length + (j - sel.length)) else none := by rw [List.getElem?_append_right (by omega), newSel_get]
    by_cases hj2 : j - sel.length < N0.length
    ·
     rw [if_pos hj2] at hs1
     simp only [pullR, hs1]
     rw [r2]; congr 1; omega
    ·
     rw [if_neg hj2] at hs1
     simp only [pullR, hs1]
     exact (q4 j (by rw [List.length_append]; omega)).symm
  have hext : Ext ρ ρ' := fun id rb hid => by
   rcases Nat.lt_or_ge id H0.length with h2 | h2
   ·
    rw [r1 id h2]; exact hid
   ·
    rw [hF id h2] at hid; cases hid
  have hnew : ∀ j b, hg N1 j = some b → ∃ b0 rb, hg (G0 ++ N0) (G0.length + j) = some b0 ∧ renB (sel ++ newSel H0.length N0.length) b0 = some b ∧ ρf (G0.length + j) = some rb ∧ BRel ρf w' rb b0 := by
   intro j b hb
   rcases hN j with ⟨_, h2⟩ | ⟨b0, b', h1, h2, h3⟩
   ·
    rw [h2] at hb; cases hb
   ·
    rw [h2] at hb; cases hb
    have h4 : hg (G0 ++ N0) (G0.length + j) = some b0 := by rw [hgr]; exact h1
    obtain ⟨rb, h5, h6⟩ := q2 _ _ h4
    exact ⟨b0, rb, h4, h3, h5, h6⟩
  have hown : ∀ id b rb k o, hg (H0 ++ N1) id = some b → ρ' id = some rb → b.own = true → foot rb b k o → w.heap.size ≤ k ∧ ∃ j b0, id = H0.length + j ∧ hg (G0 ++ N0) (G0.length + j) = some b0 ∧ ρf (G0.length + j) = some rb ∧ b0.own = true ∧ foot rb b0 k o := by
   intro id b rb k o hb hρ ho hf
   rcases Nat.lt_or_ge id H0.length with h2 | h2
   ·
    rw [hgl h2] at hb; rw [hro id b hb] at ho; cases ho
   ·
    obtain ⟨j, rfl⟩ : ∃ j, id = H0.length + j := ⟨id - H0.length, by omega⟩
    rw [hgr] at hb
    obtain ⟨b0, rb0, h3, h4, h5, h6⟩ := hnew j b hb
    rw [r2, h5] at hρ; cases hρ
    have h7 := foot_ren h4 k o (rb := rb)
    have h8 : b0.own = true := by rw [← h7.2]; exact ho
    exact ⟨(q5.own k o ⟨_, b0, rb, h3, h5, h8, h7.1.2 hf⟩).resolve_left (hno k o), j, b0, rfl, h3, h5, h8, h7.1.2 hf⟩
  refine ⟨ρ', (rel_ren ret' hr).1 (by rw [hpull]; exact q1), ?_, ?_, ?_, ⟨fun id hid rb hρ => by rw [r1 id hid]; exact hρ, q5.fr.mono (fun k o _ h => absurd h (hno k o)), ?_⟩⟩
  ·
   intro id b hb
   rcases Nat.lt_or_ge id H0.length with h2 | h2
   ·
    rw [hgl h2] at hb
    obtain ⟨rb, h3, h4⟩ := hH id b hb
    exact ⟨rb, by rw [r1 id h2]; exact h3, (h4.frame q5.fr (fun k o _ => hno k o)).ext hext⟩
   ·
    obtain ⟨j, rfl⟩ : ∃ j, id = H0.length + j := ⟨id - H0.length, by omega⟩
    rw [hgr] at hb
    obtain ⟨b0, rb0, h3, h4, h5, h6⟩ := hnew j b hb
    exact ⟨rb0, by rw [r2]; exact h5, (brel_ren h4).1 (by rw [hpull]; exact h6)⟩
  ·
   intro i j bi bj ri rj hne hi hj hri hrj ho k o ⟨hfi, hfj⟩
   obtain ⟨hk, li, ci, e1, e2, e3, e4, e5⟩ := hown i bi ri k o hi hri ho hfi
   rcases Nat.lt_or_ge j H0.length with h2 | h2
   ·
    rw [hgl h2] at hj
    rw [r1 j h2] at hrj
    obtain ⟨rb, h3, h4⟩ := hH j bj hj
    rw [hrj] at h3; cases h3
    have := h4.foot_lt hfj
    omega
   ·
    obtain ⟨lj, rfl⟩ : ∃ l, j = H0.length + l := ⟨j - H0.length, by omega⟩
    rw [hgr] at hj
    obtain ⟨b0, rb0, h3, h4, h5, h6⟩ := hnew lj bj hj
    rw [r2, h5] at hrj; cases hrj
    exact q3 _ _ ci b0 ri rj (fun e => hne (by omega)) e2 h3 e3 h5 e4 k o ⟨e5, (foot_ren h4 k o).1.2 hfj⟩
  ·
   intro id hid
   rw [List.length_append] at hid
   obtain ⟨j, rfl⟩ : ∃ j, id = H0.length + j := ⟨id - H0.length, by omega⟩
   rw [r2]
   exact q4 _ (by rw [List.length_append]; omega)
  ·
   rintro k o ⟨id, b, rb, h1, h2, h3, h4⟩
   exact .inr (hown id b rb k o h1 h2 h3 h4).1
abbrev PD := Option (Nat × Bool × List UInt8)
def pdCell : PD → SV
 | none => .slnil
 | some d => .sl d.1 0 d.2.2.length 1 d.2.1
def pdTx : PD → List UInt8
 | none => []
 | some d => d.2.2
theorem parts_of {ρ : Ren} {H : Heap} {w : World} (hH : HRel ρ H w) : ∀ {ds : List PD} {vs : List Value}, (∀ id f b, some (id, f, b) ∈ ds → H id = some (.ro (b.map .u8))) → Rels ρ (ds.map pdCell) vs →
  ∃ ps : List Part, ps.map (fun p => p.2.2) = ds.map pdTx ∧ (∀ p ∈ ps, FEOk w (pFe p)) ∧ ∀ ρ2, Rels ρ2 (ps.map pLit) vs
 | [], vs, _, h => ⟨[], rfl, by simp, fun ρ2 => by simpa [Rels] using h⟩
 | d :: ds, vs, hd, h => by
  rw [List.map_cons] at h
  simp only [Rels] at h
  obtain ⟨v, us, rfl, h1, h2⟩ := h
  obtain ⟨ps, e1, e2, e3⟩ := parts_of hH (fun id f b hm => hd id f b (List.mem_cons_of_mem _ hm)) h2
  have fin : ∀ p : Part, p.1 = v → p.2.2 = pdTx d → FEOk w (pFe p) → ∃ ps : List Part, ps.map (fun p => p.2.2) = (d :: ds).map pdTx ∧ (∀ p ∈ ps, FEOk w (pFe p)) ∧ ∀ ρ2, Rels ρ2 (ps.map pLit) (v :: us) := by
   intro p g1 g2 g3
   refine ⟨p :: ps, by rw [List.map_cons, List.map_cons, e1, g2], fun q hq => ?_, fun ρ2 => Rels.cons ?_ (e3 ρ2)⟩
   ·
    rcases List.mem_cons.1 hq with rfl | hq
    ·
     exact g3
    ·
     exact e2 q hq
   ·
    simp only [pLit, Rel, g1, true_and]
    obtain ⟨⟨a, c, k1, _⟩, _⟩ := g3
    exact ⟨a, _, c, by rw [← g1]; exact k1⟩
  cases d with
  | none =>
   simp only [pdCell, Rel] at h1
   subst h1
   exact fin (.slice none 0 0, ⟨0, 0, 0, true⟩, []) rfl rfl ⟨⟨none, 0, rfl, Nat.le_refl _, .inl rfl⟩, .inl rfl⟩
  | some d =>
   obtain ⟨id, f, b⟩ := d
   simp only [pdCell, Rel] at h1
   obtain ⟨rb, a, c, k1, k2, k3, _, k5⟩ := h1
   obtain ⟨rb2, k6, k7⟩ := hH id _ (hd id f b (List.mem_cons_self ..))
   rw [k1] at k6; cases k6
   refine fin (v, rb, b) rfl rfl ⟨⟨a, c, k2, k3, ?_⟩, ?_⟩
   ·
    rcases k5 with k5 | ⟨g1, g2, g3⟩
    ·
     exact .inl k5
    ·
     exact .inr ⟨g1, g2, by show c * 1 ≤ rb.cap; omega⟩
   ·
    rcases k7 with k7 | ⟨⟨cc, t, fz, g1, g2, g3, g4, g5⟩, g6, g7⟩
    ·
     exact .inl k7
    ·
     exact .inr ⟨⟨cc, t, fz, g1, g2, rels_plain (plainL_u8 _) g3, fun h => (by cases h), g5⟩, g6, g7⟩
theorem rels_split {ρ : Ren} {xs ys : List SV} {vs : List Value} (h : Rels ρ (xs ++ ys) vs) : Rels ρ xs (vs.take xs.length) ∧ Rels ρ ys (vs.drop xs.length) := by
 have h1 := Rels.take xs.length h
 have h2 := Rels.drop xs.length h
 rw [List.take_left] at h1
 rw [List.drop_left] at h2
 exact ⟨h1, h2⟩
theorem atoms_app {xs ys : List SV} : atoms (xs ++ ys) = (atoms xs && atoms ys) := by simp [atoms]
theorem row_parts {sel : List Nat} {ρ : Ren} {H : Heap} {w : World} {rb : RB} (hH : HRel ρ H w) {xs ys : List SV} {ds : List PD} (hd : ∀ id f b, some (id, f, b) ∈ ds → H id = some (.ro (b.map .u8))) (hx : renL sel ys = some xs) (h : BRel ρ w rb (.ro (xs ++ ds.map pdCell))) :
  ∃ ps : List Part, ps.map (fun p => p.2.2) = ds.map pdTx ∧ (∀ ρ2 rb2, BRel ρ2 w rb2 (.ext (.fam (ps.map pFe)))) ∧ BRel (pullR sel ρ) w rb (.ro (ys ++ ps.map pLit)) := by
 have famOk : ∀ ps : List Part, (∀ p ∈ ps, FEOk w (pFe p)) → ∀ ρ2 rb2, BRel ρ2 w rb2 (.ext (.fam (ps.map pFe))) := fun ps hp ρ2 rb2 e he => by
  obtain ⟨p, hm, rfl⟩ := List.mem_map.1 he
  exact hp p hm
 rcases h with h | ⟨⟨c, t, fz, g1, g2, g3, g4, g5⟩, g6, g7⟩
 ·
  obtain ⟨rfl, h2⟩ := List.append_eq_nil_iff.1 h
  obtain rfl : ds = [] := by simpa using h2
  obtain rfl : ys = [] := (renL_nil hx).2 rfl
  exact ⟨[], rfl, famOk [] (by simp), .inl rfl⟩
 ·
  obtain ⟨h1, h2⟩ := rels_split g3
  obtain ⟨ps, e1, e2, e3⟩ := parts_of hH hd h2
  have hpl : ps.length = ds.length := by have := congrArg List.length e1; simpa using this
  obtain ⟨l1, l2⟩ := renL_len hx
  refine ⟨ps, e1, famOk ps e2, .inr ⟨⟨c, t, fz, g1, ?_, ?_, fun h => (by cases h), ?_⟩, ?_, g7⟩⟩
  ·
   rw [atoms_app] at g2 ⊢
   simp only [Bool.and_eq_true] at g2 ⊢
   exact ⟨by rw [← l2]; exact g2.1, atoms_lit ps⟩
  ·
   have hl : (ys ++ ps.map pLit).length = (xs ++ ds.map pdCell).length := by simp only [List.length_append, List.length_map]; omega
   rw [hl]
   have h3 : (c.toList.drop rb.off).take (xs ++ ds.map pdCell).length = ((c.toList.drop rb.off).take (xs ++ ds.map pdCell).length).take xs.length ++ ((c.toList.drop rb.off).take (xs ++ ds.map pdCell).length).drop xs.length := (List.take_append_drop _ _).symm
   rw [h3]
   exact Rels.append ((rels_ren ys hx).2 h1) (e3 _)
  ·
   simp only [List.length_append, List.length_map] at g5 ⊢; omega
  ·
   simp only [List.length_append, List.length_map] at g6 ⊢; omega
theorem sops_forget {P : Program} {N : Nat} {ops : Array Oper} {Q : RL → HL → Nat → Prop} {os : List Oper} {R : RL} {H : HL} {L : Nat} (t : Nat) {id o n sz : Nat} (ht : lk t R = some (.sl id o n sz true)) (h : SOps P N ops Q os ((t, .sl id o n sz false) :: R) H L) : SOps P N ops Q os R H L := by
 refine ⟨fun r nn B ρ a w k K hos hs hl hK => ?_⟩
 refine h.run r nn B ρ a w k K hos ⟨hs.size, ?_, hs.heap, hs.sep, hs.fresh, hs.dfr⟩ hl hK
 intro t2 v hv
 simp only [rg, List.lookup_cons] at hv
 split at hv
 ·
  rename_i e2
  have : t2 = t := by simpa using e2
  subst this
  cases hv
  have h1 := hs.regs t2 _ (by rw [rg, ← lk_eq]; exact ht)
  simp only [Rel] at h1 ⊢
  obtain ⟨rb, a2, c, k1, k2, k3, _, k5⟩ := h1
  exact ⟨rb, a2, c, k1, k2, k3, fun h => (by cases h), k5⟩
 ·
  exact hs.regs t2 v hv
end Go.Sh
namespace Go.Sh
open Go.Proofs
set_option maxHeartbeats 8000000
def sum_n (T : List UInt8) : List UInt8 := hash_n k0_n h0_n T
def sum_w (T : List UInt8) : List UInt8 := hash_w k0_w h0_w T
theorem sum_len_n (T : List UInt8) : (sum_n T).length = 32 := hash_len_n _ _ _
theorem sum_len_w (T : List UInt8) : (sum_w T).length = 64 := hash_len_w _ _ _
attribute [local irreducible] sum_n sum_w h0_n k0_n h0_w k0_w hash_n hash_w
theorem fb_lit {b0 : List UInt8} {ps : List Part} {ds : List PD} (h : ps.map (fun p => p.2.2) = ds.map pdTx) : pTh b0 ps (ps.length + 1) = b0 ++ (ds.map pdTx).flatten := by rw [pTh_e, h]
theorem len_lit {ps : List Part} {ds : List PD} (h : ps.map (fun p => p.2.2) = ds.map pdTx) : ps.length = ds.length := by have := congrArg List.length h; simpa using this
theorem f54_h (b0 : List UInt8) (f0 : Bool) (ps : List Part) (hn : ps.length < 1000000000) (hb0 : (pTh b0 ps (ps.length + 1)).length < 100000000000000) (fl : Bool) : SCall Try.prog 54 [.sl 0 0 (ps.length + 1) 1 fl] [some (.ro (.sl 2 0 b0.length 1 f0 :: ps.map pLit)), some (.ext (.fam (ps.map pFe))), some (.ro (b0.map .u8))] (.agg ((sum_n (pTh b0 ps (ps.length + 1))).map .u8)) [some (.ro (.sl 2 0 b0.length 1 f0 :: ps.map pLit)), some (.ext (.fam (ps.map pFe))), some (.ro (b0.map .u8))] := by
 have q := f102_h h0_n k0_n h0_n_len k0_n_len b0 f0 ps hn hb0 fl
 rw [show hash_n k0_n h0_n (pTh b0 ps (ps.length + 1)) = sum_n (pTh b0 ps (ps.length + 1)) by unfold sum_n; rfl] at q
 have hl := sum_len_n (pTh b0 ps (ps.length + 1))
 obtain ⟨W, hW⟩ : ∃ W, W = sum_n (pTh b0 ps (ps.length + 1)) := ⟨_, rfl⟩
 rw [← hW] at q hl ⊢
 refine scall_of ttOk (by kernel_rfl : Try.prog.funcs[54]? = some Try.f54) rfl rfl rfl ?_
 try simp only [List.length_cons, List.length_nil, Nat.zero_add, Nat.reduceAdd]
 refine sw_ok ttOk mixed (by kernel_rfl) ?_
 conv => whnf
 repeat (fail)
 refine ok1_callF [] [false, true, true] false (f101) rfl rfl ⟨⟨rfl, by first | rfl | fail⟩, trivial, by first | simp [plainHf, plainB], by first | rfl | fail, ?_⟩
 conv => whnf
 repeat (fail)
 refine ok1_callF [4, 5, 6, 0, 1, 2] [false, false, false, false, false, false, true] false (q) rfl rfl ⟨⟨rfl, by first | rfl | fail⟩, by (repeat' (first | exact trivial | refine And.intro ?_ ?_)) <;> first | rfl | exact ren_eq (by first | (simp; done) | fail) (by first | rfl | fail) | ((repeat' (first | (refine wk_cons ?_ ?_))) <;> first | rfl | exact ren_eq (by first | (simp; done) | fail) rfl | fail), by first | simp [plainHf, plainB], by first | rfl | fail, ?_⟩
 conv => whnf
 repeat (first | (refine Exists.intro _ (And.intro (sload_all rfl (by first | rfl | (simp [hl]; done) | fail)) ?_); conv => whnf) | (refine Exists.intro _ (And.intro (sput_all rfl (by first | rfl | (simp [hl]; done) | fail)) ?_); conv => whnf) | (refine And.intro (by first | omega | (simp; omega) | fail) ?_; conv => whnf) | fail)
 refine ⟨[0, 1, 2], ?_, rfl, rfl, ?_, rfl⟩
 ·
  (repeat' (first | (refine wk_agg ?_) | fail)) <;> first | exact ren_eq (by first | (simp; done) | fail) (by first | rfl | fail) | fail
 ·
  (repeat' (first | exact trivial | refine And.intro ?_ ?_ | (refine wk_cons ?_ ?_))) <;> first | rfl | exact ren_eq (by first | (simp; done) | fail) (by first | rfl | fail) | fail
theorem f99_n_h (b0 : List UInt8) (f0 : Bool) (ps : List Part) (hn : ps.length < 1000000000) (hb0 : (pTh b0 ps (ps.length + 1)).length < 100000000000000) (fl : Bool) : SCall Try.prog 99 [.u8 1, .sl 0 0 (ps.length + 1) 1 fl] [some (.ro (.sl 2 0 b0.length 1 f0 :: ps.map pLit)), some (.ext (.fam (ps.map pFe))), some (.ro (b0.map .u8))] (.sl 3 0 32 1 true) [some (.ro (.sl 2 0 b0.length 1 f0 :: ps.map pLit)), some (.ext (.fam (ps.map pFe))), some (.ro (b0.map .u8)), some (.box ((sum_n (pTh b0 ps (ps.length + 1))).map .u8))] := by
 have q := f54_h b0 f0 ps hn hb0 fl
 have hl := sum_len_n (pTh b0 ps (ps.length + 1))
 obtain ⟨W, hW⟩ : ∃ W, W = sum_n (pTh b0 ps (ps.length + 1)) := ⟨_, rfl⟩
 rw [← hW] at q hl ⊢
 refine scall_of ttOk (by kernel_rfl : Try.prog.funcs[99]? = some Try.f99) rfl rfl rfl ?_
 try simp only [List.length_cons, List.length_nil, Nat.zero_add, Nat.reduceAdd]
 refine sw_ok ttOk mixed (by kernel_rfl) ?_
 conv => whnf
 repeat (first | (refine brT rfl ?_; conv => whnf) | fail)
 refine ok1_callF [0, 1, 2] [false, false, false] true (q) rfl rfl ⟨⟨rfl, by first | rfl | fail⟩, by (repeat' (first | exact trivial | refine And.intro ?_ ?_)) <;> first | rfl | exact ren_eq (by first | (simp; done) | fail) (by first | rfl | fail) | ((repeat' (first | (refine wk_cons ?_ ?_))) <;> first | rfl | exact ren_eq (by first | (simp; done) | fail) rfl | fail), by first | rfl | fail, by first | simp [plainRf, plainR, plainT, plainW], ?_⟩
 conv => whnf
 repeat (first | (refine Exists.intro _ (And.intro (sput_all rfl (by first | rfl | (simp [hl]; done) | fail)) ?_); conv => whnf) | (refine Exists.intro _ (And.intro rfl ?_); conv => whnf) | (refine And.intro (by first | omega | (simp; omega) | fail) ?_; conv => whnf) | fail)
 refine ⟨[0, 1, 2, 3], ?_, rfl, rfl, ?_, rfl⟩
 ·
  (repeat' (fail)) <;> first | rfl | fail
 ·
  (repeat' (first | exact trivial | refine And.intro ?_ ?_ | (refine wk_cons ?_ ?_))) <;> first | rfl | exact ren_eq (by first | (simp; done) | fail) (by first | rfl | fail) | fail
theorem f55_h (b0 : List UInt8) (f0 : Bool) (ps : List Part) (hn : ps.length < 1000000000) (hb0 : (pTh b0 ps (ps.length + 1)).length < 100000000000000) (fl : Bool) : SCall Try.prog 55 [.sl 0 0 (ps.length + 1) 1 fl] [some (.ro (.sl 2 0 b0.length 1 f0 :: ps.map pLit)), some (.ext (.fam (ps.map pFe))), some (.ro (b0.map .u8))] (.agg ((sum_w (pTh b0 ps (ps.length + 1))).map .u8)) [some (.ro (.sl 2 0 b0.length 1 f0 :: ps.map pLit)), some (.ext (.fam (ps.map pFe))), some (.ro (b0.map .u8))] := by
 have q := f104_h h0_w k0_w h0_w_len k0_w_len b0 f0 ps hn hb0 fl
 rw [show hash_w k0_w h0_w (pTh b0 ps (ps.length + 1)) = sum_w (pTh b0 ps (ps.length + 1)) by unfold sum_w; rfl] at q
 have hl := sum_len_w (pTh b0 ps (ps.length + 1))
 obtain ⟨W, hW⟩ : ∃ W, W = sum_w (pTh b0 ps (ps.length + 1)) := ⟨_, rfl⟩
 rw [← hW] at q hl ⊢
 refine scall_of ttOk (by kernel_rfl : Try.prog.funcs[55]? = some Try.f55) rfl rfl rfl ?_
 try simp only [List.length_cons, List.length_nil, Nat.zero_add, Nat.reduceAdd]
 refine sw_ok ttOk mixed (by kernel_rfl) ?_
 conv => whnf
 repeat (fail)
 refine ok1_callF [] [false, true, true] false (f103) rfl rfl ⟨⟨rfl, by first | rfl | fail⟩, trivial, by first | simp [plainHf, plainB], by first | rfl | fail, ?_⟩
 conv => whnf
 repeat (fail)
 refine ok1_callF [4, 5, 6, 0, 1, 2] [false, false, false, false, false, false, true] false (q) rfl rfl ⟨⟨rfl, by first | rfl | fail⟩, by (repeat' (first | exact trivial | refine And.intro ?_ ?_)) <;> first | rfl | exact ren_eq (by first | (simp; done) | fail) (by first | rfl | fail) | ((repeat' (first | (refine wk_cons ?_ ?_))) <;> first | rfl | exact ren_eq (by first | (simp; done) | fail) rfl | fail), by first | simp [plainHf, plainB], by first | rfl | fail, ?_⟩
 conv => whnf
 repeat (first | (refine Exists.intro _ (And.intro (sload_all rfl (by first | rfl | (simp [hl]; done) | fail)) ?_); conv => whnf) | (refine Exists.intro _ (And.intro (sput_all rfl (by first | rfl | (simp [hl]; done) | fail)) ?_); conv => whnf) | (refine And.intro (by first | omega | (simp; omega) | fail) ?_; conv => whnf) | fail)
 refine ⟨[0, 1, 2], ?_, rfl, rfl, ?_, rfl⟩
 ·
  (repeat' (first | (refine wk_agg ?_) | fail)) <;> first | exact ren_eq (by first | (simp; done) | fail) (by first | rfl | fail) | fail
 ·
  (repeat' (first | exact trivial | refine And.intro ?_ ?_ | (refine wk_cons ?_ ?_))) <;> first | rfl | exact ren_eq (by first | (simp; done) | fail) (by first | rfl | fail) | fail
theorem f99_w_h (b0 : List UInt8) (f0 : Bool) (ps : List Part) (hn : ps.length < 1000000000) (hb0 : (pTh b0 ps (ps.length + 1)).length < 100000000000000) (fl : Bool) : SCall Try.prog 99 [.u8 2, .sl 0 0 (ps.length + 1) 1 fl] [some (.ro (.sl 2 0 b0.length 1 f0 :: ps.map pLit)), some (.ext (.fam (ps.map pFe))), some (.ro (b0.map .u8))] (.sl 3 0 64 1 true) [some (.ro (.sl 2 0 b0.length 1 f0 :: ps.map pLit)), some (.ext (.fam (ps.map pFe))), some (.ro (b0.map .u8)), some (.box ((sum_w (pTh b0 ps (ps.length + 1))).map .u8))] := by
 have q := f55_h b0 f0 ps hn hb0 fl
 have hl := sum_len_w (pTh b0 ps (ps.length + 1))
 obtain ⟨W, hW⟩ : ∃ W, W = sum_w (pTh b0 ps (ps.length + 1)) := ⟨_, rfl⟩
 rw [← hW] at q hl ⊢
 refine scall_of ttOk (by kernel_rfl : Try.prog.funcs[99]? = some Try.f99) rfl rfl rfl ?_
 try simp only [List.length_cons, List.length_nil, Nat.zero_add, Nat.reduceAdd]
 refine sw_ok ttOk mixed (by kernel_rfl) ?_
 conv => whnf
 repeat (first | (refine brF rfl ?_; conv => whnf) | fail)
 refine ok1_callF [0, 1, 2] [false, false, false] true (q) rfl rfl ⟨⟨rfl, by first | rfl | fail⟩, by (repeat' (first | exact trivial | refine And.intro ?_ ?_)) <;> first | rfl | exact ren_eq (by first | (simp; done) | fail) (by first | rfl | fail) | ((repeat' (first | (refine wk_cons ?_ ?_))) <;> first | rfl | exact ren_eq (by first | (simp; done) | fail) rfl | fail), by first | rfl | fail, by first | simp [plainRf, plainR, plainT, plainW], ?_⟩
 conv => whnf
 repeat (first | (refine Exists.intro _ (And.intro (sput_all rfl (by first | rfl | (simp [hl]; done) | fail)) ?_); conv => whnf) | (refine Exists.intro _ (And.intro rfl ?_); conv => whnf) | (refine And.intro (by first | omega | (simp; omega) | fail) ?_; conv => whnf) | fail)
 refine ⟨[0, 1, 2, 3], ?_, rfl, rfl, ?_, rfl⟩
 ·
  (repeat' (fail)) <;> first | rfl | fail
 ·
  (repeat' (first | exact trivial | refine And.intro ?_ ?_ | (refine wk_cons ?_ ?_))) <;> first | rfl | exact ren_eq (by first | (simp; done) | fail) (by first | rfl | fail) | fail
theorem f54_b (b0 : List UInt8) (hb0 : b0.length < 100000000000000) (f0 fl : Bool) : SCall Try.prog 54 [.sl 0 0 1 1 fl] [some (.ro [.sl 1 0 b0.length 1 f0]), some (.ro (b0.map .u8))] (.agg ((sum_n (b0)).map .u8)) [some (.ro [.sl 1 0 b0.length 1 f0]), some (.ro (b0.map .u8))] := by
 have q : ∀ ps : List Part, ps.map (fun p => p.2.2) = ([] : List PD).map pdTx → _ := fun ps e => f54_h b0 f0 ps (by rw [len_lit e]; decide) (by rw [fb_lit e]; simpa using hb0) fl
 have hl := sum_len_n b0
 refine SCall.absorb (N0 := []) (N1 := []) (args' := [.sl 0 0 1 1 fl]) (ret' := .agg ((sum_n b0).map .u8)) [0, 0, 1] (q [] rfl).fn ?_ ?_ rfl (renV_plainR _ (by simp [plainR, plainT, plainW])) ?_ rfl (fun j => .inl ⟨rfl, rfl⟩)
 ·
  intro ρ w hH
  obtain ⟨rb, hr, hb⟩ := hH 0 _ rfl
  obtain ⟨rb1, hr1, hb1⟩ := hH 1 _ rfl
  obtain ⟨ps, e1, e2, e3⟩ := row_parts (sel := [0, 0, 1]) (xs := [.sl 1 0 b0.length 1 f0]) (ys := [.sl 2 0 b0.length 1 f0]) (ds := []) hH (fun id f b h => by simp at h) rfl hb
  have q2 := q ps e1
  rw [fb_lit e1, len_lit e1] at q2
  simp only [List.map_nil, List.flatten_nil, List.append_nil, List.length_nil] at q2
  refine ⟨_, ?_, ?_, ?_, q2⟩
  ·
   rfl
  ·
   intro j hj
   match j, hj with
   | 0, _ => exact ⟨_, rfl, rfl⟩
   | 1, _ => exact ⟨_, rfl, rfl⟩
   | 2, _ => exact ⟨_, rfl, rfl⟩
  ·
   intro id b h
   match id, h with
   | 0, h => cases h; exact ⟨rb, hr, e3⟩
   | 1, h => cases h; exact ⟨rb, hr, e2 _ _⟩
   | 2, h => cases h; exact ⟨rb1, hr1, (brel_ren (renB_plain _ (by simp [plainB]))).2 hb1⟩
   | _ + 3, h => simp [hg] at h
 ·
  intro id b h
  match id, h with
  | 0, h => cases h; rfl
  | 1, h => cases h; rfl
  | _ + 2, h => simp [hg] at h
 ·
  intro j s h
  match j, h with
  | 0, h => cases h; simp
  | 1, h => cases h; simp
  | 2, h => cases h; simp
  | _ + 3, h => simp at h
theorem f99_n_lit (b0 : List UInt8) (f0 : Bool) (ds : List PD) (X : HL) (hn : ds.length < 1000000) (hb : (b0 ++ (ds.map pdTx).flatten).length < 100000000000000) (fl : Bool)
  (hX : ∀ id f b, some (id, f, b) ∈ ds → hg (some (.ro (.sl 1 0 b0.length 1 f0 :: ds.map pdCell)) :: some (.ro (b0.map .u8)) :: X) id = some (.ro (b.map .u8))) (hro : ∀ id b, hg X id = some b → b.own = false) :
  SCall Try.prog 99 [.u8 1, .sl 0 0 (ds.length + 1) 1 fl] (some (.ro (.sl 1 0 b0.length 1 f0 :: ds.map pdCell)) :: some (.ro (b0.map .u8)) :: X) (.sl (X.length + 1 + 1) 0 32 1 true) (some (.ro (.sl 1 0 b0.length 1 f0 :: ds.map pdCell)) :: some (.ro (b0.map .u8)) :: X ++ [some (.box ((sum_n (b0 ++ (ds.map pdTx).flatten)).map .u8))]) := by
 have q : ∀ ps : List Part, ps.map (fun p => p.2.2) = ds.map pdTx → _ := fun ps e => f99_n_h b0 f0 ps (by rw [len_lit e]; omega) (by rw [fb_lit e]; exact hb) fl
 refine SCall.absorb (N0 := [some (.box ((sum_n (b0 ++ (ds.map pdTx).flatten)).map .u8))]) (args' := [.u8 1, .sl 0 0 (ds.length + 1) 1 fl]) (ret' := .sl 3 0 32 1 true) [0, 0, 1] ?_ ?_ ?_ rfl rfl ?_ rfl ?_
 ·
  exact (f99_n_h b0 f0 [] (by decide) (by rw [pTh_e]; rw [List.length_append] at hb; simp; omega) fl).fn
 ·
  intro ρ w hH
  obtain ⟨rb, hr, hb⟩ := hH 0 _ rfl
  obtain ⟨rb1, hr1, hb1⟩ := hH 1 _ rfl
  obtain ⟨ps, e1, e2, e3⟩ := row_parts (sel := [0, 0, 1]) (xs := [.sl 1 0 b0.length 1 f0]) (ys := [.sl 2 0 b0.length 1 f0]) (ds := ds) hH hX rfl hb
  have q2 := q ps e1
  rw [fb_lit e1, len_lit e1] at q2
  refine ⟨[some (.ro (.sl 2 0 b0.length 1 f0 :: ps.map pLit)), some (.ext (.fam (ps.map pFe))), some (.ro (b0.map .u8))], rfl, ?_, ?_, q2⟩
  ·
   intro j hj
   match j, hj with
   | 0, _ => exact ⟨_, rfl, rfl⟩
   | 1, _ => exact ⟨_, rfl, rfl⟩
   | 2, _ => exact ⟨_, rfl, rfl⟩
  ·
   intro id b h
   match id, h with
   | 0, h => cases h; exact ⟨rb, hr, e3⟩
   | 1, h => cases h; exact ⟨rb, hr, e2 _ _⟩
   | 2, h => cases h; exact ⟨rb1, hr1, (brel_ren (renB_plain _ (by simp [plainB]))).2 hb1⟩
   | _ + 3, h => simp [hg] at h
 ·
  intro id b h
  match id, h with
  | 0, h => cases h; rfl
  | 1, h => cases h; rfl
  | id + 2, h => exact hro id b (by simpa [hg] using h)
 ·
  intro j s h
  match j, h with
  | 0, h => cases h; simp
  | 1, h => cases h; simp
  | 2, h => cases h; simp
  | _ + 3, h => simp at h
 ·
  intro j
  match j with
  | 0 => exact .inr ⟨_, _, rfl, rfl, renB_plain _ (by simp [plainB])⟩
  | _ + 1 => exact .inl ⟨rfl, rfl⟩
theorem f55_b (b0 : List UInt8) (hb0 : b0.length < 100000000000000) (f0 fl : Bool) : SCall Try.prog 55 [.sl 0 0 1 1 fl] [some (.ro [.sl 1 0 b0.length 1 f0]), some (.ro (b0.map .u8))] (.agg ((sum_w (b0)).map .u8)) [some (.ro [.sl 1 0 b0.length 1 f0]), some (.ro (b0.map .u8))] := by
 have q : ∀ ps : List Part, ps.map (fun p => p.2.2) = ([] : List PD).map pdTx → _ := fun ps e => f55_h b0 f0 ps (by rw [len_lit e]; decide) (by rw [fb_lit e]; simpa using hb0) fl
 have hl := sum_len_w b0
 refine SCall.absorb (N0 := []) (N1 := []) (args' := [.sl 0 0 1 1 fl]) (ret' := .agg ((sum_w b0).map .u8)) [0, 0, 1] (q [] rfl).fn ?_ ?_ rfl (renV_plainR _ (by simp [plainR, plainT, plainW])) ?_ rfl (fun j => .inl ⟨rfl, rfl⟩)
 ·
  intro ρ w hH
  obtain ⟨rb, hr, hb⟩ := hH 0 _ rfl
  obtain ⟨rb1, hr1, hb1⟩ := hH 1 _ rfl
  obtain ⟨ps, e1, e2, e3⟩ := row_parts (sel := [0, 0, 1]) (xs := [.sl 1 0 b0.length 1 f0]) (ys := [.sl 2 0 b0.length 1 f0]) (ds := []) hH (fun id f b h => by simp at h) rfl hb
  have q2 := q ps e1
  rw [fb_lit e1, len_lit e1] at q2
  simp only [List.map_nil, List.flatten_nil, List.append_nil, List.length_nil] at q2
  refine ⟨_, ?_, ?_, ?_, q2⟩
  ·
   rfl
  ·
   intro j hj
   match j, hj with
   | 0, _ => exact ⟨_, rfl, rfl⟩
   | 1, _ => exact ⟨_, rfl, rfl⟩
   | 2, _ => exact ⟨_, rfl, rfl⟩
  ·
   intro id b h
   match id, h with
   | 0, h => cases h; exact ⟨rb, hr, e3⟩
   | 1, h => cases h; exact ⟨rb, hr, e2 _ _⟩
   | 2, h => cases h; exact ⟨rb1, hr1, (brel_ren (renB_plain _ (by simp [plainB]))).2 hb1⟩
   | _ + 3, h => simp [hg] at h
 ·
  intro id b h
  match id, h with
  | 0, h => cases h; rfl
  | 1, h => cases h; rfl
  | _ + 2, h => simp [hg] at h
 ·
  intro j s h
  match j, h with
  | 0, h => cases h; simp
  | 1, h => cases h; simp
  | 2, h => cases h; simp
  | _ + 3, h => simp at h
theorem f99_w_lit (b0 : List UInt8) (f0 : Bool) (ds : List PD) (X : HL) (hn : ds.length < 1000000) (hb : (b0 ++ (ds.map pdTx).flatten).length < 100000000000000) (fl : Bool)
  (hX : ∀ id f b, some (id, f, b) ∈ ds → hg (some (.ro (.sl 1 0 b0.length 1 f0 :: ds.map pdCell)) :: some (.ro (b0.map .u8)) :: X) id = some (.ro (b.map .u8))) (hro : ∀ id b, hg X id = some b → b.own = false) :
  SCall Try.prog 99 [.u8 2, .sl 0 0 (ds.length + 1) 1 fl] (some (.ro (.sl 1 0 b0.length 1 f0 :: ds.map pdCell)) :: some (.ro (b0.map .u8)) :: X) (.sl (X.length + 1 + 1) 0 64 1 true) (some (.ro (.sl 1 0 b0.length 1 f0 :: ds.map pdCell)) :: some (.ro (b0.map .u8)) :: X ++ [some (.box ((sum_w (b0 ++ (ds.map pdTx).flatten)).map .u8))]) := by
 have q : ∀ ps : List Part, ps.map (fun p => p.2.2) = ds.map pdTx → _ := fun ps e => f99_w_h b0 f0 ps (by rw [len_lit e]; omega) (by rw [fb_lit e]; exact hb) fl
 refine SCall.absorb (N0 := [some (.box ((sum_w (b0 ++ (ds.map pdTx).flatten)).map .u8))]) (args' := [.u8 2, .sl 0 0 (ds.length + 1) 1 fl]) (ret' := .sl 3 0 64 1 true) [0, 0, 1] ?_ ?_ ?_ rfl rfl ?_ rfl ?_
 ·
  exact (f99_w_h b0 f0 [] (by decide) (by rw [pTh_e]; rw [List.length_append] at hb; simp; omega) fl).fn
 ·
  intro ρ w hH
  obtain ⟨rb, hr, hb⟩ := hH 0 _ rfl
  obtain ⟨rb1, hr1, hb1⟩ := hH 1 _ rfl
  obtain ⟨ps, e1, e2, e3⟩ := row_parts (sel := [0, 0, 1]) (xs := [.sl 1 0 b0.length 1 f0]) (ys := [.sl 2 0 b0.length 1 f0]) (ds := ds) hH hX rfl hb
  have q2 := q ps e1
  rw [fb_lit e1, len_lit e1] at q2
  refine ⟨[some (.ro (.sl 2 0 b0.length 1 f0 :: ps.map pLit)), some (.ext (.fam (ps.map pFe))), some (.ro (b0.map .u8))], rfl, ?_, ?_, q2⟩
  ·
   intro j hj
   match j, hj with
   | 0, _ => exact ⟨_, rfl, rfl⟩
   | 1, _ => exact ⟨_, rfl, rfl⟩
   | 2, _ => exact ⟨_, rfl, rfl⟩
  ·
   intro id b h
   match id, h with
   | 0, h => cases h; exact ⟨rb, hr, e3⟩
   | 1, h => cases h; exact ⟨rb, hr, e2 _ _⟩
   | 2, h => cases h; exact ⟨rb1, hr1, (brel_ren (renB_plain _ (by simp [plainB]))).2 hb1⟩
   | _ + 3, h => simp [hg] at h
 ·
  intro id b h
  match id, h with
  | 0, h => cases h; rfl
  | 1, h => cases h; rfl
  | id + 2, h => exact hro id b (by simpa [hg] using h)
 ·
  intro j s h
  match j, h with
  | 0, h => cases h; simp
  | 1, h => cases h; simp
  | 2, h => cases h; simp
  | _ + 3, h => simp at h
 ·
  intro j
  match j with
  | 0 => exact .inr ⟨_, _, rfl, rfl, renB_plain _ (by simp [plainB])⟩
  | _ + 1 => exact .inl ⟨rfl, rfl⟩
theorem f99_n_b (b0 : List UInt8) (hb0 : b0.length < 100000000000000) (f0 fl : Bool) : SCall Try.prog 99 [.u8 1, .sl 0 0 1 1 fl] [some (.ro [.sl 1 0 b0.length 1 f0]), some (.ro (b0.map .u8))] (.sl 2 0 32 1 true) [some (.ro [.sl 1 0 b0.length 1 f0]), some (.ro (b0.map .u8)), some (.box ((sum_n (b0)).map .u8))] := by
 have q := f99_n_lit b0 f0 [] [] (by simp) (by simp [pdTx]; omega) fl (by intro id f b h; (repeat (rcases List.mem_cons.1 h with e | h; · (cases e <;> rfl))); exact absurd h (by simp)) (by intro id b h; match id, h with | _ + 0, h => simp [hg] at h)
 rw [show b0 ++ (List.map pdTx []).flatten = b0 by simp [pdTx]] at q
 exact q
theorem f99_n_bb (b0 b1 : List UInt8) (hb0 : b0.length < 10000000000000) (hb1 : b1.length < 10000000000000) (f0 f1 fl : Bool) : SCall Try.prog 99 [.u8 1, .sl 0 0 2 1 fl] [some (.ro [.sl 1 0 b0.length 1 f0, .sl 2 0 b1.length 1 f1]), some (.ro (b0.map .u8)), some (.ro (b1.map .u8))] (.sl 3 0 32 1 true) [some (.ro [.sl 1 0 b0.length 1 f0, .sl 2 0 b1.length 1 f1]), some (.ro (b0.map .u8)), some (.ro (b1.map .u8)), some (.box ((sum_n (b0 ++ b1)).map .u8))] := by
 have q := f99_n_lit b0 f0 [some (2, f1, b1)] [some (.ro (b1.map .u8))] (by simp) (by simp [pdTx]; omega) fl (by intro id f b h; (repeat (rcases List.mem_cons.1 h with e | h; · (cases e <;> rfl))); exact absurd h (by simp)) (by intro id b h; match id, h with | 0, h => cases h; rfl | _ + 1, h => simp [hg] at h)
 rw [show b0 ++ (List.map pdTx [some (2, f1, b1)]).flatten = b0 ++ b1 by simp [pdTx]] at q
 exact q
theorem f99_n_bbb (b0 b1 b2 : List UInt8) (hb0 : b0.length < 10000000000000) (hb1 : b1.length < 10000000000000) (hb2 : b2.length < 10000000000000) (f0 f1 f2 fl : Bool) : SCall Try.prog 99 [.u8 1, .sl 0 0 3 1 fl] [some (.ro [.sl 1 0 b0.length 1 f0, .sl 2 0 b1.length 1 f1, .sl 3 0 b2.length 1 f2]), some (.ro (b0.map .u8)), some (.ro (b1.map .u8)), some (.ro (b2.map .u8))] (.sl 4 0 32 1 true) [some (.ro [.sl 1 0 b0.length 1 f0, .sl 2 0 b1.length 1 f1, .sl 3 0 b2.length 1 f2]), some (.ro (b0.map .u8)), some (.ro (b1.map .u8)), some (.ro (b2.map .u8)), some (.box ((sum_n (b0 ++ b1 ++ b2)).map .u8))] := by
 have q := f99_n_lit b0 f0 [some (2, f1, b1), some (3, f2, b2)] [some (.ro (b1.map .u8)), some (.ro (b2.map .u8))] (by simp) (by simp [pdTx]; omega) fl (by intro id f b h; (repeat (rcases List.mem_cons.1 h with e | h; · (cases e <;> rfl))); exact absurd h (by simp)) (by intro id b h; match id, h with | 0, h => cases h; rfl | 1, h => cases h; rfl | _ + 2, h => simp [hg] at h)
 rw [show b0 ++ (List.map pdTx [some (2, f1, b1), some (3, f2, b2)]).flatten = b0 ++ b1 ++ b2 by simp [pdTx]] at q
 exact q
theorem f99_n_bobb (b0 b2 b3 : List UInt8) (hb0 : b0.length < 10000000000000) (hb2 : b2.length < 10000000000000) (hb3 : b3.length < 10000000000000) (f0 f2 f3 fl : Bool) : SCall Try.prog 99 [.u8 1, .sl 0 0 4 1 fl] [some (.ro [.sl 1 0 b0.length 1 f0, .slnil, .sl 2 0 b2.length 1 f2, .sl 3 0 b3.length 1 f3]), some (.ro (b0.map .u8)), some (.ro (b2.map .u8)), some (.ro (b3.map .u8))] (.sl 4 0 32 1 true) [some (.ro [.sl 1 0 b0.length 1 f0, .slnil, .sl 2 0 b2.length 1 f2, .sl 3 0 b3.length 1 f3]), some (.ro (b0.map .u8)), some (.ro (b2.map .u8)), some (.ro (b3.map .u8)), some (.box ((sum_n (b0 ++ b2 ++ b3)).map .u8))] := by
 have q := f99_n_lit b0 f0 [none, some (2, f2, b2), some (3, f3, b3)] [some (.ro (b2.map .u8)), some (.ro (b3.map .u8))] (by simp) (by simp [pdTx]; omega) fl (by intro id f b h; (repeat (rcases List.mem_cons.1 h with e | h; · (cases e <;> rfl))); exact absurd h (by simp)) (by intro id b h; match id, h with | 0, h => cases h; rfl | 1, h => cases h; rfl | _ + 2, h => simp [hg] at h)
 rw [show b0 ++ (List.map pdTx [none, some (2, f2, b2), some (3, f3, b3)]).flatten = b0 ++ b2 ++ b3 by simp [pdTx]] at q
 exact q
theorem f99_n_bbbb (b0 b1 b2 b3 : List UInt8) (hb0 : b0.length < 10000000000000) (hb1 : b1.length < 10000000000000) (hb2 : b2.length < 10000000000000) (hb3 : b3.length < 10000000000000) (f0 f1 f2 f3 fl : Bool) : SCall Try.prog 99 [.u8 1, .sl 0 0 4 1 fl] [some (.ro [.sl 1 0 b0.length 1 f0, .sl 2 0 b1.length 1 f1, .sl 3 0 b2.length 1 f2, .sl 4 0 b3.length 1 f3]), some (.ro (b0.map .u8)), some (.ro (b1.map .u8)), some (.ro (b2.map .u8)), some (.ro (b3.map .u8))] (.sl 5 0 32 1 true) [some (.ro [.sl 1 0 b0.length 1 f0, .sl 2 0 b1.length 1 f1, .sl 3 0 b2.length 1 f2, .sl 4 0 b3.length 1 f3]), some (.ro (b0.map .u8)), some (.ro (b1.map .u8)), some (.ro (b2.map .u8)), some (.ro (b3.map .u8)), some (.box ((sum_n (b0 ++ b1 ++ b2 ++ b3)).map .u8))] := by
 have q := f99_n_lit b0 f0 [some (2, f1, b1), some (3, f2, b2), some (4, f3, b3)] [some (.ro (b1.map .u8)), some (.ro (b2.map .u8)), some (.ro (b3.map .u8))] (by simp) (by simp [pdTx]; omega) fl (by intro id f b h; (repeat (rcases List.mem_cons.1 h with e | h; · (cases e <;> rfl))); exact absurd h (by simp)) (by intro id b h; match id, h with | 0, h => cases h; rfl | 1, h => cases h; rfl | 2, h => cases h; rfl | _ + 3, h => simp [hg] at h)
 rw [show b0 ++ (List.map pdTx [some (2, f1, b1), some (3, f2, b2), some (4, f3, b3)]).flatten = b0 ++ b1 ++ b2 ++ b3 by simp [pdTx]] at q
 exact q
theorem f99_w_b (b0 : List UInt8) (hb0 : b0.length < 100000000000000) (f0 fl : Bool) : SCall Try.prog 99 [.u8 2, .sl 0 0 1 1 fl] [some (.ro [.sl 1 0 b0.length 1 f0]), some (.ro (b0.map .u8))] (.sl 2 0 64 1 true) [some (.ro [.sl 1 0 b0.length 1 f0]), some (.ro (b0.map .u8)), some (.box ((sum_w (b0)).map .u8))] := by
 have q := f99_w_lit b0 f0 [] [] (by simp) (by simp [pdTx]; omega) fl (by intro id f b h; (repeat (rcases List.mem_cons.1 h with e | h; · (cases e <;> rfl))); exact absurd h (by simp)) (by intro id b h; match id, h with | _ + 0, h => simp [hg] at h)
 rw [show b0 ++ (List.map pdTx []).flatten = b0 by simp [pdTx]] at q
 exact q
theorem f99_w_bb (b0 b1 : List UInt8) (hb0 : b0.length < 10000000000000) (hb1 : b1.length < 10000000000000) (f0 f1 fl : Bool) : SCall Try.prog 99 [.u8 2, .sl 0 0 2 1 fl] [some (.ro [.sl 1 0 b0.length 1 f0, .sl 2 0 b1.length 1 f1]), some (.ro (b0.map .u8)), some (.ro (b1.map .u8))] (.sl 3 0 64 1 true) [some (.ro [.sl 1 0 b0.length 1 f0, .sl 2 0 b1.length 1 f1]), some (.ro (b0.map .u8)), some (.ro (b1.map .u8)), some (.box ((sum_w (b0 ++ b1)).map .u8))] := by
 have q := f99_w_lit b0 f0 [some (2, f1, b1)] [some (.ro (b1.map .u8))] (by simp) (by simp [pdTx]; omega) fl (by intro id f b h; (repeat (rcases List.mem_cons.1 h with e | h; · (cases e <;> rfl))); exact absurd h (by simp)) (by intro id b h; match id, h with | 0, h => cases h; rfl | _ + 1, h => simp [hg] at h)
 rw [show b0 ++ (List.map pdTx [some (2, f1, b1)]).flatten = b0 ++ b1 by simp [pdTx]] at q
 exact q
theorem f99_w_bobb (b0 b2 b3 : List UInt8) (hb0 : b0.length < 10000000000000) (hb2 : b2.length < 10000000000000) (hb3 : b3.length < 10000000000000) (f0 f2 f3 fl : Bool) : SCall Try.prog 99 [.u8 2, .sl 0 0 4 1 fl] [some (.ro [.sl 1 0 b0.length 1 f0, .slnil, .sl 2 0 b2.length 1 f2, .sl 3 0 b3.length 1 f3]), some (.ro (b0.map .u8)), some (.ro (b2.map .u8)), some (.ro (b3.map .u8))] (.sl 4 0 64 1 true) [some (.ro [.sl 1 0 b0.length 1 f0, .slnil, .sl 2 0 b2.length 1 f2, .sl 3 0 b3.length 1 f3]), some (.ro (b0.map .u8)), some (.ro (b2.map .u8)), some (.ro (b3.map .u8)), some (.box ((sum_w (b0 ++ b2 ++ b3)).map .u8))] := by
 have q := f99_w_lit b0 f0 [none, some (2, f2, b2), some (3, f3, b3)] [some (.ro (b2.map .u8)), some (.ro (b3.map .u8))] (by simp) (by simp [pdTx]; omega) fl (by intro id f b h; (repeat (rcases List.mem_cons.1 h with e | h; · (cases e <;> rfl))); exact absurd h (by simp)) (by intro id b h; match id, h with | 0, h => cases h; rfl | 1, h => cases h; rfl | _ + 2, h => simp [hg] at h)
 rw [show b0 ++ (List.map pdTx [none, some (2, f2, b2), some (3, f3, b3)]).flatten = b0 ++ b2 ++ b3 by simp [pdTx]] at q
 exact q
theorem f99_w_bbbb (b0 b1 b2 b3 : List UInt8) (hb0 : b0.length < 10000000000000) (hb1 : b1.length < 10000000000000) (hb2 : b2.length < 10000000000000) (hb3 : b3.length < 10000000000000) (f0 f1 f2 f3 fl : Bool) : SCall Try.prog 99 [.u8 2, .sl 0 0 4 1 fl] [some (.ro [.sl 1 0 b0.length 1 f0, .sl 2 0 b1.length 1 f1, .sl 3 0 b2.length 1 f2, .sl 4 0 b3.length 1 f3]), some (.ro (b0.map .u8)), some (.ro (b1.map .u8)), some (.ro (b2.map .u8)), some (.ro (b3.map .u8))] (.sl 5 0 64 1 true) [some (.ro [.sl 1 0 b0.length 1 f0, .sl 2 0 b1.length 1 f1, .sl 3 0 b2.length 1 f2, .sl 4 0 b3.length 1 f3]), some (.ro (b0.map .u8)), some (.ro (b1.map .u8)), some (.ro (b2.map .u8)), some (.ro (b3.map .u8)), some (.box ((sum_w (b0 ++ b1 ++ b2 ++ b3)).map .u8))] := by
 have q := f99_w_lit b0 f0 [some (2, f1, b1), some (3, f2, b2), some (4, f3, b3)] [some (.ro (b1.map .u8)), some (.ro (b2.map .u8)), some (.ro (b3.map .u8))] (by simp) (by simp [pdTx]; omega) fl (by intro id f b h; (repeat (rcases List.mem_cons.1 h with e | h; · (cases e <;> rfl))); exact absurd h (by simp)) (by intro id b h; match id, h with | 0, h => cases h; rfl | 1, h => cases h; rfl | 2, h => cases h; rfl | _ + 3, h => simp [hg] at h)
 rw [show b0 ++ (List.map pdTx [some (2, f1, b1), some (3, f2, b2), some (4, f3, b3)]).flatten = b0 ++ b1 ++ b2 ++ b3 by simp [pdTx]] at q
 exact q
end Go.Sh
namespace Go.Sh
open Go.Proofs
set_option maxHeartbeats 4000000
def padL (B : Nat) (K : List UInt8) (w : UInt8) : List UInt8 := (List.range B).map (fun i => w ^^^ K.getD i 0)
theorem padL_len (B : Nat) (K : List UInt8) (w : UInt8) : (padL B K w).length = B := by unfold padL; simp
theorem pad_fil {B : Nat} {K : List UInt8} {w : UInt8} (h : K.length ≤ B) : fil B K.length (fun i => w ^^^ K.getD i 0) (fun _ => w) = padL B K w := by
 unfold fil padL
 apply List.map_congr_left
 intro i _
 by_cases hi : i < K.length
 ·
  rw [if_pos hi]
 ·
  rw [if_neg hi, List.getD_eq_getElem?_getD, List.getElem?_eq_none (by omega)]
  show w = w ^^^ 0
  exact (UInt8.xor_zero).symm
def key_n (K : List UInt8) : List UInt8 := if 64 < K.length then sum_n K else K
def key_w (K : List UInt8) : List UInt8 := if 128 < K.length then sum_w K else K
theorem key_len_n (K : List UInt8) : (key_n K).length ≤ 64 := by
 unfold key_n
 by_cases hk : 64 < K.length
 ·
  rw [if_pos hk, sum_len_n]; decide
 ·
  rw [if_neg hk]; omega
theorem f98_n : SCall Try.prog 98 [.u8 1] [] (.i 32) [] := by
 refine scall_of ttOk (by kernel_rfl : Try.prog.funcs[98]? = some Try.f98) rfl rfl rfl ?_
 try simp only [List.length_cons, List.length_nil, Nat.zero_add, Nat.reduceAdd]
 refine sw_ok ttOk mixed (by kernel_rfl) ?_
 conv => whnf
 repeat (first | (refine brT rfl ?_; conv => whnf) | fail)
 refine ⟨[], ?_, rfl, rfl, ?_, rfl⟩
 ·
  (repeat' (fail)) <;> first | rfl | fail
 ·
  (repeat' (first | exact trivial | fail)) <;> fail
theorem f134_n : SCall Try.prog 134 [.u8 1] [] (.i 64) [] := by
 refine scall_of ttOk (by kernel_rfl : Try.prog.funcs[134]? = some Try.f134) rfl rfl rfl ?_
 try simp only [List.length_cons, List.length_nil, Nat.zero_add, Nat.reduceAdd]
 refine sw_ok ttOk mixed (by kernel_rfl) ?_
 conv => whnf
 repeat (fail)
 refine ok1_callF [] [] true (f98_n) rfl rfl ⟨⟨rfl, by first | rfl | fail⟩, trivial, by first | rfl | fail, by first | rfl | fail, ?_⟩
 conv => whnf
 repeat (fail)
 refine ⟨[], ?_, rfl, rfl, ?_, rfl⟩
 ·
  (repeat' (fail)) <;> first | rfl | fail
 ·
  (repeat' (first | exact trivial | fail)) <;> fail
theorem key_len_w (K : List UInt8) : (key_w K).length ≤ 128 := by
 unfold key_w
 by_cases hk : 128 < K.length
 ·
  rw [if_pos hk, sum_len_w]; decide
 ·
  rw [if_neg hk]; omega
theorem f98_w : SCall Try.prog 98 [.u8 2] [] (.i 64) [] := by
 refine scall_of ttOk (by kernel_rfl : Try.prog.funcs[98]? = some Try.f98) rfl rfl rfl ?_
 try simp only [List.length_cons, List.length_nil, Nat.zero_add, Nat.reduceAdd]
 refine sw_ok ttOk mixed (by kernel_rfl) ?_
 conv => whnf
 repeat (first | (refine brT rfl ?_; conv => whnf) | (refine brF rfl ?_; conv => whnf) | fail)
 refine ⟨[], ?_, rfl, rfl, ?_, rfl⟩
 ·
  (repeat' (fail)) <;> first | rfl | fail
 ·
  (repeat' (first | exact trivial | fail)) <;> fail
theorem f134_w : SCall Try.prog 134 [.u8 2] [] (.i 128) [] := by
 refine scall_of ttOk (by kernel_rfl : Try.prog.funcs[134]? = some Try.f134) rfl rfl rfl ?_
 try simp only [List.length_cons, List.length_nil, Nat.zero_add, Nat.reduceAdd]
 refine sw_ok ttOk mixed (by kernel_rfl) ?_
 conv => whnf
 repeat (fail)
 refine ok1_callF [] [] true (f98_w) rfl rfl ⟨⟨rfl, by first | rfl | fail⟩, trivial, by first | rfl | fail, by first | rfl | fail, ?_⟩
 conv => whnf
 repeat (fail)
 refine ⟨[], ?_, rfl, rfl, ?_, rfl⟩
 ·
  (repeat' (fail)) <;> first | rfl | fail
 ·
  (repeat' (first | exact trivial | fail)) <;> fail
theorem wpi8 (i : Nat) (h : i < 1000) : w64 ((i : Int) + 1) = ((i + 1 : Nat) : Int) := by simp only [w64_eq]; omega
attribute [local irreducible] sum_n sum_w
theorem f100_n_s (K : List UInt8) (hK : K.length ≤ 64) (w : UInt8) (f : Bool) : SCall Try.prog 100 [.u8 1, .sl 0 0 K.length 1 f, .u8 w] [some (.ro (K.map .u8))] (.sl 1 0 64 1 true) [some (.ro (K.map .u8)), some (.row 5 ((padL 64 K w).map .u8))] := by
 have q135 := f135 w 64 (by decide) (by decide) true
 obtain ⟨Z, hZ⟩ : ∃ Z, Z = List.replicate 64 w := ⟨_, rfl⟩
 rw [← hZ] at q135
 have hlt : decide ((K.length : Int) > 64) = false := by simp; omega
 have hKl : K.length ≤ 64 := hK
 refine scall_of ttOk (by kernel_rfl : Try.prog.funcs[100]? = some Try.f100) rfl rfl rfl ?_
 try simp only [List.length_cons, List.length_nil, Nat.zero_add, Nat.reduceAdd]
 refine sw_ok ttOk mixed (by kernel_rfl) ?_
 conv => whnf
 repeat (fail)
 refine ok1_callF [] [] true (f134_n) rfl rfl ⟨⟨rfl, by first | rfl | fail⟩, trivial, by first | rfl | fail, by first | rfl | fail, ?_⟩
 conv => whnf
 repeat (first | (refine And.intro (by first | omega | (simp; omega) | fail) ?_; conv => whnf) | fail)
 first | intro _
 conv => whnf
 repeat (first | (refine Exists.intro _ (And.intro rfl ?_); conv => whnf) | fail)
 refine ok1_callF [] [] true (f134_n) rfl rfl ⟨⟨rfl, by first | rfl | fail⟩, trivial, by first | rfl | fail, by first | rfl | fail, ?_⟩
 conv => whnf
 repeat (fail)
 refine ok1_callF [1] [false, true] false (q135) rfl rfl ⟨⟨rfl, by first | rfl | fail⟩, by (repeat' (first | exact trivial | refine And.intro ?_ ?_)) <;> first | rfl | fail, by first | simp [plainHf, plainB], by first | rfl | fail, ?_⟩
 conv => whnf
 repeat (fail)
 refine loop_rule ttOk mixed (by kernel_rfl) (ι := { i : Nat // i ≤ K.length }) (fun i => [(7, .sl 1 0 64 1 true), (24, .sl 0 0 K.length 1 f), (25, .i K.length), (26, .i (i.1 : Int))]) (fun i => [some (.ro (K.map .u8)), some (.row 5 ((fil 64 i.1 (fun i => w ^^^ K.getD i 0) (fun _ => w)).map .u8))]) (fun _ => 1 + 1) (fun i => K.length - i.1) ⟨0, by omega⟩ ?_ ?_
 ·
  have hz : fil 64 0 (fun i => w ^^^ K.getD i 0) (fun _ => w) = Z := by rw [hZ]; exact fil_zero _ _ _
  dsimp only
  rw [hz]
  refine Weak.sel [0, 2] rfl rfl ?_ ?_ rfl rfl
  ·
   (repeat' (first | exact trivial | refine And.intro ?_ ?_ | fail)) <;> first | rfl | fail
  ·
   (repeat' (first | exact trivial | refine And.intro ?_ ?_ | fail)) <;> first | rfl | exact ren_eq (by first | (simp; done) | fail) (by first | rfl | fail) | fail
 ·
  rintro ⟨i, hi⟩
  dsimp only
  have hf := fil_len 64 i (fun i => w ^^^ K.getD i 0) (fun _ => w)
  by_cases hi2 : i < K.length
  ·
   have hlt2 : decide ((i : Int) < (K.length : Int)) = true := by simp; omega
   have hp := wpi8 i (by omega)
   have hiB : i < 64 := by omega
   have hx : (fil 64 i (fun i => w ^^^ K.getD i 0) (fun _ => w)).getD i 0 ^^^ K.getD i 0 = (fun i => w ^^^ K.getD i 0) i := by
    rw [fil_getD hiB, if_neg (by omega)]
   have hs := fil_setx (f := fun i => w ^^^ K.getD i 0) (g := fun _ => w) hiB hx
   conv => whnf
   first | refine brT (by exact hlt2) ?_ | fail
   conv => whnf
   repeat (first | (refine Exists.intro _ (And.intro (sput_m8 (i := i) (by first | rfl | omega | fail)) ?_); conv => whnf) | (refine Exists.intro _ (And.intro (sload_u8 (i := i) (by first | rfl | omega | fail) (by first | omega | fail)) ?_); conv => whnf) | (refine Exists.intro _ (And.intro (idx_i (m := i) (by first | rfl | fail)) ?_); conv => whnf) | (refine And.intro (by first | omega | fail) ?_; conv => whnf) | (refine And.intro ⟨by first | exact @rfl Nat _ | fail, by first | (simp only [hf, ti5, List.length_map]; omega) | fail⟩ ?_; conv => whnf) | fail)
   refine ⟨⟨i + 1, by omega⟩, by simp only; omega, ?_⟩
   dsimp only
   rw [← hs]
   refine Weak.sel [0, 1] rfl rfl ?_ ?_ rfl rfl
   ·
    (repeat' (first | exact trivial | refine And.intro ?_ ?_ | fail)) <;> first | exact wk_i (by first | exact hp | exact hp.symm | fail) | rfl | fail
   ·
    (repeat' (first | exact trivial | refine And.intro ?_ ?_ | fail)) <;> first | rfl | exact ren_eq (by first | (simp; done) | fail) (by first | rfl | fail) | exact ren_m8 (by first | rfl | fail) | fail
  ·
   obtain rfl : i = K.length := by omega
   have hlt2 : decide ((K.length : Int) < (K.length : Int)) = false := by simp
   rw [pad_fil (by omega)]
   conv => whnf
   first | refine brF (by exact hlt2) ?_ | fail
   conv => whnf
   repeat (fail)
   refine ⟨[0, 1], ?_, rfl, rfl, ?_, rfl⟩
   ·
    (repeat' (fail)) <;> first | rfl | fail
   ·
    (repeat' (first | exact trivial | refine And.intro ?_ ?_ | (refine wk_cons ?_ ?_))) <;> first | rfl | exact ren_eq (by first | (simp; done) | fail) (by first | rfl | fail) | fail
theorem f100_n_l (K : List UInt8) (hK : 64 < K.length) (hKb : K.length < 100000000000000) (w : UInt8) (f : Bool) : SCall Try.prog 100 [.u8 1, .sl 0 0 K.length 1 f, .u8 w] [some (.ro (K.map .u8))] (.sl 1 0 64 1 true) [some (.ro (K.map .u8)), some (.row 5 ((padL 64 (sum_n K) w).map .u8))] := by
 have q135 := f135 w 64 (by decide) (by decide) true
 obtain ⟨Z, hZ⟩ : ∃ Z, Z = List.replicate 64 w := ⟨_, rfl⟩
 rw [← hZ] at q135
 have hlt : decide ((K.length : Int) > 64) = true := by simp; omega
 have q99 := f99_n_b K hKb f true
 have hKl := sum_len_n K
 obtain ⟨W, hW⟩ : ∃ W, W = sum_n K := ⟨_, rfl⟩
 rw [← hW] at q99 hKl ⊢
 refine scall_of ttOk (by kernel_rfl : Try.prog.funcs[100]? = some Try.f100) rfl rfl rfl ?_
 try simp only [List.length_cons, List.length_nil, Nat.zero_add, Nat.reduceAdd]
 refine sw_ok ttOk mixed (by kernel_rfl) ?_
 conv => whnf
 repeat (fail)
 refine ok1_callF [] [] true (f134_n) rfl rfl ⟨⟨rfl, by first | rfl | fail⟩, trivial, by first | rfl | fail, by first | rfl | fail, ?_⟩
 conv => whnf
 repeat (fail)
 first | refine brT (by exact hlt) ?_ | fail
 conv => whnf
 repeat (first | (refine Exists.intro _ (And.intro rfl ?_); conv => whnf) | fail)
 refine ok1_callF [1, 0] [false, false, true] false (q99) rfl rfl ⟨⟨rfl, by first | rfl | fail⟩, by (repeat' (first | exact trivial | refine And.intro ?_ ?_)) <;> first | rfl | exact ren_eq (by first | (simp; done) | fail) (by first | rfl | fail) | fail, by first | simp [plainHf, plainB], by first | rfl | fail, ?_⟩
 conv => whnf
 repeat (first | (refine Exists.intro _ (And.intro rfl ?_); conv => whnf) | fail)
 refine ok1_callF [] [] true (f134_n) rfl rfl ⟨⟨rfl, by first | rfl | fail⟩, trivial, by first | rfl | fail, by first | rfl | fail, ?_⟩
 conv => whnf
 repeat (fail)
 refine ok1_callF [3] [false, true] false (q135) rfl rfl ⟨⟨rfl, by first | rfl | fail⟩, by (repeat' (first | exact trivial | refine And.intro ?_ ?_)) <;> first | rfl | fail, by first | simp [plainHf, plainB], by first | rfl | fail, ?_⟩
 conv => whnf
 repeat (fail)
 refine loop_rule ttOk mixed (by kernel_rfl) (ι := { i : Nat // i ≤ W.length }) (fun i => [(7, .sl 2 0 64 1 true), (24, .sl 1 0 W.length 1 true), (25, .i W.length), (26, .i (i.1 : Int))]) (fun i => [some (.ro (K.map .u8)), some (.ro (W.map .u8)), some (.row 5 ((fil 64 i.1 (fun i => w ^^^ W.getD i 0) (fun _ => w)).map .u8))]) (fun _ => 2 + 1) (fun i => W.length - i.1) ⟨0, by omega⟩ ?_ ?_
 ·
  have hz : fil 64 0 (fun i => w ^^^ W.getD i 0) (fun _ => w) = Z := by rw [hZ]; exact fil_zero _ _ _
  dsimp only
  rw [hz]
  refine Weak.sel [0, 2, 4] rfl rfl ?_ ?_ rfl rfl
  ·
   (repeat' (first | exact trivial | refine And.intro ?_ ?_ | fail)) <;> first | rfl | exact wk_i (by first | rfl | omega | fail) | exact wk_sl rfl (by first | rfl | fail) (by first | exact hKl | fail) | fail
  ·
   (repeat' (first | exact trivial | refine And.intro ?_ ?_ | fail)) <;> first | rfl | exact ren_eq (by first | (simp; done) | fail) (by first | rfl | fail) | fail
 ·
  rintro ⟨i, hi⟩
  dsimp only
  have hf := fil_len 64 i (fun i => w ^^^ W.getD i 0) (fun _ => w)
  by_cases hi2 : i < W.length
  ·
   have hlt2 : decide ((i : Int) < (W.length : Int)) = true := by simp; omega
   have hp := wpi8 i (by omega)
   have hiB : i < 64 := by omega
   have hx : (fil 64 i (fun i => w ^^^ W.getD i 0) (fun _ => w)).getD i 0 ^^^ W.getD i 0 = (fun i => w ^^^ W.getD i 0) i := by
    rw [fil_getD hiB, if_neg (by omega)]
   have hs := fil_setx (f := fun i => w ^^^ W.getD i 0) (g := fun _ => w) hiB hx
   conv => whnf
   first | refine brT (by exact hlt2) ?_ | fail
   conv => whnf
   repeat (first | (refine Exists.intro _ (And.intro (sput_m8 (i := i) (by first | rfl | omega | fail)) ?_); conv => whnf) | (refine Exists.intro _ (And.intro (sload_u8 (i := i) (by first | rfl | omega | fail) (by first | omega | fail)) ?_); conv => whnf) | (refine Exists.intro _ (And.intro (idx_i (m := i) (by first | rfl | fail)) ?_); conv => whnf) | (refine And.intro (by first | omega | fail) ?_; conv => whnf) | (refine And.intro ⟨by first | exact @rfl Nat _ | fail, by first | (simp only [hf, ti5, List.length_map]; omega) | fail⟩ ?_; conv => whnf) | fail)
   refine ⟨⟨i + 1, by omega⟩, by simp only; omega, ?_⟩
   dsimp only
   rw [← hs]
   refine Weak.sel [0, 1, 2] rfl rfl ?_ ?_ rfl rfl
   ·
    (repeat' (first | exact trivial | refine And.intro ?_ ?_ | fail)) <;> first | exact wk_i (by first | exact hp | exact hp.symm | fail) | rfl | fail
   ·
    (repeat' (first | exact trivial | refine And.intro ?_ ?_ | fail)) <;> first | rfl | exact ren_eq (by first | (simp; done) | fail) (by first | rfl | fail) | exact ren_m8 (by first | rfl | fail) | fail
  ·
   obtain rfl : i = W.length := by omega
   have hlt2 : decide ((W.length : Int) < (W.length : Int)) = false := by simp
   rw [pad_fil (by omega)]
   conv => whnf
   first | refine brF (by exact hlt2) ?_ | fail
   conv => whnf
   repeat (fail)
   refine ⟨[0, 2], ?_, rfl, rfl, ?_, rfl⟩
   ·
    (repeat' (fail)) <;> first | rfl | fail
   ·
    (repeat' (first | exact trivial | refine And.intro ?_ ?_ | (refine wk_cons ?_ ?_))) <;> first | rfl | exact ren_eq (by first | (simp; done) | fail) (by first | rfl | fail) | fail
theorem f100_n (K : List UInt8) (hKb : K.length < 100000000000000) (w : UInt8) (f : Bool) : SCall Try.prog 100 [.u8 1, .sl 0 0 K.length 1 f, .u8 w] [some (.ro (K.map .u8))] (.sl 1 0 64 1 true) [some (.ro (K.map .u8)), some (.row 5 ((padL 64 (key_n K) w).map .u8))] := by
 by_cases hk : 64 < K.length
 ·
  rw [show key_n K = sum_n K by unfold key_n; rw [if_pos hk]]; exact f100_n_l K hk hKb w f
 ·
  rw [show key_n K = K by unfold key_n; rw [if_neg hk]]; exact f100_n_s K (by omega) w f
theorem f100_w_s (K : List UInt8) (hK : K.length ≤ 128) (w : UInt8) (f : Bool) : SCall Try.prog 100 [.u8 2, .sl 0 0 K.length 1 f, .u8 w] [some (.ro (K.map .u8))] (.sl 1 0 128 1 true) [some (.ro (K.map .u8)), some (.row 5 ((padL 128 K w).map .u8))] := by
 have q135 := f135 w 128 (by decide) (by decide) true
 obtain ⟨Z, hZ⟩ : ∃ Z, Z = List.replicate 128 w := ⟨_, rfl⟩
 rw [← hZ] at q135
 have hlt : decide ((K.length : Int) > 128) = false := by simp; omega
 have hKl : K.length ≤ 128 := hK
 refine scall_of ttOk (by kernel_rfl : Try.prog.funcs[100]? = some Try.f100) rfl rfl rfl ?_
 try simp only [List.length_cons, List.length_nil, Nat.zero_add, Nat.reduceAdd]
 refine sw_ok ttOk mixed (by kernel_rfl) ?_
 conv => whnf
 repeat (fail)
 refine ok1_callF [] [] true (f134_w) rfl rfl ⟨⟨rfl, by first | rfl | fail⟩, trivial, by first | rfl | fail, by first | rfl | fail, ?_⟩
 conv => whnf
 repeat (first | (refine And.intro (by first | omega | (simp; omega) | fail) ?_; conv => whnf) | fail)
 first | intro _
 conv => whnf
 repeat (first | (refine Exists.intro _ (And.intro rfl ?_); conv => whnf) | fail)
 refine ok1_callF [] [] true (f134_w) rfl rfl ⟨⟨rfl, by first | rfl | fail⟩, trivial, by first | rfl | fail, by first | rfl | fail, ?_⟩
 conv => whnf
 repeat (fail)
 refine ok1_callF [1] [false, true] false (q135) rfl rfl ⟨⟨rfl, by first | rfl | fail⟩, by (repeat' (first | exact trivial | refine And.intro ?_ ?_)) <;> first | rfl | fail, by first | simp [plainHf, plainB], by first | rfl | fail, ?_⟩
 conv => whnf
 repeat (fail)
 refine loop_rule ttOk mixed (by kernel_rfl) (ι := { i : Nat // i ≤ K.length }) (fun i => [(7, .sl 1 0 128 1 true), (24, .sl 0 0 K.length 1 f), (25, .i K.length), (26, .i (i.1 : Int))]) (fun i => [some (.ro (K.map .u8)), some (.row 5 ((fil 128 i.1 (fun i => w ^^^ K.getD i 0) (fun _ => w)).map .u8))]) (fun _ => 1 + 1) (fun i => K.length - i.1) ⟨0, by omega⟩ ?_ ?_
 ·
  have hz : fil 128 0 (fun i => w ^^^ K.getD i 0) (fun _ => w) = Z := by rw [hZ]; exact fil_zero _ _ _
  dsimp only
  rw [hz]
  refine Weak.sel [0, 2] rfl rfl ?_ ?_ rfl rfl
  ·
   (repeat' (first | exact trivial | refine And.intro ?_ ?_ | fail)) <;> first | rfl | fail
  ·
   (repeat' (first | exact trivial | refine And.intro ?_ ?_ | fail)) <;> first | rfl | exact ren_eq (by first | (simp; done) | fail) (by first | rfl | fail) | fail
 ·
  rintro ⟨i, hi⟩
  dsimp only
  have hf := fil_len 128 i (fun i => w ^^^ K.getD i 0) (fun _ => w)
  by_cases hi2 : i < K.length
  ·
   have hlt2 : decide ((i : Int) < (K.length : Int)) = true := by simp; omega
   have hp := wpi8 i (by omega)
   have hiB : i < 128 := by omega
   have hx : (fil 128 i (fun i => w ^^^ K.getD i 0) (fun _ => w)).getD i 0 ^^^ K.getD i 0 = (fun i => w ^^^ K.getD i 0) i := by
    rw [fil_getD hiB, if_neg (by omega)]
   have hs := fil_setx (f := fun i => w ^^^ K.getD i 0) (g := fun _ => w) hiB hx
   conv => whnf
   first | refine brT (by exact hlt2) ?_ | fail
   conv => whnf
   repeat (first | (refine Exists.intro _ (And.intro (sput_m8 (i := i) (by first | rfl | omega | fail)) ?_); conv => whnf) | (refine Exists.intro _ (And.intro (sload_u8 (i := i) (by first | rfl | omega | fail) (by first | omega | fail)) ?_); conv => whnf) | (refine Exists.intro _ (And.intro (idx_i (m := i) (by first | rfl | fail)) ?_); conv => whnf) | (refine And.intro (by first | omega | fail) ?_; conv => whnf) | (refine And.intro ⟨by first | exact @rfl Nat _ | fail, by first | (simp only [hf, ti5, List.length_map]; omega) | fail⟩ ?_; conv => whnf) | fail)
   refine ⟨⟨i + 1, by omega⟩, by simp only; omega, ?_⟩
   dsimp only
   rw [← hs]
   refine Weak.sel [0, 1] rfl rfl ?_ ?_ rfl rfl
   ·
    (repeat' (first | exact trivial | refine And.intro ?_ ?_ | fail)) <;> first | exact wk_i (by first | exact hp | exact hp.symm | fail) | rfl | fail
   ·
    (repeat' (first | exact trivial | refine And.intro ?_ ?_ | fail)) <;> first | rfl | exact ren_eq (by first | (simp; done) | fail) (by first | rfl | fail) | exact ren_m8 (by first | rfl | fail) | fail
  ·
   obtain rfl : i = K.length := by omega
   have hlt2 : decide ((K.length : Int) < (K.length : Int)) = false := by simp
   rw [pad_fil (by omega)]
   conv => whnf
   first | refine brF (by exact hlt2) ?_ | fail
   conv => whnf
   repeat (fail)
   refine ⟨[0, 1], ?_, rfl, rfl, ?_, rfl⟩
   ·
    (repeat' (fail)) <;> first | rfl | fail
   ·
    (repeat' (first | exact trivial | refine And.intro ?_ ?_ | (refine wk_cons ?_ ?_))) <;> first | rfl | exact ren_eq (by first | (simp; done) | fail) (by first | rfl | fail) | fail
theorem f100_w_l (K : List UInt8) (hK : 128 < K.length) (hKb : K.length < 100000000000000) (w : UInt8) (f : Bool) : SCall Try.prog 100 [.u8 2, .sl 0 0 K.length 1 f, .u8 w] [some (.ro (K.map .u8))] (.sl 1 0 128 1 true) [some (.ro (K.map .u8)), some (.row 5 ((padL 128 (sum_w K) w).map .u8))] := by
 have q135 := f135 w 128 (by decide) (by decide) true
 obtain ⟨Z, hZ⟩ : ∃ Z, Z = List.replicate 128 w := ⟨_, rfl⟩
 rw [← hZ] at q135
 have hlt : decide ((K.length : Int) > 128) = true := by simp; omega
 have q99 := f99_w_b K hKb f true
 have hKl := sum_len_w K
 obtain ⟨W, hW⟩ : ∃ W, W = sum_w K := ⟨_, rfl⟩
 rw [← hW] at q99 hKl ⊢
 refine scall_of ttOk (by kernel_rfl : Try.prog.funcs[100]? = some Try.f100) rfl rfl rfl ?_
 try simp only [List.length_cons, List.length_nil, Nat.zero_add, Nat.reduceAdd]
 refine sw_ok ttOk mixed (by kernel_rfl) ?_
 conv => whnf
 repeat (fail)
 refine ok1_callF [] [] true (f134_w) rfl rfl ⟨⟨rfl, by first | rfl | fail⟩, trivial, by first | rfl | fail, by first | rfl | fail, ?_⟩
 conv => whnf
 repeat (fail)
 first | refine brT (by exact hlt) ?_ | fail
 conv => whnf
 repeat (first | (refine Exists.intro _ (And.intro rfl ?_); conv => whnf) | fail)
 refine ok1_callF [1, 0] [false, false, true] false (q99) rfl rfl ⟨⟨rfl, by first | rfl | fail⟩, by (repeat' (first | exact trivial | refine And.intro ?_ ?_)) <;> first | rfl | exact ren_eq (by first | (simp; done) | fail) (by first | rfl | fail) | fail, by first | simp [plainHf, plainB], by first | rfl | fail, ?_⟩
 conv => whnf
 repeat (first | (refine Exists.intro _ (And.intro rfl ?_); conv => whnf) | fail)
 refine ok1_callF [] [] true (f134_w) rfl rfl ⟨⟨rfl, by first | rfl | fail⟩, trivial, by first | rfl | fail, by first | rfl | fail, ?_⟩
 conv => whnf
 repeat (fail)
 refine ok1_callF [3] [false, true] false (q135) rfl rfl ⟨⟨rfl, by first | rfl | fail⟩, by (repeat' (first | exact trivial | refine And.intro ?_ ?_)) <;> first | rfl | fail, by first | simp [plainHf, plainB], by first | rfl | fail, ?_⟩
 conv => whnf
 repeat (fail)
 refine loop_rule ttOk mixed (by kernel_rfl) (ι := { i : Nat // i ≤ W.length }) (fun i => [(7, .sl 2 0 128 1 true), (24, .sl 1 0 W.length 1 true), (25, .i W.length), (26, .i (i.1 : Int))]) (fun i => [some (.ro (K.map .u8)), some (.ro (W.map .u8)), some (.row 5 ((fil 128 i.1 (fun i => w ^^^ W.getD i 0) (fun _ => w)).map .u8))]) (fun _ => 2 + 1) (fun i => W.length - i.1) ⟨0, by omega⟩ ?_ ?_
 ·
  have hz : fil 128 0 (fun i => w ^^^ W.getD i 0) (fun _ => w) = Z := by rw [hZ]; exact fil_zero _ _ _
  dsimp only
  rw [hz]
  refine Weak.sel [0, 2, 4] rfl rfl ?_ ?_ rfl rfl
  ·
   (repeat' (first | exact trivial | refine And.intro ?_ ?_ | fail)) <;> first | rfl | exact wk_i (by first | rfl | omega | fail) | exact wk_sl rfl (by first | rfl | fail) (by first | exact hKl | fail) | fail
  ·
   (repeat' (first | exact trivial | refine And.intro ?_ ?_ | fail)) <;> first | rfl | exact ren_eq (by first | (simp; done) | fail) (by first | rfl | fail) | fail
 ·
  rintro ⟨i, hi⟩
  dsimp only
  have hf := fil_len 128 i (fun i => w ^^^ W.getD i 0) (fun _ => w)
  by_cases hi2 : i < W.length
  ·
   have hlt2 : decide ((i : Int) < (W.length : Int)) = true := by simp; omega
   have hp := wpi8 i (by omega)
   have hiB : i < 128 := by omega
   have hx : (fil 128 i (fun i => w ^^^ W.getD i 0) (fun _ => w)).getD i 0 ^^^ W.getD i 0 = (fun i => w ^^^ W.getD i 0) i := by
    rw [fil_getD hiB, if_neg (by omega)]
   have hs := fil_setx (f := fun i => w ^^^ W.getD i 0) (g := fun _ => w) hiB hx
   conv => whnf
   first | refine brT (by exact hlt2) ?_ | fail
   conv => whnf
   repeat (first | (refine Exists.intro _ (And.intro (sput_m8 (i := i) (by first | rfl | omega | fail)) ?_); conv => whnf) | (refine Exists.intro _ (And.intro (sload_u8 (i := i) (by first | rfl | omega | fail) (by first | omega | fail)) ?_); conv => whnf) | (refine Exists.intro _ (And.intro (idx_i (m := i) (by first | rfl | fail)) ?_); conv => whnf) | (refine And.intro (by first | omega | fail) ?_; conv => whnf) | (refine And.intro ⟨by first | exact @rfl Nat _ | fail, by first | (simp only [hf, ti5, List.length_map]; omega) | fail⟩ ?_; conv => whnf) | fail)
   refine ⟨⟨i + 1, by omega⟩, by simp only; omega, ?_⟩
   dsimp only
   rw [← hs]
   refine Weak.sel [0, 1, 2] rfl rfl ?_ ?_ rfl rfl
   ·
    (repeat' (first | exact trivial | refine And.intro ?_ ?_ | fail)) <;> first | exact wk_i (by first | exact hp | exact hp.symm | fail) | rfl | fail
   ·
    (repeat' (first | exact trivial | refine And.intro ?_ ?_ | fail)) <;> first | rfl | exact ren_eq (by first | (simp; done) | fail) (by first | rfl | fail) | exact ren_m8 (by first | rfl | fail) | fail
  ·
   obtain rfl : i = W.length := by omega
   have hlt2 : decide ((W.length : Int) < (W.length : Int)) = false := by simp
   rw [pad_fil (by omega)]
   conv => whnf
   first | refine brF (by exact hlt2) ?_ | fail
   conv => whnf
   repeat (fail)
   refine ⟨[0, 2], ?_, rfl, rfl, ?_, rfl⟩
   ·
    (repeat' (fail)) <;> first | rfl | fail
   ·
    (repeat' (first | exact trivial | refine And.intro ?_ ?_ | (refine wk_cons ?_ ?_))) <;> first | rfl | exact ren_eq (by first | (simp; done) | fail) (by first | rfl | fail) | fail
theorem f100_w (K : List UInt8) (hKb : K.length < 100000000000000) (w : UInt8) (f : Bool) : SCall Try.prog 100 [.u8 2, .sl 0 0 K.length 1 f, .u8 w] [some (.ro (K.map .u8))] (.sl 1 0 128 1 true) [some (.ro (K.map .u8)), some (.row 5 ((padL 128 (key_w K) w).map .u8))] := by
 by_cases hk : 128 < K.length
 ·
  rw [show key_w K = sum_w K by unfold key_w; rw [if_pos hk]]; exact f100_w_l K hk hKb w f
 ·
  rw [show key_w K = K by unfold key_w; rw [if_neg hk]]; exact f100_w_s K (by omega) w f
end Go.Sh
namespace Go.Sh
open Go.Proofs
set_option maxHeartbeats 4000000
def mac_n (K T : List UInt8) : List UInt8 := sum_n (padL 64 (key_n K) 92 ++ sum_n (padL 64 (key_n K) 54 ++ T))
def mac_w (K T : List UInt8) : List UInt8 := sum_w (padL 128 (key_w K) 92 ++ sum_w (padL 128 (key_w K) 54 ++ T))
theorem mac_len_n (K T : List UInt8) : (mac_n K T).length = 32 := sum_len_n _
theorem mac_len_w (K T : List UInt8) : (mac_w K T).length = 64 := sum_len_w _
attribute [local irreducible] sum_n sum_w padL key_n key_w
def pAll (ps : List Part) : List UInt8 := (ps.map (fun p => p.2.2)).flatten
theorem f49_n_h (K : List UInt8) (hK : K.length < 100000000000000) (ps : List Part) (hn : ps.length < 1000000) (hT : (pAll ps).length < 90000000000000) (fk fl : Bool) : SCall Try.prog 49 [.u8 1, .sl 0 0 K.length 1 fk, .sl 1 0 ps.length 1 fl] [some (.ro (K.map .u8)), some (.ro (ps.map pLit)), some (.ext (.fam (ps.map pFe)))] (.sl 3 0 32 1 true) [some (.ro (K.map .u8)), some (.ro (ps.map pLit)), some (.ext (.fam (ps.map pFe))), some (.box ((mac_n K (pAll ps)).map .u8))] := by
 have q1 := f100_n K hK 54 fk
 have q2 := f100_n K hK 92 fk
 have l1 := padL_len 64 (key_n K) 54
 have l2 := padL_len 64 (key_n K) 92
 obtain ⟨P1, hP1⟩ : ∃ P, P = padL 64 (key_n K) 54 := ⟨_, rfl⟩
 obtain ⟨P2, hP2⟩ : ∃ P, P = padL 64 (key_n K) 92 := ⟨_, rfl⟩
 rw [← hP1] at q1 l1
 rw [← hP2] at q2 l2
 have hpt : pTh P1 ps (ps.length + 1) = P1 ++ pAll ps := pTh_e P1 ps
 have q3 := f99_n_h P1 true ps (by omega) (by rw [hpt, List.length_append]; omega) false
 rw [hpt, l1] at q3
 have l3 := sum_len_n (P1 ++ pAll ps)
 have hm : mac_n K (pAll ps) = sum_n (P2 ++ sum_n (P1 ++ pAll ps)) := by unfold mac_n; rw [hP1, hP2]
 rw [hm]
 obtain ⟨I, hI⟩ : ∃ I, I = sum_n (P1 ++ pAll ps) := ⟨_, rfl⟩
 rw [← hI] at q3 l3 ⊢
 have q4 := f99_n_bb P2 I (by omega) (by omega) true true true
 rw [l2, l3] at q4
 have l4 := sum_len_n (P2 ++ I)
 obtain ⟨W, hW⟩ : ∃ W, W = sum_n (P2 ++ I) := ⟨_, rfl⟩
 rw [← hW] at q4 l4 ⊢
 clear hP1 hP2 hI hW hm hpt
 have hrow : List.take (1 * ti34.sz) (List.drop 0 (sput (reps 1 SV.slnil.cells) (0 * ti34.sz) (SV.sl (Nat.succ 2) 0 64 1 true))) ++ List.take (ps.length * ti34.sz) (List.drop 0 (SB.ro (List.map pLit ps)).cells) = SV.sl 3 0 64 1 true :: ps.map pLit := by
  show [SV.sl 3 0 64 1 true] ++ List.take (ps.length * 1) (ps.map pLit) = _
  rw [Nat.mul_one, List.take_of_length_le (by rw [List.length_map]; omega)]; rfl
 refine scall_of ttOk (by kernel_rfl : Try.prog.funcs[49]? = some Try.f49) rfl rfl rfl ?_
 try simp only [List.length_cons, List.length_nil, Nat.zero_add, Nat.reduceAdd]
 refine swxs_ok (J := [3]) ttOk mixed (by kernel_rfl) ?_
 conv => whnf
 repeat (fail)
 refine ok1_callF [] [] true (f98_n) rfl rfl ⟨⟨rfl, by first | rfl | fail⟩, trivial, by first | rfl | fail, by first | rfl | fail, ?_⟩
 conv => whnf
 repeat (first | (refine brF rfl ?_; conv => whnf) | fail)
 refine swp_sops rfl ?_
 refine sops_pre (pre := [_, _, _, _, _]) ttOk (by kernel_rfl) ?_
 conv => whnf
 repeat (fail)
 refine ok1_callF [0] [false, true] false (q1) rfl rfl ⟨⟨rfl, by first | rfl | fail⟩, by (repeat' (first | exact trivial | refine And.intro ?_ ?_)) <;> first | exact ren_eq (by first | (simp; done) | fail) (by first | rfl | fail) | fail, by first | simp [plainHf, plainB], by first | rfl | fail, ?_⟩
 conv => whnf
 repeat (first | (refine Exists.intro _ (And.intro rfl ?_); conv => whnf) | fail)
 refine sops_forget 15 rfl ?_
 refine sops_end ttOk (by kernel_rfl) ?_
 conv => whnf
 refine And.intro ⟨Nat.le_of_ble_eq_true rfl, by show 0 + ps.length * 1 ≤ (ps.map pLit).length; rw [List.length_map]; omega, by show (1 + ps.length) * 24 ≤ _; omega⟩ ?_
 conv => whnf
 repeat (fail)
 rw [hrow, Nat.add_comm 1 ps.length]
 refine ok1_callF [5, 2, 3] [false, false, false, true] false (q3) rfl rfl ⟨⟨rfl, by first | rfl | fail⟩, by (repeat' (first | exact trivial | refine And.intro ?_ ?_)) <;> first | rfl | exact ren_eq (by first | (simp; done) | fail) (by first | rfl | fail) | ((repeat' (first | (refine wk_cons ?_ ?_))) <;> first | rfl | exact ren_eq (by first | (simp; done) | fail) rfl | fail), by first | simp [plainHf, plainB], by first | rfl | fail, ?_⟩
 conv => whnf
 repeat (fail)
 refine ok1_callF [0] [false, true] false (q2) rfl rfl ⟨⟨rfl, by first | rfl | fail⟩, by (repeat' (first | exact trivial | refine And.intro ?_ ?_)) <;> first | exact ren_eq (by first | (simp; done) | fail) (by first | rfl | fail) | fail, by first | simp [plainHf, plainB], by first | rfl | fail, ?_⟩
 conv => whnf
 repeat (first | (refine Exists.intro _ (And.intro rfl ?_); conv => whnf) | fail)
 refine ok1_callF [8, 7, 6] [false, false, false, true] false (q4) rfl rfl ⟨⟨rfl, by first | rfl | fail⟩, by (repeat' (first | exact trivial | refine And.intro ?_ ?_)) <;> first | rfl | exact ren_eq (by first | (simp; done) | fail) (by first | rfl | fail) | fail, by first | simp [plainHf, plainB], by first | rfl | fail, ?_⟩
 conv => whnf
 repeat (fail)
 refine ⟨[0, 1, 2, 9], ?_, rfl, rfl, ?_, rfl⟩
 ·
  (repeat' (fail)) <;> first | rfl | fail
 ·
  (repeat' (first | exact trivial | refine And.intro ?_ ?_ | fail)) <;> first | rfl | exact ren_eq (by first | (simp; done) | fail) (by first | rfl | fail) | fail
theorem f49_w_h (K : List UInt8) (hK : K.length < 100000000000000) (ps : List Part) (hn : ps.length < 1000000) (hT : (pAll ps).length < 90000000000000) (fk fl : Bool) : SCall Try.prog 49 [.u8 2, .sl 0 0 K.length 1 fk, .sl 1 0 ps.length 1 fl] [some (.ro (K.map .u8)), some (.ro (ps.map pLit)), some (.ext (.fam (ps.map pFe)))] (.sl 3 0 64 1 true) [some (.ro (K.map .u8)), some (.ro (ps.map pLit)), some (.ext (.fam (ps.map pFe))), some (.box ((mac_w K (pAll ps)).map .u8))] := by
 have q1 := f100_w K hK 54 fk
 have q2 := f100_w K hK 92 fk
 have l1 := padL_len 128 (key_w K) 54
 have l2 := padL_len 128 (key_w K) 92
 obtain ⟨P1, hP1⟩ : ∃ P, P = padL 128 (key_w K) 54 := ⟨_, rfl⟩
 obtain ⟨P2, hP2⟩ : ∃ P, P = padL 128 (key_w K) 92 := ⟨_, rfl⟩
 rw [← hP1] at q1 l1
 rw [← hP2] at q2 l2
 have hpt : pTh P1 ps (ps.length + 1) = P1 ++ pAll ps := pTh_e P1 ps
 have q3 := f99_w_h P1 true ps (by omega) (by rw [hpt, List.length_append]; omega) false
 rw [hpt, l1] at q3
 have l3 := sum_len_w (P1 ++ pAll ps)
 have hm : mac_w K (pAll ps) = sum_w (P2 ++ sum_w (P1 ++ pAll ps)) := by unfold mac_w; rw [hP1, hP2]
 rw [hm]
 obtain ⟨I, hI⟩ : ∃ I, I = sum_w (P1 ++ pAll ps) := ⟨_, rfl⟩
 rw [← hI] at q3 l3 ⊢
 have q4 := f99_w_bb P2 I (by omega) (by omega) true true true
 rw [l2, l3] at q4
 have l4 := sum_len_w (P2 ++ I)
 obtain ⟨W, hW⟩ : ∃ W, W = sum_w (P2 ++ I) := ⟨_, rfl⟩
 rw [← hW] at q4 l4 ⊢
 clear hP1 hP2 hI hW hm hpt
 have hrow : List.take (1 * ti34.sz) (List.drop 0 (sput (reps 1 SV.slnil.cells) (0 * ti34.sz) (SV.sl (Nat.succ 2) 0 128 1 true))) ++ List.take (ps.length * ti34.sz) (List.drop 0 (SB.ro (List.map pLit ps)).cells) = SV.sl 3 0 128 1 true :: ps.map pLit := by
  show [SV.sl 3 0 128 1 true] ++ List.take (ps.length * 1) (ps.map pLit) = _
  rw [Nat.mul_one, List.take_of_length_le (by rw [List.length_map]; omega)]; rfl
 refine scall_of ttOk (by kernel_rfl : Try.prog.funcs[49]? = some Try.f49) rfl rfl rfl ?_
 try simp only [List.length_cons, List.length_nil, Nat.zero_add, Nat.reduceAdd]
 refine swxs_ok (J := [3]) ttOk mixed (by kernel_rfl) ?_
 conv => whnf
 repeat (fail)
 refine ok1_callF [] [] true (f98_w) rfl rfl ⟨⟨rfl, by first | rfl | fail⟩, trivial, by first | rfl | fail, by first | rfl | fail, ?_⟩
 conv => whnf
 repeat (first | (refine brF rfl ?_; conv => whnf) | fail)
 refine swp_sops rfl ?_
 refine sops_pre (pre := [_, _, _, _, _]) ttOk (by kernel_rfl) ?_
 conv => whnf
 repeat (fail)
 refine ok1_callF [0] [false, true] false (q1) rfl rfl ⟨⟨rfl, by first | rfl | fail⟩, by (repeat' (first | exact trivial | refine And.intro ?_ ?_)) <;> first | exact ren_eq (by first | (simp; done) | fail) (by first | rfl | fail) | fail, by first | simp [plainHf, plainB], by first | rfl | fail, ?_⟩
 conv => whnf
 repeat (first | (refine Exists.intro _ (And.intro rfl ?_); conv => whnf) | fail)
 refine sops_forget 15 rfl ?_
 refine sops_end ttOk (by kernel_rfl) ?_
 conv => whnf
 refine And.intro ⟨Nat.le_of_ble_eq_true rfl, by show 0 + ps.length * 1 ≤ (ps.map pLit).length; rw [List.length_map]; omega, by show (1 + ps.length) * 24 ≤ _; omega⟩ ?_
 conv => whnf
 repeat (fail)
 rw [hrow, Nat.add_comm 1 ps.length]
 refine ok1_callF [5, 2, 3] [false, false, false, true] false (q3) rfl rfl ⟨⟨rfl, by first | rfl | fail⟩, by (repeat' (first | exact trivial | refine And.intro ?_ ?_)) <;> first | rfl | exact ren_eq (by first | (simp; done) | fail) (by first | rfl | fail) | ((repeat' (first | (refine wk_cons ?_ ?_))) <;> first | rfl | exact ren_eq (by first | (simp; done) | fail) rfl | fail), by first | simp [plainHf, plainB], by first | rfl | fail, ?_⟩
 conv => whnf
 repeat (fail)
 refine ok1_callF [0] [false, true] false (q2) rfl rfl ⟨⟨rfl, by first | rfl | fail⟩, by (repeat' (first | exact trivial | refine And.intro ?_ ?_)) <;> first | exact ren_eq (by first | (simp; done) | fail) (by first | rfl | fail) | fail, by first | simp [plainHf, plainB], by first | rfl | fail, ?_⟩
 conv => whnf
 repeat (first | (refine Exists.intro _ (And.intro rfl ?_); conv => whnf) | fail)
 refine ok1_callF [8, 7, 6] [false, false, false, true] false (q4) rfl rfl ⟨⟨rfl, by first | rfl | fail⟩, by (repeat' (first | exact trivial | refine And.intro ?_ ?_)) <;> first | rfl | exact ren_eq (by first | (simp; done) | fail) (by first | rfl | fail) | fail, by first | simp [plainHf, plainB], by first | rfl | fail, ?_⟩
 conv => whnf
 repeat (fail)
 refine ⟨[0, 1, 2, 9], ?_, rfl, rfl, ?_, rfl⟩
 ·
  (repeat' (fail)) <;> first | rfl | fail
 ·
  (repeat' (first | exact trivial | refine And.intro ?_ ?_ | fail)) <;> first | rfl | exact ren_eq (by first | (simp; done) | fail) (by first | rfl | fail) | fail
theorem f49_n_lit (K : List UInt8) (hK : K.length < 100000000000000) (ds : List PD) (X : HL) (hn : ds.length < 1000000) (hb : (ds.map pdTx).flatten.length < 90000000000000) (fk fl : Bool)
  (hX : ∀ id f b, some (id, f, b) ∈ ds → hg (some (.ro (K.map .u8)) :: some (.ro (ds.map pdCell)) :: X) id = some (.ro (b.map .u8))) (hro : ∀ id b, hg X id = some b → b.own = false) :
  SCall Try.prog 49 [.u8 1, .sl 0 0 K.length 1 fk, .sl 1 0 ds.length 1 fl] (some (.ro (K.map .u8)) :: some (.ro (ds.map pdCell)) :: X) (.sl (X.length + 1 + 1) 0 32 1 true) (some (.ro (K.map .u8)) :: some (.ro (ds.map pdCell)) :: X ++ [some (.box ((mac_n K (ds.map pdTx).flatten).map .u8))]) := by
 have q : ∀ ps : List Part, ps.map (fun p => p.2.2) = ds.map pdTx → _ := fun ps e => f49_n_h K hK ps (by rw [len_lit e]; exact hn) (by unfold pAll; rw [e]; exact hb) fk fl
 refine SCall.absorb (N0 := [some (.box ((mac_n K (ds.map pdTx).flatten).map .u8))]) (args' := [.u8 1, .sl 0 0 K.length 1 fk, .sl 1 0 ds.length 1 fl]) (ret' := .sl 3 0 32 1 true) [0, 1, 0] (f49_n_h K hK [] (by decide) (by decide) fk fl).fn ?_ ?_ rfl rfl ?_ rfl ?_
 ·
  intro ρ w hH
  obtain ⟨rb, hr, hb⟩ := hH 1 _ rfl
  obtain ⟨rb1, hr1, hb1⟩ := hH 0 _ rfl
  obtain ⟨ps, e1, e2, e3⟩ := row_parts (sel := [0, 1, 0]) (xs := []) (ys := []) (ds := ds) hH hX rfl hb
  have q2 := q ps e1
  unfold pAll at q2
  rw [e1, len_lit e1] at q2
  refine ⟨[some (.ro (K.map .u8)), some (.ro (ps.map pLit)), some (.ext (.fam (ps.map pFe)))], rfl, ?_, ?_, q2⟩
  ·
   intro j hj
   match j, hj with
   | 0, _ => exact ⟨_, rfl, rfl⟩
   | 1, _ => exact ⟨_, rfl, rfl⟩
   | 2, _ => exact ⟨_, rfl, rfl⟩
  ·
   intro id b h
   match id, h with
   | 0, h => cases h; exact ⟨rb1, hr1, (brel_ren (renB_plain _ (by simp [plainB]))).2 hb1⟩
   | 1, h => cases h; exact ⟨rb, hr, e3⟩
   | 2, h => cases h; exact ⟨rb1, hr1, e2 _ _⟩
   | _ + 3, h => simp [hg] at h
 ·
  intro id b h
  match id, h with
  | 0, h => cases h; rfl
  | 1, h => cases h; rfl
  | id + 2, h => exact hro id b (by simpa [hg] using h)
 ·
  intro j s h
  match j, h with
  | 0, h => cases h; simp
  | 1, h => cases h; simp
  | 2, h => cases h; simp
  | _ + 3, h => simp at h
 ·
  intro j
  match j with
  | 0 => exact .inr ⟨_, _, rfl, rfl, renB_plain _ (by simp [plainB])⟩
  | _ + 1 => exact .inl ⟨rfl, rfl⟩
theorem f49_w_lit (K : List UInt8) (hK : K.length < 100000000000000) (ds : List PD) (X : HL) (hn : ds.length < 1000000) (hb : (ds.map pdTx).flatten.length < 90000000000000) (fk fl : Bool)
  (hX : ∀ id f b, some (id, f, b) ∈ ds → hg (some (.ro (K.map .u8)) :: some (.ro (ds.map pdCell)) :: X) id = some (.ro (b.map .u8))) (hro : ∀ id b, hg X id = some b → b.own = false) :
  SCall Try.prog 49 [.u8 2, .sl 0 0 K.length 1 fk, .sl 1 0 ds.length 1 fl] (some (.ro (K.map .u8)) :: some (.ro (ds.map pdCell)) :: X) (.sl (X.length + 1 + 1) 0 64 1 true) (some (.ro (K.map .u8)) :: some (.ro (ds.map pdCell)) :: X ++ [some (.box ((mac_w K (ds.map pdTx).flatten).map .u8))]) := by
 have q : ∀ ps : List Part, ps.map (fun p => p.2.2) = ds.map pdTx → _ := fun ps e => f49_w_h K hK ps (by rw [len_lit e]; exact hn) (by unfold pAll; rw [e]; exact hb) fk fl
 refine SCall.absorb (N0 := [some (.box ((mac_w K (ds.map pdTx).flatten).map .u8))]) (args' := [.u8 2, .sl 0 0 K.length 1 fk, .sl 1 0 ds.length 1 fl]) (ret' := .sl 3 0 64 1 true) [0, 1, 0] (f49_w_h K hK [] (by decide) (by decide) fk fl).fn ?_ ?_ rfl rfl ?_ rfl ?_
 ·
  intro ρ w hH
  obtain ⟨rb, hr, hb⟩ := hH 1 _ rfl
  obtain ⟨rb1, hr1, hb1⟩ := hH 0 _ rfl
  obtain ⟨ps, e1, e2, e3⟩ := row_parts (sel := [0, 1, 0]) (xs := []) (ys := []) (ds := ds) hH hX rfl hb
  have q2 := q ps e1
  unfold pAll at q2
  rw [e1, len_lit e1] at q2
  refine ⟨[some (.ro (K.map .u8)), some (.ro (ps.map pLit)), some (.ext (.fam (ps.map pFe)))], rfl, ?_, ?_, q2⟩
  ·
   intro j hj
   match j, hj with
   | 0, _ => exact ⟨_, rfl, rfl⟩
   | 1, _ => exact ⟨_, rfl, rfl⟩
   | 2, _ => exact ⟨_, rfl, rfl⟩
  ·
   intro id b h
   match id, h with
   | 0, h => cases h; exact ⟨rb1, hr1, (brel_ren (renB_plain _ (by simp [plainB]))).2 hb1⟩
   | 1, h => cases h; exact ⟨rb, hr, e3⟩
   | 2, h => cases h; exact ⟨rb1, hr1, e2 _ _⟩
   | _ + 3, h => simp [hg] at h
 ·
  intro id b h
  match id, h with
  | 0, h => cases h; rfl
  | 1, h => cases h; rfl
  | id + 2, h => exact hro id b (by simpa [hg] using h)
 ·
  intro j s h
  match j, h with
  | 0, h => cases h; simp
  | 1, h => cases h; simp
  | 2, h => cases h; simp
  | _ + 3, h => simp at h
 ·
  intro j
  match j with
  | 0 => exact .inr ⟨_, _, rfl, rfl, renB_plain _ (by simp [plainB])⟩
  | _ + 1 => exact .inl ⟨rfl, rfl⟩
theorem f49_n_b (K : List UInt8) (hK : K.length < 100000000000000) (b0 : List UInt8) (hb0 : b0.length < 10000000000000) (fk f0 fl : Bool) : SCall Try.prog 49 [.u8 1, .sl 0 0 K.length 1 fk, .sl 1 0 1 1 fl] [some (.ro (K.map .u8)), some (.ro [.sl 2 0 b0.length 1 f0]), some (.ro (b0.map .u8))] (.sl 3 0 32 1 true) [some (.ro (K.map .u8)), some (.ro [.sl 2 0 b0.length 1 f0]), some (.ro (b0.map .u8)), some (.box ((mac_n K (b0)).map .u8))] := by
 have q := f49_n_lit K hK [some (2, f0, b0)] [some (.ro (b0.map .u8))] (by simp) (by simp [pdTx]; omega) fk fl (by intro id f b h; (repeat (rcases List.mem_cons.1 h with e | h; · (cases e <;> rfl))); exact absurd h (by simp)) (by intro id b h; match id, h with | 0, h => cases h; rfl | _ + 1, h => simp [hg] at h)
 rw [show (List.map pdTx [some (2, f0, b0)]).flatten = b0 by simp [pdTx]] at q
 exact q
theorem f49_n_bb (K : List UInt8) (hK : K.length < 100000000000000) (b0 b1 : List UInt8) (hb0 : b0.length < 10000000000000) (hb1 : b1.length < 10000000000000) (fk f0 f1 fl : Bool) : SCall Try.prog 49 [.u8 1, .sl 0 0 K.length 1 fk, .sl 1 0 2 1 fl] [some (.ro (K.map .u8)), some (.ro [.sl 2 0 b0.length 1 f0, .sl 3 0 b1.length 1 f1]), some (.ro (b0.map .u8)), some (.ro (b1.map .u8))] (.sl 4 0 32 1 true) [some (.ro (K.map .u8)), some (.ro [.sl 2 0 b0.length 1 f0, .sl 3 0 b1.length 1 f1]), some (.ro (b0.map .u8)), some (.ro (b1.map .u8)), some (.box ((mac_n K (b0 ++ b1)).map .u8))] := by
 have q := f49_n_lit K hK [some (2, f0, b0), some (3, f1, b1)] [some (.ro (b0.map .u8)), some (.ro (b1.map .u8))] (by simp) (by simp [pdTx]; omega) fk fl (by intro id f b h; (repeat (rcases List.mem_cons.1 h with e | h; · (cases e <;> rfl))); exact absurd h (by simp)) (by intro id b h; match id, h with | 0, h => cases h; rfl | 1, h => cases h; rfl | _ + 2, h => simp [hg] at h)
 rw [show (List.map pdTx [some (2, f0, b0), some (3, f1, b1)]).flatten = b0 ++ b1 by simp [pdTx]] at q
 exact q
theorem f49_n_obb (K : List UInt8) (hK : K.length < 100000000000000) (b1 b2 : List UInt8) (hb1 : b1.length < 10000000000000) (hb2 : b2.length < 10000000000000) (fk f1 f2 fl : Bool) : SCall Try.prog 49 [.u8 1, .sl 0 0 K.length 1 fk, .sl 1 0 3 1 fl] [some (.ro (K.map .u8)), some (.ro [.slnil, .sl 2 0 b1.length 1 f1, .sl 3 0 b2.length 1 f2]), some (.ro (b1.map .u8)), some (.ro (b2.map .u8))] (.sl 4 0 32 1 true) [some (.ro (K.map .u8)), some (.ro [.slnil, .sl 2 0 b1.length 1 f1, .sl 3 0 b2.length 1 f2]), some (.ro (b1.map .u8)), some (.ro (b2.map .u8)), some (.box ((mac_n K (b1 ++ b2)).map .u8))] := by
 have q := f49_n_lit K hK [none, some (2, f1, b1), some (3, f2, b2)] [some (.ro (b1.map .u8)), some (.ro (b2.map .u8))] (by simp) (by simp [pdTx]; omega) fk fl (by intro id f b h; (repeat (rcases List.mem_cons.1 h with e | h; · (cases e <;> rfl))); exact absurd h (by simp)) (by intro id b h; match id, h with | 0, h => cases h; rfl | 1, h => cases h; rfl | _ + 2, h => simp [hg] at h)
 rw [show (List.map pdTx [none, some (2, f1, b1), some (3, f2, b2)]).flatten = b1 ++ b2 by simp [pdTx]] at q
 exact q
theorem f49_n_bbb (K : List UInt8) (hK : K.length < 100000000000000) (b0 b1 b2 : List UInt8) (hb0 : b0.length < 10000000000000) (hb1 : b1.length < 10000000000000) (hb2 : b2.length < 10000000000000) (fk f0 f1 f2 fl : Bool) : SCall Try.prog 49 [.u8 1, .sl 0 0 K.length 1 fk, .sl 1 0 3 1 fl] [some (.ro (K.map .u8)), some (.ro [.sl 2 0 b0.length 1 f0, .sl 3 0 b1.length 1 f1, .sl 4 0 b2.length 1 f2]), some (.ro (b0.map .u8)), some (.ro (b1.map .u8)), some (.ro (b2.map .u8))] (.sl 5 0 32 1 true) [some (.ro (K.map .u8)), some (.ro [.sl 2 0 b0.length 1 f0, .sl 3 0 b1.length 1 f1, .sl 4 0 b2.length 1 f2]), some (.ro (b0.map .u8)), some (.ro (b1.map .u8)), some (.ro (b2.map .u8)), some (.box ((mac_n K (b0 ++ b1 ++ b2)).map .u8))] := by
 have q := f49_n_lit K hK [some (2, f0, b0), some (3, f1, b1), some (4, f2, b2)] [some (.ro (b0.map .u8)), some (.ro (b1.map .u8)), some (.ro (b2.map .u8))] (by simp) (by simp [pdTx]; omega) fk fl (by intro id f b h; (repeat (rcases List.mem_cons.1 h with e | h; · (cases e <;> rfl))); exact absurd h (by simp)) (by intro id b h; match id, h with | 0, h => cases h; rfl | 1, h => cases h; rfl | 2, h => cases h; rfl | _ + 3, h => simp [hg] at h)
 rw [show (List.map pdTx [some (2, f0, b0), some (3, f1, b1), some (4, f2, b2)]).flatten = b0 ++ b1 ++ b2 by simp [pdTx]] at q
 exact q
theorem f49_w_b (K : List UInt8) (hK : K.length < 100000000000000) (b0 : List UInt8) (hb0 : b0.length < 10000000000000) (fk f0 fl : Bool) : SCall Try.prog 49 [.u8 2, .sl 0 0 K.length 1 fk, .sl 1 0 1 1 fl] [some (.ro (K.map .u8)), some (.ro [.sl 2 0 b0.length 1 f0]), some (.ro (b0.map .u8))] (.sl 3 0 64 1 true) [some (.ro (K.map .u8)), some (.ro [.sl 2 0 b0.length 1 f0]), some (.ro (b0.map .u8)), some (.box ((mac_w K (b0)).map .u8))] := by
 have q := f49_w_lit K hK [some (2, f0, b0)] [some (.ro (b0.map .u8))] (by simp) (by simp [pdTx]; omega) fk fl (by intro id f b h; (repeat (rcases List.mem_cons.1 h with e | h; · (cases e <;> rfl))); exact absurd h (by simp)) (by intro id b h; match id, h with | 0, h => cases h; rfl | _ + 1, h => simp [hg] at h)
 rw [show (List.map pdTx [some (2, f0, b0)]).flatten = b0 by simp [pdTx]] at q
 exact q
theorem f49_w_obb (K : List UInt8) (hK : K.length < 100000000000000) (b1 b2 : List UInt8) (hb1 : b1.length < 10000000000000) (hb2 : b2.length < 10000000000000) (fk f1 f2 fl : Bool) : SCall Try.prog 49 [.u8 2, .sl 0 0 K.length 1 fk, .sl 1 0 3 1 fl] [some (.ro (K.map .u8)), some (.ro [.slnil, .sl 2 0 b1.length 1 f1, .sl 3 0 b2.length 1 f2]), some (.ro (b1.map .u8)), some (.ro (b2.map .u8))] (.sl 4 0 64 1 true) [some (.ro (K.map .u8)), some (.ro [.slnil, .sl 2 0 b1.length 1 f1, .sl 3 0 b2.length 1 f2]), some (.ro (b1.map .u8)), some (.ro (b2.map .u8)), some (.box ((mac_w K (b1 ++ b2)).map .u8))] := by
 have q := f49_w_lit K hK [none, some (2, f1, b1), some (3, f2, b2)] [some (.ro (b1.map .u8)), some (.ro (b2.map .u8))] (by simp) (by simp [pdTx]; omega) fk fl (by intro id f b h; (repeat (rcases List.mem_cons.1 h with e | h; · (cases e <;> rfl))); exact absurd h (by simp)) (by intro id b h; match id, h with | 0, h => cases h; rfl | 1, h => cases h; rfl | _ + 2, h => simp [hg] at h)
 rw [show (List.map pdTx [none, some (2, f1, b1), some (3, f2, b2)]).flatten = b1 ++ b2 by simp [pdTx]] at q
 exact q
theorem f49_w_bbb (K : List UInt8) (hK : K.length < 100000000000000) (b0 b1 b2 : List UInt8) (hb0 : b0.length < 10000000000000) (hb1 : b1.length < 10000000000000) (hb2 : b2.length < 10000000000000) (fk f0 f1 f2 fl : Bool) : SCall Try.prog 49 [.u8 2, .sl 0 0 K.length 1 fk, .sl 1 0 3 1 fl] [some (.ro (K.map .u8)), some (.ro [.sl 2 0 b0.length 1 f0, .sl 3 0 b1.length 1 f1, .sl 4 0 b2.length 1 f2]), some (.ro (b0.map .u8)), some (.ro (b1.map .u8)), some (.ro (b2.map .u8))] (.sl 5 0 64 1 true) [some (.ro (K.map .u8)), some (.ro [.sl 2 0 b0.length 1 f0, .sl 3 0 b1.length 1 f1, .sl 4 0 b2.length 1 f2]), some (.ro (b0.map .u8)), some (.ro (b1.map .u8)), some (.ro (b2.map .u8)), some (.box ((mac_w K (b0 ++ b1 ++ b2)).map .u8))] := by
 have q := f49_w_lit K hK [some (2, f0, b0), some (3, f1, b1), some (4, f2, b2)] [some (.ro (b0.map .u8)), some (.ro (b1.map .u8)), some (.ro (b2.map .u8))] (by simp) (by simp [pdTx]; omega) fk fl (by intro id f b h; (repeat (rcases List.mem_cons.1 h with e | h; · (cases e <;> rfl))); exact absurd h (by simp)) (by intro id b h; match id, h with | 0, h => cases h; rfl | 1, h => cases h; rfl | 2, h => cases h; rfl | _ + 3, h => simp [hg] at h)
 rw [show (List.map pdTx [some (2, f0, b0), some (3, f1, b1), some (4, f2, b2)]).flatten = b0 ++ b1 ++ b2 by simp [pdTx]] at q
 exact q
theorem f50_n (K T : List UInt8) (hK : K.length < 100000000000000) (hT : T.length < 10000000000000) (fk ft : Bool) : SCall Try.prog 50 [.u8 1, .sl 0 0 K.length 1 fk, .sl 1 0 T.length 1 ft] [some (.ro (K.map .u8)), some (.ro (T.map .u8))] (.sl 2 0 32 1 true) [some (.ro (K.map .u8)), some (.ro (T.map .u8)), some (.box ((mac_n K T).map .u8))] := by
 have q := f49_n_b K hK T hT fk ft true
 have l := mac_len_n K T
 obtain ⟨W, hW⟩ : ∃ W, W = mac_n K T := ⟨_, rfl⟩
 rw [← hW] at q l ⊢
 refine scall_of ttOk (by kernel_rfl : Try.prog.funcs[50]? = some Try.f50) rfl rfl rfl ?_
 try simp only [List.length_cons, List.length_nil, Nat.zero_add, Nat.reduceAdd]
 refine sw_ok ttOk mixed (by kernel_rfl) ?_
 conv => whnf
 repeat (first | (refine Exists.intro _ (And.intro rfl ?_); conv => whnf) | fail)
 refine ok1_callF [0, 2, 1] [false, false, false, true] false (q) rfl rfl ⟨⟨rfl, by first | rfl | fail⟩, by (repeat' (first | exact trivial | refine And.intro ?_ ?_)) <;> first | rfl | exact ren_eq (by first | (simp; done) | fail) (by first | rfl | fail) | fail, by first | simp [plainHf, plainB], by first | rfl | fail, ?_⟩
 conv => whnf
 repeat (fail)
 refine ⟨[0, 1, 3], ?_, rfl, rfl, ?_, rfl⟩
 ·
  (repeat' (fail)) <;> first | rfl | fail
 ·
  (repeat' (first | exact trivial | refine And.intro ?_ ?_ | fail)) <;> first | exact ren_eq (by first | (simp; done) | fail) (by first | rfl | fail) | fail
theorem f50_w (K T : List UInt8) (hK : K.length < 100000000000000) (hT : T.length < 10000000000000) (fk ft : Bool) : SCall Try.prog 50 [.u8 2, .sl 0 0 K.length 1 fk, .sl 1 0 T.length 1 ft] [some (.ro (K.map .u8)), some (.ro (T.map .u8))] (.sl 2 0 64 1 true) [some (.ro (K.map .u8)), some (.ro (T.map .u8)), some (.box ((mac_w K T).map .u8))] := by
 have q := f49_w_b K hK T hT fk ft true
 have l := mac_len_w K T
 obtain ⟨W, hW⟩ : ∃ W, W = mac_w K T := ⟨_, rfl⟩
 rw [← hW] at q l ⊢
 refine scall_of ttOk (by kernel_rfl : Try.prog.funcs[50]? = some Try.f50) rfl rfl rfl ?_
 try simp only [List.length_cons, List.length_nil, Nat.zero_add, Nat.reduceAdd]
 refine sw_ok ttOk mixed (by kernel_rfl) ?_
 conv => whnf
 repeat (first | (refine Exists.intro _ (And.intro rfl ?_); conv => whnf) | fail)
 refine ok1_callF [0, 2, 1] [false, false, false, true] false (q) rfl rfl ⟨⟨rfl, by first | rfl | fail⟩, by (repeat' (first | exact trivial | refine And.intro ?_ ?_)) <;> first | rfl | exact ren_eq (by first | (simp; done) | fail) (by first | rfl | fail) | fail, by first | simp [plainHf, plainB], by first | rfl | fail, ?_⟩
 conv => whnf
 repeat (fail)
 refine ⟨[0, 1, 3], ?_, rfl, rfl, ?_, rfl⟩
 ·
  (repeat' (fail)) <;> first | rfl | fail
 ·
  (repeat' (first | exact trivial | refine And.intro ?_ ?_ | fail)) <;> first | exact ren_eq (by first | (simp; done) | fail) (by first | rfl | fail) | fail
end Go.Sh
namespace Go.Sh
open Go.Proofs
set_option maxHeartbeats 4000000
def exT_n (K I : List UInt8) : Nat → List UInt8
 | 0 => []
 | i + 1 => mac_n K (exT_n K I i ++ I ++ [u8i ((i + 1 : Nat) : Int)])
def exO_n (K I : List UInt8) : Nat → List UInt8
 | 0 => []
 | i + 1 => exO_n K I i ++ exT_n K I (i + 1)
def exp_n (K I : List UInt8) (n : Nat) : List UInt8 := (exO_n K I ((n + (32 - 1)) / 32)).take n
theorem exT_len_n (K I : List UInt8) (i : Nat) : (exT_n K I (i + 1)).length = 32 := mac_len_n _ _
theorem exO_len_n (K I : List UInt8) : ∀ i, (exO_n K I i).length = 32 * i
 | 0 => rfl
 | i + 1 => by
  show (exO_n K I i ++ exT_n K I (i + 1)).length = _
  rw [List.length_append, exO_len_n K I i, exT_len_n]; omega
theorem exO_pre_n (K I : List UInt8) (i : Nat) : ∀ j, (exO_n K I (i + j)).take (32 * i) = exO_n K I i
 | 0 => by rw [Nat.add_zero, List.take_of_length_le (by rw [exO_len_n]; exact Nat.le_refl _)]
 | j + 1 => by
  show (exO_n K I (i + j) ++ exT_n K I (i + j + 1)).take (32 * i) = _
  rw [List.take_append_of_le_length (by rw [exO_len_n]; omega)]
  exact exO_pre_n K I i j
theorem exp_len_n (K I : List UInt8) (n : Nat) : (exp_n K I n).length = n := by
 unfold exp_n; rw [List.length_take, exO_len_n]; omega
theorem exp_pre_n (K I : List UInt8) {n m : Nat} (h : n ≤ m) : (exp_n K I m).take n = exp_n K I n := by
 unfold exp_n
 obtain ⟨j, hj⟩ : ∃ j, (m + (32 - 1)) / 32 = (n + (32 - 1)) / 32 + j := ⟨(m + (32 - 1)) / 32 - (n + (32 - 1)) / 32, by omega⟩
 rw [hj, List.take_take, Nat.min_eq_left h, ← exO_pre_n K I ((n + (32 - 1)) / 32) j, List.take_take, Nat.min_eq_left (by omega)]
theorem exT_s_n (K I : List UInt8) (i : Nat) : exT_n K I (i + 1) = mac_n K (exT_n K I i ++ I ++ [u8i ((i + 1 : Nat) : Int)]) := rfl
theorem exT_1_n (K I : List UInt8) : exT_n K I 1 = mac_n K (I ++ [u8i ((1 : Nat) : Int)]) := rfl
theorem exO_s_n (K I : List UInt8) (i : Nat) : exO_n K I (i + 1) = exO_n K I i ++ exT_n K I (i + 1) := rfl
theorem exO_z_n (K I : List UInt8) : exO_n K I 0 = [] := rfl
def exR_n : Nat → SV
 | 0 => .slnil
 | _ + 1 => .sl 3 0 32 1 true
def exB_n (K I : List UInt8) : Nat → Option SB
 | 0 => none
 | i + 1 => some (.box ((exT_n K I (i + 1)).map .u8))
section
attribute [local irreducible] mac_n exT_n exO_n
theorem f51_n (K I : List UInt8) (hK : K.length < 100000000000000) (hI : I.length < 10000000000000) (n : Nat) (hn1 : 1 ≤ n) (hn : n ≤ 8160) (fk fi : Bool) : SCall Try.prog 51 [.u8 1, .sl 0 0 K.length 1 fk, .sl 1 0 I.length 1 fi, .i (n : Int)] [some (.ro (K.map .u8)), some (.ro (I.map .u8))] (.tup [.sl 2 0 n 1 true, .i 0]) [some (.ro (K.map .u8)), some (.ro (I.map .u8)), some (.row 5 ((exO_n K I ((n + (32 - 1)) / 32)).map .u8))] := by
 have e1 : decide ((n : Int) < 1) = false := by simp; omega
 have e2 : decide ((n : Int) > w64 (255 * 32)) = false := by simp [w64_eq]; omega
 obtain ⟨m, hm⟩ : ∃ m, m = (n + (32 - 1)) / 32 := ⟨_, rfl⟩
 rw [← hm]
 refine scall_of ttOk (by kernel_rfl : Try.prog.funcs[51]? = some Try.f51) rfl rfl rfl ?_
 try simp only [List.length_cons, List.length_nil, Nat.zero_add, Nat.reduceAdd]
 refine sw_ok ttOk mixed (by kernel_rfl) ?_
 conv => whnf
 repeat (first | (refine gdT e1 ?_; conv => whnf) | fail)
 refine ok1_callF [] [] true (f98_n) rfl rfl ⟨⟨rfl, by first | rfl | fail⟩, trivial, by first | rfl | fail, by first | rfl | fail, ?_⟩
 conv => whnf
 repeat (first | (refine gdT e1 ?_; conv => whnf) | (refine pkF e1 ?_; conv => whnf) | (refine gdF e2 ?_; conv => whnf) | fail)
 refine SWp.weak (Weak.virt 10 5 1 rfl) ?_
 refine loop_rule ttOk mixed (by kernel_rfl) (ι := { i : Nat // i ≤ m }) (fun i => [(0, .u8 1), (1, .sl 0 0 K.length 1 fk), (2, .sl 1 0 I.length 1 fi), (3, .i n), (8, .slnil), (9, .i 0), (10, .sl 2 0 (32 * i.1) 1 false), (11, exR_n i.1), (12, .i ((i.1 + 1 : Nat) : Int))]) (fun i => [some (.ro (K.map .u8)), some (.ro (I.map .u8)), some (.row 5 ((exO_n K I i.1).map .u8)), exB_n K I i.1]) (fun _ => 4) (fun i => m - i.1) ⟨0, by omega⟩ ?_ ?_
 ·
  have hz := exO_z_n K I
  dsimp only
  rw [hz]
  refine Weak.sel [0, 1, 2, 0] rfl rfl ?_ ?_ rfl rfl
  ·
   (repeat' (first | exact trivial | refine And.intro ?_ ?_ | fail)) <;> first | rfl | fail
  ·
   (repeat' (first | exact trivial | refine And.intro ?_ ?_ | fail)) <;> first | rfl | exact ren_eq (by first | (simp; done) | fail) (by first | rfl | fail) | fail
 ·
  rintro ⟨i, hi⟩
  dsimp only
  have hol := exO_len_n K I i
  have hos := exO_s_n K I i
  have htl := exT_len_n K I i
  have hts := exT_s_n K I i
  have hp : w64 (((i + 1 : Nat) : Int) + 1) = ((i + 1 + 1 : Nat) : Int) := by simp only [w64_eq]; omega
  by_cases hi2 : i < m
  ·
   have hlt : decide (((32 * i : Nat) : Int) < (n : Int)) = true := by simp; omega
   obtain ⟨O, hO⟩ : ∃ O, O = exO_n K I i := ⟨_, rfl⟩
   rw [← hO] at hol hos ⊢
   rcases i with _ | i
   ·
    have q := f49_n_obb K hK I [u8i ((1 : Nat) : Int)] hI (by decide : [u8i ((1 : Nat) : Int)].length < 10000000000000) fk fi true true
    rw [← exT_1_n] at q
    obtain ⟨T, hT⟩ : ∃ T, T = exT_n K I 1 := ⟨_, rfl⟩
    rw [← hT] at q
    have hTl : T.length = 32 := by rw [hT]; exact exT_len_n K I 0
    have hap : (O ++ T).map SV.u8 = List.take (32 * 0 * 1) (List.drop 0 (O.map SV.u8)) ++ List.take (32 * 1) (List.drop 0 (T.map SV.u8)) := by
     rw [List.drop_zero, List.drop_zero, List.take_of_length_le (l := O.map SV.u8) (by rw [List.length_map]; omega), List.take_of_length_le (l := T.map SV.u8) (by rw [List.length_map]; omega), List.map_append]
    conv => whnf
    first | refine brT (by exact hlt) ?_ | fail
    conv => whnf
    repeat (first | (refine Exists.intro _ (And.intro rfl ?_); conv => whnf) | fail)
    refine ok1_callF [0, 5, 1, 4] [false, false, false, false, true] false (q) rfl rfl ⟨⟨rfl, by first | rfl | fail⟩, by (repeat' (first | exact trivial | refine And.intro ?_ ?_)) <;> first | rfl | exact ren_eq (by first | (simp; done) | fail) (by first | rfl | fail) | fail, by first | simp [plainHf, plainB], by first | rfl | fail, ?_⟩
    conv => whnf
    repeat (first | (refine And.intro (by first | omega | (simp [ti5]; omega)) ?_; conv => whnf) | fail)
    refine ⟨⟨1, by omega⟩, by simp only; omega, ?_⟩
    dsimp only
    rw [hos]
    unfold exR_n exB_n
    dsimp only
    rw [← hT]
    refine Weak.sel [0, 1, 7, 6] rfl rfl ?_ ?_ rfl rfl
    ·
     (repeat' (first | exact trivial | refine And.intro ?_ ?_ | fail)) <;> first | exact wk_i (by first | exact hp | fail) | rfl | fail
    ·
     (repeat' (first | exact trivial | exact ren_eq (plainL_u8 _) hap | refine And.intro ?_ ?_ | fail)) <;> first | rfl | exact ren_eq (by first | (simp; done) | fail) (by first | rfl | fail) | fail
   ·
    obtain ⟨T0, hT0⟩ : ∃ T, T = exT_n K I (i + 1) := ⟨_, rfl⟩
    have htl0 := exT_len_n K I i
    rw [← hT0] at htl0
    have q := f49_n_bbb K hK T0 I [u8i ((i + 1 + 1 : Nat) : Int)] (by omega) hI (by simp) fk true fi true true
    rw [hT0, ← exT_s_n, ← hT0, htl0] at q
    obtain ⟨T, hT⟩ : ∃ T, T = exT_n K I (i + 1 + 1) := ⟨_, rfl⟩
    rw [← hT] at q
    have hTl : T.length = 32 := by rw [hT]; exact exT_len_n K I (i + 1)
    have hap : (O ++ T).map SV.u8 = List.take (32 * (i + 1) * 1) (List.drop 0 (O.map SV.u8)) ++ List.take (32 * 1) (List.drop 0 (T.map SV.u8)) := by
     rw [List.drop_zero, List.drop_zero, List.take_of_length_le (l := O.map SV.u8) (by rw [List.length_map]; omega), List.take_of_length_le (l := T.map SV.u8) (by rw [List.length_map]; omega), List.map_append]
    have hnx : 32 * (i + 1 + 1) = 32 * (i + 1) + 32 := by omega
    unfold exR_n exB_n
    dsimp only
    rw [← hT0]
    conv => whnf
    first | refine brT (by exact hlt) ?_ | fail
    conv => whnf
    repeat (first | (refine Exists.intro _ (And.intro rfl ?_); conv => whnf) | fail)
    refine ok1_callF [0, 5, 3, 1, 4] [false, false, false, false, false, true] false (q) rfl rfl ⟨⟨rfl, by first | rfl | fail⟩, by (repeat' (first | exact trivial | refine And.intro ?_ ?_)) <;> first | rfl | exact ren_eq (by first | (simp; done) | fail) (by first | rfl | fail) | fail, by first | simp [plainHf, plainB], by first | rfl | fail, ?_⟩
    conv => whnf
    repeat (first | (refine And.intro (by first | omega | (simp [ti5]; omega)) ?_; conv => whnf) | fail)
    refine ⟨⟨i + 1 + 1, by omega⟩, by simp only; omega, ?_⟩
    dsimp only
    rw [hos, ← hT]
    refine Weak.sel [0, 1, 7, 6] rfl rfl ?_ ?_ rfl rfl
    ·
     (repeat' (first | exact trivial | refine And.intro ?_ ?_ | fail)) <;> first | exact wk_i (by first | exact hp | exact hp.symm | fail) | rfl | fail
    ·
     (repeat' (first | exact trivial | exact ren_eq (plainL_u8 _) hap | refine And.intro ?_ ?_ | fail)) <;> first | rfl | exact ren_eq (by first | (simp; done) | fail) (by first | rfl | fail) | fail
  ·
   obtain rfl : i = m := by omega
   have hlt : decide (((32 * i : Nat) : Int) < (n : Int)) = false := by simp; omega
   rcases i with _ | i
   ·
    omega
   ·
    conv => whnf
    first | refine brF (by exact hlt) ?_ | fail
    conv => whnf
    repeat (first | (refine Exists.intro _ (And.intro rfl ?_); conv => whnf) | (refine And.intro (by first | omega | fail) ?_; conv => whnf) | fail)
    have hdd : decide (((n : Nat) : Int).toNat = ((n : Nat) : Int).toNat) = true := by simp
    rw [hdd, Int.toNat_natCast]
    refine ⟨[0, 1, 2], ?_, rfl, rfl, ?_, rfl⟩
    ·
     (repeat' (first | (refine wk_tup ?_) | (refine wk_cons ?_ ?_))) <;> first | rfl | fail
    ·
     (repeat' (first | exact trivial | refine And.intro ?_ ?_ | fail)) <;> first | rfl | exact ren_eq (by first | (simp; done) | fail) (by first | rfl | fail) | fail
end
def exT_w (K I : List UInt8) : Nat → List UInt8
 | 0 => []
 | i + 1 => mac_w K (exT_w K I i ++ I ++ [u8i ((i + 1 : Nat) : Int)])
def exO_w (K I : List UInt8) : Nat → List UInt8
 | 0 => []
 | i + 1 => exO_w K I i ++ exT_w K I (i + 1)
def exp_w (K I : List UInt8) (n : Nat) : List UInt8 := (exO_w K I ((n + (64 - 1)) / 64)).take n
theorem exT_len_w (K I : List UInt8) (i : Nat) : (exT_w K I (i + 1)).length = 64 := mac_len_w _ _
theorem exO_len_w (K I : List UInt8) : ∀ i, (exO_w K I i).length = 64 * i
 | 0 => rfl
 | i + 1 => by
  show (exO_w K I i ++ exT_w K I (i + 1)).length = _
  rw [List.length_append, exO_len_w K I i, exT_len_w]; omega
theorem exO_pre_w (K I : List UInt8) (i : Nat) : ∀ j, (exO_w K I (i + j)).take (64 * i) = exO_w K I i
 | 0 => by rw [Nat.add_zero, List.take_of_length_le (by rw [exO_len_w]; exact Nat.le_refl _)]
 | j + 1 => by
  show (exO_w K I (i + j) ++ exT_w K I (i + j + 1)).take (64 * i) = _
  rw [List.take_append_of_le_length (by rw [exO_len_w]; omega)]
  exact exO_pre_w K I i j
theorem exp_len_w (K I : List UInt8) (n : Nat) : (exp_w K I n).length = n := by
 unfold exp_w; rw [List.length_take, exO_len_w]; omega
theorem exp_pre_w (K I : List UInt8) {n m : Nat} (h : n ≤ m) : (exp_w K I m).take n = exp_w K I n := by
 unfold exp_w
 obtain ⟨j, hj⟩ : ∃ j, (m + (64 - 1)) / 64 = (n + (64 - 1)) / 64 + j := ⟨(m + (64 - 1)) / 64 - (n + (64 - 1)) / 64, by omega⟩
 rw [hj, List.take_take, Nat.min_eq_left h, ← exO_pre_w K I ((n + (64 - 1)) / 64) j, List.take_take, Nat.min_eq_left (by omega)]
theorem exT_s_w (K I : List UInt8) (i : Nat) : exT_w K I (i + 1) = mac_w K (exT_w K I i ++ I ++ [u8i ((i + 1 : Nat) : Int)]) := rfl
theorem exT_1_w (K I : List UInt8) : exT_w K I 1 = mac_w K (I ++ [u8i ((1 : Nat) : Int)]) := rfl
theorem exO_s_w (K I : List UInt8) (i : Nat) : exO_w K I (i + 1) = exO_w K I i ++ exT_w K I (i + 1) := rfl
theorem exO_z_w (K I : List UInt8) : exO_w K I 0 = [] := rfl
def exR_w : Nat → SV
 | 0 => .slnil
 | _ + 1 => .sl 3 0 64 1 true
def exB_w (K I : List UInt8) : Nat → Option SB
 | 0 => none
 | i + 1 => some (.box ((exT_w K I (i + 1)).map .u8))
section
attribute [local irreducible] mac_w exT_w exO_w
theorem f51_w (K I : List UInt8) (hK : K.length < 100000000000000) (hI : I.length < 10000000000000) (n : Nat) (hn1 : 1 ≤ n) (hn : n ≤ 16320) (fk fi : Bool) : SCall Try.prog 51 [.u8 2, .sl 0 0 K.length 1 fk, .sl 1 0 I.length 1 fi, .i (n : Int)] [some (.ro (K.map .u8)), some (.ro (I.map .u8))] (.tup [.sl 2 0 n 1 true, .i 0]) [some (.ro (K.map .u8)), some (.ro (I.map .u8)), some (.row 5 ((exO_w K I ((n + (64 - 1)) / 64)).map .u8))] := by
 have e1 : decide ((n : Int) < 1) = false := by simp; omega
 have e2 : decide ((n : Int) > w64 (255 * 64)) = false := by simp [w64_eq]; omega
 obtain ⟨m, hm⟩ : ∃ m, m = (n + (64 - 1)) / 64 := ⟨_, rfl⟩
 rw [← hm]
 refine scall_of ttOk (by kernel_rfl : Try.prog.funcs[51]? = some Try.f51) rfl rfl rfl ?_
 try simp only [List.length_cons, List.length_nil, Nat.zero_add, Nat.reduceAdd]
 refine sw_ok ttOk mixed (by kernel_rfl) ?_
 conv => whnf
 repeat (first | (refine gdT e1 ?_; conv => whnf) | fail)
 refine ok1_callF [] [] true (f98_w) rfl rfl ⟨⟨rfl, by first | rfl | fail⟩, trivial, by first | rfl | fail, by first | rfl | fail, ?_⟩
 conv => whnf
 repeat (first | (refine gdT e1 ?_; conv => whnf) | (refine pkF e1 ?_; conv => whnf) | (refine gdF e2 ?_; conv => whnf) | fail)
 refine SWp.weak (Weak.virt 10 5 1 rfl) ?_
 refine loop_rule ttOk mixed (by kernel_rfl) (ι := { i : Nat // i ≤ m }) (fun i => [(0, .u8 2), (1, .sl 0 0 K.length 1 fk), (2, .sl 1 0 I.length 1 fi), (3, .i n), (8, .slnil), (9, .i 0), (10, .sl 2 0 (64 * i.1) 1 false), (11, exR_w i.1), (12, .i ((i.1 + 1 : Nat) : Int))]) (fun i => [some (.ro (K.map .u8)), some (.ro (I.map .u8)), some (.row 5 ((exO_w K I i.1).map .u8)), exB_w K I i.1]) (fun _ => 4) (fun i => m - i.1) ⟨0, by omega⟩ ?_ ?_
 ·
  have hz := exO_z_w K I
  dsimp only
  rw [hz]
  refine Weak.sel [0, 1, 2, 0] rfl rfl ?_ ?_ rfl rfl
  ·
   (repeat' (first | exact trivial | refine And.intro ?_ ?_ | fail)) <;> first | rfl | fail
  ·
   (repeat' (first | exact trivial | refine And.intro ?_ ?_ | fail)) <;> first | rfl | exact ren_eq (by first | (simp; done) | fail) (by first | rfl | fail) | fail
 ·
  rintro ⟨i, hi⟩
  dsimp only
  have hol := exO_len_w K I i
  have hos := exO_s_w K I i
  have htl := exT_len_w K I i
  have hts := exT_s_w K I i
  have hp : w64 (((i + 1 : Nat) : Int) + 1) = ((i + 1 + 1 : Nat) : Int) := by simp only [w64_eq]; omega
  by_cases hi2 : i < m
  ·
   have hlt : decide (((64 * i : Nat) : Int) < (n : Int)) = true := by simp; omega
   obtain ⟨O, hO⟩ : ∃ O, O = exO_w K I i := ⟨_, rfl⟩
   rw [← hO] at hol hos ⊢
   rcases i with _ | i
   ·
    have q := f49_w_obb K hK I [u8i ((1 : Nat) : Int)] hI (by decide : [u8i ((1 : Nat) : Int)].length < 10000000000000) fk fi true true
    rw [← exT_1_w] at q
    obtain ⟨T, hT⟩ : ∃ T, T = exT_w K I 1 := ⟨_, rfl⟩
    rw [← hT] at q
    have hTl : T.length = 64 := by rw [hT]; exact exT_len_w K I 0
    have hap : (O ++ T).map SV.u8 = List.take (64 * 0 * 1) (List.drop 0 (O.map SV.u8)) ++ List.take (64 * 1) (List.drop 0 (T.map SV.u8)) := by
     rw [List.drop_zero, List.drop_zero, List.take_of_length_le (l := O.map SV.u8) (by rw [List.length_map]; omega), List.take_of_length_le (l := T.map SV.u8) (by rw [List.length_map]; omega), List.map_append]
    conv => whnf
    first | refine brT (by exact hlt) ?_ | fail
    conv => whnf
    repeat (first | (refine Exists.intro _ (And.intro rfl ?_); conv => whnf) | fail)
    refine ok1_callF [0, 5, 1, 4] [false, false, false, false, true] false (q) rfl rfl ⟨⟨rfl, by first | rfl | fail⟩, by (repeat' (first | exact trivial | refine And.intro ?_ ?_)) <;> first | rfl | exact ren_eq (by first | (simp; done) | fail) (by first | rfl | fail) | fail, by first | simp [plainHf, plainB], by first | rfl | fail, ?_⟩
    conv => whnf
    repeat (first | (refine And.intro (by first | omega | (simp [ti5]; omega)) ?_; conv => whnf) | fail)
    refine ⟨⟨1, by omega⟩, by simp only; omega, ?_⟩
    dsimp only
    rw [hos]
    unfold exR_w exB_w
    dsimp only
    rw [← hT]
    refine Weak.sel [0, 1, 7, 6] rfl rfl ?_ ?_ rfl rfl
    ·
     (repeat' (first | exact trivial | refine And.intro ?_ ?_ | fail)) <;> first | exact wk_i (by first | exact hp | fail) | rfl | fail
    ·
     (repeat' (first | exact trivial | exact ren_eq (plainL_u8 _) hap | refine And.intro ?_ ?_ | fail)) <;> first | rfl | exact ren_eq (by first | (simp; done) | fail) (by first | rfl | fail) | fail
   ·
    obtain ⟨T0, hT0⟩ : ∃ T, T = exT_w K I (i + 1) := ⟨_, rfl⟩
    have htl0 := exT_len_w K I i
    rw [← hT0] at htl0
    have q := f49_w_bbb K hK T0 I [u8i ((i + 1 + 1 : Nat) : Int)] (by omega) hI (by simp) fk true fi true true
    rw [hT0, ← exT_s_w, ← hT0, htl0] at q
    obtain ⟨T, hT⟩ : ∃ T, T = exT_w K I (i + 1 + 1) := ⟨_, rfl⟩
    rw [← hT] at q
    have hTl : T.length = 64 := by rw [hT]; exact exT_len_w K I (i + 1)
    have hap : (O ++ T).map SV.u8 = List.take (64 * (i + 1) * 1) (List.drop 0 (O.map SV.u8)) ++ List.take (64 * 1) (List.drop 0 (T.map SV.u8)) := by
     rw [List.drop_zero, List.drop_zero, List.take_of_length_le (l := O.map SV.u8) (by rw [List.length_map]; omega), List.take_of_length_le (l := T.map SV.u8) (by rw [List.length_map]; omega), List.map_append]
    have hnx : 64 * (i + 1 + 1) = 64 * (i + 1) + 64 := by omega
    unfold exR_w exB_w
    dsimp only
    rw [← hT0]
    conv => whnf
    first | refine brT (by exact hlt) ?_ | fail
    conv => whnf
    repeat (first | (refine Exists.intro _ (And.intro rfl ?_); conv => whnf) | fail)
    refine ok1_callF [0, 5, 3, 1, 4] [false, false, false, false, false, true] false (q) rfl rfl ⟨⟨rfl, by first | rfl | fail⟩, by (repeat' (first | exact trivial | refine And.intro ?_ ?_)) <;> first | rfl | exact ren_eq (by first | (simp; done) | fail) (by first | rfl | fail) | fail, by first | simp [plainHf, plainB], by first | rfl | fail, ?_⟩
    conv => whnf
    repeat (first | (refine And.intro (by first | omega | (simp [ti5]; omega)) ?_; conv => whnf) | fail)
    refine ⟨⟨i + 1 + 1, by omega⟩, by simp only; omega, ?_⟩
    dsimp only
    rw [hos, ← hT]
    refine Weak.sel [0, 1, 7, 6] rfl rfl ?_ ?_ rfl rfl
    ·
     (repeat' (first | exact trivial | refine And.intro ?_ ?_ | fail)) <;> first | exact wk_i (by first | exact hp | exact hp.symm | fail) | rfl | fail
    ·
     (repeat' (first | exact trivial | exact ren_eq (plainL_u8 _) hap | refine And.intro ?_ ?_ | fail)) <;> first | rfl | exact ren_eq (by first | (simp; done) | fail) (by first | rfl | fail) | fail
  ·
   obtain rfl : i = m := by omega
   have hlt : decide (((64 * i : Nat) : Int) < (n : Int)) = false := by simp; omega
   rcases i with _ | i
   ·
    omega
   ·
    conv => whnf
    first | refine brF (by exact hlt) ?_ | fail
    conv => whnf
    repeat (first | (refine Exists.intro _ (And.intro rfl ?_); conv => whnf) | (refine And.intro (by first | omega | fail) ?_; conv => whnf) | fail)
    have hdd : decide (((n : Nat) : Int).toNat = ((n : Nat) : Int).toNat) = true := by simp
    rw [hdd, Int.toNat_natCast]
    refine ⟨[0, 1, 2], ?_, rfl, rfl, ?_, rfl⟩
    ·
     (repeat' (first | (refine wk_tup ?_) | (refine wk_cons ?_ ?_))) <;> first | rfl | fail
    ·
     (repeat' (first | exact trivial | refine And.intro ?_ ?_ | fail)) <;> first | rfl | exact ren_eq (by first | (simp; done) | fail) (by first | rfl | fail) | fail
end
end Go.Sh
namespace Go.Sh
open Go.Proofs
set_option maxHeartbeats 4000000
theorem f95_n : SCall Try.prog 95 [.u8 1] [] (.i 32) [] := by
 refine scall_of ttOk (by kernel_rfl : Try.prog.funcs[95]? = some Try.f95) rfl rfl rfl ?_
 try simp only [List.length_cons, List.length_nil, Nat.zero_add, Nat.reduceAdd]
 refine sw_ok ttOk mixed (by kernel_rfl) ?_
 conv => whnf
 repeat (first | (refine brT rfl ?_; conv => whnf) | fail)
 refine ⟨[], ?_, rfl, rfl, ?_, rfl⟩
 ·
  (repeat' (fail)) <;> first | rfl | fail
 ·
  (repeat' (first | exact trivial | fail)) <;> fail
theorem f96_n (T : List UInt8) (hT : T.length < 100000000000000) (f : Bool) : SCall Try.prog 96 [.u8 1, .sl 0 0 T.length 1 f] [some (.ro (T.map .u8))] (.sl 1 0 32 1 false) [some (.ro (T.map .u8)), some (.row 5 ((sum_n T).map .u8))] := by
 have q := f133_n T hT f
 rw [show hash_n k0_n h0_n T = sum_n T from rfl] at q
 obtain ⟨X, hX⟩ : ∃ X, X = sum_n T := ⟨_, rfl⟩
 rw [← hX] at q ⊢
 refine scall_of ttOk (by kernel_rfl : Try.prog.funcs[96]? = some Try.f96) rfl rfl rfl ?_
 try simp only [List.length_cons, List.length_nil, Nat.zero_add, Nat.reduceAdd]
 refine sw_ok ttOk mixed (by kernel_rfl) ?_
 conv => whnf
 repeat (fail)
 refine ok1_callF [] [] true (f95_n) rfl rfl ⟨⟨rfl, by first | rfl | fail⟩, trivial, by first | rfl | fail, by first | rfl | fail, ?_⟩
 conv => whnf
 repeat (fail)
 refine ok1_callF [0] [false, true] false (q) rfl rfl ⟨⟨rfl, by first | rfl | fail⟩, by (repeat' (first | exact trivial | refine And.intro ?_ ?_)) <;> first | exact ren_eq (by first | (simp; done) | fail) (by first | rfl | fail) | fail, by first | simp [plainHf, plainB], by first | rfl | fail, ?_⟩
 conv => whnf
 repeat (fail)
 refine ⟨[0, 1], ?_, rfl, rfl, ?_, rfl⟩
 ·
  (repeat' (fail)) <;> first | rfl | fail
 ·
  (repeat' (first | exact trivial | refine And.intro ?_ ?_ | fail)) <;> first | rfl | exact ren_eq (by first | (simp; done) | fail) (by first | rfl | fail) | fail
theorem f95_w : SCall Try.prog 95 [.u8 2] [] (.i 64) [] := by
 refine scall_of ttOk (by kernel_rfl : Try.prog.funcs[95]? = some Try.f95) rfl rfl rfl ?_
 try simp only [List.length_cons, List.length_nil, Nat.zero_add, Nat.reduceAdd]
 refine sw_ok ttOk mixed (by kernel_rfl) ?_
 conv => whnf
 repeat (first | (refine brT rfl ?_; conv => whnf) | (refine brF rfl ?_; conv => whnf) | fail)
 refine ⟨[], ?_, rfl, rfl, ?_, rfl⟩
 ·
  (repeat' (fail)) <;> first | rfl | fail
 ·
  (repeat' (first | exact trivial | fail)) <;> fail
theorem f96_w (T : List UInt8) (hT : T.length < 100000000000000) (f : Bool) : SCall Try.prog 96 [.u8 2, .sl 0 0 T.length 1 f] [some (.ro (T.map .u8))] (.sl 1 0 64 1 false) [some (.ro (T.map .u8)), some (.row 5 ((sum_w T).map .u8))] := by
 have q := f133_w T hT f
 rw [show hash_w k0_w h0_w T = sum_w T from rfl] at q
 obtain ⟨X, hX⟩ : ∃ X, X = sum_w T := ⟨_, rfl⟩
 rw [← hX] at q ⊢
 refine scall_of ttOk (by kernel_rfl : Try.prog.funcs[96]? = some Try.f96) rfl rfl rfl ?_
 try simp only [List.length_cons, List.length_nil, Nat.zero_add, Nat.reduceAdd]
 refine sw_ok ttOk mixed (by kernel_rfl) ?_
 conv => whnf
 repeat (fail)
 refine ok1_callF [] [] true (f95_w) rfl rfl ⟨⟨rfl, by first | rfl | fail⟩, trivial, by first | rfl | fail, by first | rfl | fail, ?_⟩
 conv => whnf
 repeat (fail)
 refine ok1_callF [0] [false, true] false (q) rfl rfl ⟨⟨rfl, by first | rfl | fail⟩, by (repeat' (first | exact trivial | refine And.intro ?_ ?_)) <;> first | exact ren_eq (by first | (simp; done) | fail) (by first | rfl | fail) | fail, by first | simp [plainHf, plainB], by first | rfl | fail, ?_⟩
 conv => whnf
 repeat (fail)
 refine ⟨[0, 1], ?_, rfl, rfl, ?_, rfl⟩
 ·
  (repeat' (fail)) <;> first | rfl | fail
 ·
  (repeat' (first | exact trivial | refine And.intro ?_ ?_ | fail)) <;> first | rfl | exact ren_eq (by first | (simp; done) | fail) (by first | rfl | fail) | fail
end Go.Sh
namespace Go.Sh
open Go.Proofs
set_option maxHeartbeats 4000000
set_option maxRecDepth 100000
theorem padz_get (Y : List UInt8) (n i : Nat) : (Y ++ List.replicate n 0).getD i 0 = Y.getD i 0 := by
 rw [List.getD_eq_getElem?_getD, List.getD_eq_getElem?_getD]
 by_cases h : i < Y.length
 ·
  rw [List.getElem?_append_left h]
 ·
  rw [List.getElem?_append_right (by omega), List.getElem?_eq_none (i := i) (l := Y) (by omega), List.getElem?_replicate]
  split <;> rfl
theorem rcat8z {E b : List UInt8} {n m : Nat} (hn : n = E.length) (hm : m = b.length) : (E ++ b).map SV.u8 = List.take (n * 1) (List.drop 0 (E.map SV.u8)) ++ List.take (m * 1) (List.drop 0 (b.map SV.u8)) := by
 subst hn; subst hm
 rw [Nat.mul_one, Nat.mul_one, List.drop_zero, List.drop_zero, List.take_of_length_le (l := b.map SV.u8) (by rw [List.length_map]; exact Nat.le_refl _), List.take_of_length_le (l := E.map SV.u8) (by rw [List.length_map]; exact Nat.le_refl _), List.map_append]
theorem f97_n_s (K : List UInt8) (hK : K.length ≤ 64) (w : UInt8) (f : Bool) : SCall Try.prog 97 [.u8 1, .sl 0 0 K.length 1 f, .u8 w] [some (.ro (K.map .u8))] (.sl 1 0 64 1 false) [some (.ro (K.map .u8)), some (.row 5 ((padL 64 K w).map .u8))] := by
 have hz0 : 0 + K.length = K.length := Nat.zero_add _
 have hbk : List.take (0 * ti5.sz) (List.drop 0 (reps 0 (SV.u8 0).cells)) ++ List.take (K.length * ti5.sz) (List.drop 0 (SB.ro (List.map SV.u8 K)).cells) = K.map SV.u8 := by
  show ([] : List SV) ++ List.take (K.length * 1) (K.map SV.u8) = _
  simp
 have hlt : decide ((K.length : Int) > w64 (2 * 32)) = false := by
  rw [show w64 (2 * 32) = 64 from by decide]; simp; omega
 refine scall_of ttOk (by kernel_rfl : Try.prog.funcs[97]? = some Try.f97) rfl rfl rfl ?_
 try simp only [List.length_cons, List.length_nil, Nat.zero_add, Nat.reduceAdd]
 refine sw_ok ttOk mixed (by kernel_rfl) ?_
 conv => whnf
 repeat (first | (refine Exists.intro _ (And.intro rfl ?_); conv => whnf) | (refine And.intro (by first | omega | (simp [ti5]; omega)) ?_; conv => whnf) | fail)
 rw [hbk, hz0]
 refine ok1_callF [] [] true (f95_n) rfl rfl ⟨⟨rfl, by first | rfl | fail⟩, trivial, by first | rfl | fail, by first | rfl | fail, ?_⟩
 conv => whnf
 repeat (fail)
 first | refine brF (by exact hlt) ?_ | fail
 conv => whnf
 repeat (fail)
 have hYl0 : K.length + 0 = K.length := rfl
 refine loop_rule ttOk mixed (by kernel_rfl) (ι := { j : Nat // K.length + j ≤ 64 }) (fun j => [(0, .u8 1), (2, .u8 w), (7, .sl 1 0 (K.length + j.1) 1 false)]) (fun j => [some (.ro (K.map .u8)), some (.row 5 ((K ++ List.replicate j.1 0).map .u8))]) (fun _ => 2) (fun j => 64 - j.1) ⟨0, by omega⟩ ?_ ?_
 ·
  have hz : K ++ List.replicate 0 0 = K := List.append_nil _
  dsimp only
  rw [hz]
  refine Weak.sel [0, 2] rfl rfl ?_ ?_ rfl rfl
  ·
   (repeat' (first | exact trivial | refine And.intro ?_ ?_ | fail)) <;> first | rfl | fail
  ·
   (repeat' (first | exact trivial | refine And.intro ?_ ?_ | fail)) <;> first | rfl | exact ren_eq (by first | (simp; done) | fail) (by first | rfl | fail) | fail
 ·
  rintro ⟨j, hj⟩
  dsimp only
  have hYs : K ++ List.replicate (j + 1) 0 = (K ++ List.replicate j 0) ++ [0] := by rw [List.replicate_succ', List.append_assoc]
  have hgt : ∀ i, (K ++ List.replicate j 0).getD i 0 = K.getD i 0 := fun i => padz_get K j i
  obtain ⟨V, hV⟩ : ∃ V, V = K ++ List.replicate j 0 := ⟨_, rfl⟩
  have hVl : V.length = K.length + j := by rw [hV, List.length_append, List.length_replicate]
  rw [← hV] at hYs hgt ⊢
  by_cases hj2 : K.length + j < 64
  ·
   have hlt2 : decide (((K.length + j : Nat) : Int) < w64 (2 * 32)) = true := by
    rw [show w64 (2 * 32) = 64 from by decide]; simp; omega
   have hap := rcat8z (E := V) (b := [0]) (n := K.length + j) (m := 1) hVl.symm rfl
   have hp : K.length + j + 1 = K.length + (j + 1) := by omega
   conv => whnf
   repeat (fail)
   refine ok1_callF [] [] true (f95_n) rfl rfl ⟨⟨rfl, by first | rfl | fail⟩, trivial, by first | rfl | fail, by first | rfl | fail, ?_⟩
   conv => whnf
   repeat (fail)
   first | refine brT (by exact hlt2) ?_ | fail
   conv => whnf
   repeat (first | (refine Exists.intro _ (And.intro rfl ?_); conv => whnf) | (refine And.intro (by first | omega | (simp [ti5]; omega)) ?_; conv => whnf) | fail)
   refine ⟨⟨j + 1, by omega⟩, by simp only; omega, ?_⟩
   dsimp only
   rw [hYs]
   refine Weak.sel [0, 3] rfl rfl ?_ ?_ rfl rfl
   ·
    (repeat' (first | exact trivial | refine And.intro ?_ ?_ | fail)) <;> first | rfl | fail
   ·
    (repeat' (first | exact trivial | exact ren_eq (plainL_u8 _) hap | refine And.intro ?_ ?_ | fail)) <;> first | rfl | exact ren_eq (by first | (simp; done) | fail) (by first | rfl | fail) | fail
  ·
   have hlt2 : decide (((K.length + j : Nat) : Int) < w64 (2 * 32)) = false := by
    rw [show w64 (2 * 32) = 64 from by decide]; simp; omega
   have hjB : K.length + j = 64 := by omega
   rw [hjB] at hVl hlt2 ⊢
   conv => whnf
   repeat (fail)
   refine ok1_callF [] [] true (f95_n) rfl rfl ⟨⟨rfl, by first | rfl | fail⟩, trivial, by first | rfl | fail, by first | rfl | fail, ?_⟩
   conv => whnf
   repeat (first | (refine brF rfl ?_; conv => whnf) | fail)
   refine loop_rule ttOk mixed (by kernel_rfl) (ι := { i : Nat // i ≤ 64 }) (fun i => [(2, .u8 w), (7, .sl 1 0 64 1 false), (8, .i (i.1 : Int))]) (fun i => [some (.ro (K.map .u8)), some (.row 5 ((fil 64 i.1 (fun i => w ^^^ K.getD i 0) (fun i => V.getD i 0)).map .u8))]) (fun _ => 2) (fun i => 64 - i.1) ⟨0, by omega⟩ ?_ ?_
   ·
    have hz : fil 64 0 (fun i => w ^^^ K.getD i 0) (fun i => V.getD i 0) = V := fil_of_list hVl
    dsimp only
    rw [hz]
    refine Weak.sel [0, 1] rfl rfl ?_ ?_ rfl rfl
    ·
     (repeat' (first | exact trivial | refine And.intro ?_ ?_ | fail)) <;> first | rfl | fail
    ·
     (repeat' (first | exact trivial | refine And.intro ?_ ?_ | fail)) <;> first | rfl | exact ren_eq (by first | (simp; done) | fail) (by first | rfl | fail) | fail
   ·
    rintro ⟨i, hi⟩
    dsimp only
    have hf := fil_len 64 i (fun i => w ^^^ K.getD i 0) (fun i => V.getD i 0)
    by_cases hi2 : i < 64
    ·
     have hlt3 : decide ((i : Int) < 64) = true := by simp; omega
     have hp : w64 ((i : Int) + 1) = ((i + 1 : Nat) : Int) := by simp only [w64_eq]; omega
     have hx : (fil 64 i (fun i => w ^^^ K.getD i 0) (fun i => V.getD i 0)).getD i 0 ^^^ w = (fun i => w ^^^ K.getD i 0) i := by
      rw [fil_getD hi2, if_neg (by omega), hgt i, UInt8.xor_comm]
     have hs := fil_setx (f := fun i => w ^^^ K.getD i 0) (g := fun i => V.getD i 0) hi2 hx
     conv => whnf
     first | refine brT (by exact hlt3) ?_ | fail
     conv => whnf
     repeat (first | (refine Exists.intro _ (And.intro (sput_m8 (i := i) (by first | rfl | omega | fail)) ?_); conv => whnf) | (refine Exists.intro _ (And.intro (sload_u8 (i := i) (by first | rfl | omega | fail) (by first | omega | fail)) ?_); conv => whnf) | (refine Exists.intro _ (And.intro (idx_i (m := i) (by first | rfl | fail)) ?_); conv => whnf) | (refine And.intro (by first | omega | fail) ?_; conv => whnf) | (refine And.intro ⟨by first | exact @rfl Nat _ | fail, by first | (simp only [hf, ti5, List.length_map]; omega) | fail⟩ ?_; conv => whnf) | fail)
     refine ⟨⟨i + 1, by omega⟩, by simp only; omega, ?_⟩
     dsimp only
     rw [← hs]
     refine Weak.sel [0, 1] rfl rfl ?_ ?_ rfl rfl
     ·
      (repeat' (first | exact trivial | refine And.intro ?_ ?_ | fail)) <;> first | exact wk_i (by first | exact hp | exact hp.symm | fail) | rfl | fail
     ·
      (repeat' (first | exact trivial | refine And.intro ?_ ?_ | fail)) <;> first | rfl | exact ren_eq (by first | (simp; done) | fail) (by first | rfl | fail) | exact ren_m8 (by first | rfl | fail) | fail
    ·
     obtain rfl : i = 64 := by omega
     have hfin : fil 64 64 (fun i => w ^^^ K.getD i 0) (fun i => V.getD i 0) = padL 64 K w := fil_full ..
     rw [hfin]
     conv => whnf
     first | refine brF (by rfl) ?_ | fail
     conv => whnf
     repeat (fail)
     refine ⟨[0, 1], ?_, rfl, rfl, ?_, rfl⟩
     ·
      (repeat' (fail)) <;> first | rfl | fail
     ·
      (repeat' (first | exact trivial | refine And.intro ?_ ?_ | (refine wk_cons ?_ ?_))) <;> first | rfl | exact ren_eq (by first | (simp; done) | fail) (by first | rfl | fail) | fail
theorem f97_w_s (K : List UInt8) (hK : K.length ≤ 128) (w : UInt8) (f : Bool) : SCall Try.prog 97 [.u8 2, .sl 0 0 K.length 1 f, .u8 w] [some (.ro (K.map .u8))] (.sl 1 0 128 1 false) [some (.ro (K.map .u8)), some (.row 5 ((padL 128 K w).map .u8))] := by
 have hz0 : 0 + K.length = K.length := Nat.zero_add _
 have hbk : List.take (0 * ti5.sz) (List.drop 0 (reps 0 (SV.u8 0).cells)) ++ List.take (K.length * ti5.sz) (List.drop 0 (SB.ro (List.map SV.u8 K)).cells) = K.map SV.u8 := by
  show ([] : List SV) ++ List.take (K.length * 1) (K.map SV.u8) = _
  simp
 have hlt : decide ((K.length : Int) > w64 (2 * 64)) = false := by
  rw [show w64 (2 * 64) = 128 from by decide]; simp; omega
 refine scall_of ttOk (by kernel_rfl : Try.prog.funcs[97]? = some Try.f97) rfl rfl rfl ?_
 try simp only [List.length_cons, List.length_nil, Nat.zero_add, Nat.reduceAdd]
 refine sw_ok ttOk mixed (by kernel_rfl) ?_
 conv => whnf
 repeat (first | (refine Exists.intro _ (And.intro rfl ?_); conv => whnf) | (refine And.intro (by first | omega | (simp [ti5]; omega)) ?_; conv => whnf) | fail)
 rw [hbk, hz0]
 refine ok1_callF [] [] true (f95_w) rfl rfl ⟨⟨rfl, by first | rfl | fail⟩, trivial, by first | rfl | fail, by first | rfl | fail, ?_⟩
 conv => whnf
 repeat (fail)
 first | refine brF (by exact hlt) ?_ | fail
 conv => whnf
 repeat (fail)
 have hYl0 : K.length + 0 = K.length := rfl
 refine loop_rule ttOk mixed (by kernel_rfl) (ι := { j : Nat // K.length + j ≤ 128 }) (fun j => [(0, .u8 2), (2, .u8 w), (7, .sl 1 0 (K.length + j.1) 1 false)]) (fun j => [some (.ro (K.map .u8)), some (.row 5 ((K ++ List.replicate j.1 0).map .u8))]) (fun _ => 2) (fun j => 128 - j.1) ⟨0, by omega⟩ ?_ ?_
 ·
  have hz : K ++ List.replicate 0 0 = K := List.append_nil _
  dsimp only
  rw [hz]
  refine Weak.sel [0, 2] rfl rfl ?_ ?_ rfl rfl
  ·
   (repeat' (first | exact trivial | refine And.intro ?_ ?_ | fail)) <;> first | rfl | fail
  ·
   (repeat' (first | exact trivial | refine And.intro ?_ ?_ | fail)) <;> first | rfl | exact ren_eq (by first | (simp; done) | fail) (by first | rfl | fail) | fail
 ·
  rintro ⟨j, hj⟩
  dsimp only
  have hYs : K ++ List.replicate (j + 1) 0 = (K ++ List.replicate j 0) ++ [0] := by rw [List.replicate_succ', List.append_assoc]
  have hgt : ∀ i, (K ++ List.replicate j 0).getD i 0 = K.getD i 0 := fun i => padz_get K j i
  obtain ⟨V, hV⟩ : ∃ V, V = K ++ List.replicate j 0 := ⟨_, rfl⟩
  have hVl : V.length = K.length + j := by rw [hV, List.length_append, List.length_replicate]
  rw [← hV] at hYs hgt ⊢
  by_cases hj2 : K.length + j < 128
  ·
   have hlt2 : decide (((K.length + j : Nat) : Int) < w64 (2 * 64)) = true := by
    rw [show w64 (2 * 64) = 128 from by decide]; simp; omega
   have hap := rcat8z (E := V) (b := [0]) (n := K.length + j) (m := 1) hVl.symm rfl
   have hp : K.length + j + 1 = K.length + (j + 1) := by omega
   conv => whnf
   repeat (fail)
   refine ok1_callF [] [] true (f95_w) rfl rfl ⟨⟨rfl, by first | rfl | fail⟩, trivial, by first | rfl | fail, by first | rfl | fail, ?_⟩
   conv => whnf
   repeat (fail)
   first | refine brT (by exact hlt2) ?_ | fail
   conv => whnf
   repeat (first | (refine Exists.intro _ (And.intro rfl ?_); conv => whnf) | (refine And.intro (by first | omega | (simp [ti5]; omega)) ?_; conv => whnf) | fail)
   refine ⟨⟨j + 1, by omega⟩, by simp only; omega, ?_⟩
   dsimp only
   rw [hYs]
   refine Weak.sel [0, 3] rfl rfl ?_ ?_ rfl rfl
   ·
    (repeat' (first | exact trivial | refine And.intro ?_ ?_ | fail)) <;> first | rfl | fail
   ·
    (repeat' (first | exact trivial | exact ren_eq (plainL_u8 _) hap | refine And.intro ?_ ?_ | fail)) <;> first | rfl | exact ren_eq (by first | (simp; done) | fail) (by first | rfl | fail) | fail
  ·
   have hlt2 : decide (((K.length + j : Nat) : Int) < w64 (2 * 64)) = false := by
    rw [show w64 (2 * 64) = 128 from by decide]; simp; omega
   have hjB : K.length + j = 128 := by omega
   rw [hjB] at hVl hlt2 ⊢
   conv => whnf
   repeat (fail)
   refine ok1_callF [] [] true (f95_w) rfl rfl ⟨⟨rfl, by first | rfl | fail⟩, trivial, by first | rfl | fail, by first | rfl | fail, ?_⟩
   conv => whnf
   repeat (first | (refine brF rfl ?_; conv => whnf) | fail)
   refine loop_rule ttOk mixed (by kernel_rfl) (ι := { i : Nat // i ≤ 128 }) (fun i => [(2, .u8 w), (7, .sl 1 0 128 1 false), (8, .i (i.1 : Int))]) (fun i => [some (.ro (K.map .u8)), some (.row 5 ((fil 128 i.1 (fun i => w ^^^ K.getD i 0) (fun i => V.getD i 0)).map .u8))]) (fun _ => 2) (fun i => 128 - i.1) ⟨0, by omega⟩ ?_ ?_
   ·
    have hz : fil 128 0 (fun i => w ^^^ K.getD i 0) (fun i => V.getD i 0) = V := fil_of_list hVl
    dsimp only
    rw [hz]
    refine Weak.sel [0, 1] rfl rfl ?_ ?_ rfl rfl
    ·
     (repeat' (first | exact trivial | refine And.intro ?_ ?_ | fail)) <;> first | rfl | fail
    ·
     (repeat' (first | exact trivial | refine And.intro ?_ ?_ | fail)) <;> first | rfl | exact ren_eq (by first | (simp; done) | fail) (by first | rfl | fail) | fail
   ·
    rintro ⟨i, hi⟩
    dsimp only
    have hf := fil_len 128 i (fun i => w ^^^ K.getD i 0) (fun i => V.getD i 0)
    by_cases hi2 : i < 128
    ·
     have hlt3 : decide ((i : Int) < 128) = true := by simp; omega
     have hp : w64 ((i : Int) + 1) = ((i + 1 : Nat) : Int) := by simp only [w64_eq]; omega
     have hx : (fil 128 i (fun i => w ^^^ K.getD i 0) (fun i => V.getD i 0)).getD i 0 ^^^ w = (fun i => w ^^^ K.getD i 0) i := by
      rw [fil_getD hi2, if_neg (by omega), hgt i, UInt8.xor_comm]
     have hs := fil_setx (f := fun i => w ^^^ K.getD i 0) (g := fun i => V.getD i 0) hi2 hx
     conv => whnf
     first | refine brT (by exact hlt3) ?_ | fail
     conv => whnf
     repeat (first | (refine Exists.intro _ (And.intro (sput_m8 (i := i) (by first | rfl | omega | fail)) ?_); conv => whnf) | (refine Exists.intro _ (And.intro (sload_u8 (i := i) (by first | rfl | omega | fail) (by first | omega | fail)) ?_); conv => whnf) | (refine Exists.intro _ (And.intro (idx_i (m := i) (by first | rfl | fail)) ?_); conv => whnf) | (refine And.intro (by first | omega | fail) ?_; conv => whnf) | (refine And.intro ⟨by first | exact @rfl Nat _ | fail, by first | (simp only [hf, ti5, List.length_map]; omega) | fail⟩ ?_; conv => whnf) | fail)
     refine ⟨⟨i + 1, by omega⟩, by simp only; omega, ?_⟩
     dsimp only
     rw [← hs]
     refine Weak.sel [0, 1] rfl rfl ?_ ?_ rfl rfl
     ·
      (repeat' (first | exact trivial | refine And.intro ?_ ?_ | fail)) <;> first | exact wk_i (by first | exact hp | exact hp.symm | fail) | rfl | fail
     ·
      (repeat' (first | exact trivial | refine And.intro ?_ ?_ | fail)) <;> first | rfl | exact ren_eq (by first | (simp; done) | fail) (by first | rfl | fail) | exact ren_m8 (by first | rfl | fail) | fail
    ·
     obtain rfl : i = 128 := by omega
     have hfin : fil 128 128 (fun i => w ^^^ K.getD i 0) (fun i => V.getD i 0) = padL 128 K w := fil_full ..
     rw [hfin]
     conv => whnf
     first | refine brF (by rfl) ?_ | fail
     conv => whnf
     repeat (fail)
     refine ⟨[0, 1], ?_, rfl, rfl, ?_, rfl⟩
     ·
      (repeat' (fail)) <;> first | rfl | fail
     ·
      (repeat' (first | exact trivial | refine And.intro ?_ ?_ | (refine wk_cons ?_ ?_))) <;> first | rfl | exact ren_eq (by first | (simp; done) | fail) (by first | rfl | fail) | fail
end Go.Sh
namespace Go.Sh
open Go.Proofs
set_option maxHeartbeats 4000000
set_option maxRecDepth 100000
attribute [local irreducible] sum_n sum_w
theorem f97_n_l (K : List UInt8) (hK : 64 < K.length) (hKb : K.length < 100000000000000) (w : UInt8) (f : Bool) : SCall Try.prog 97 [.u8 1, .sl 0 0 K.length 1 f, .u8 w] [some (.ro (K.map .u8))] (.sl 1 0 64 1 false) [some (.ro (K.map .u8)), some (.row 5 ((padL 64 (sum_n K) w).map .u8))] := by
 have hz0 : 0 + K.length = K.length := Nat.zero_add _
 have hbk : List.take (0 * ti5.sz) (List.drop 0 (reps 0 (SV.u8 0).cells)) ++ List.take (K.length * ti5.sz) (List.drop 0 (SB.ro (List.map SV.u8 K)).cells) = K.map SV.u8 := by
  show ([] : List SV) ++ List.take (K.length * 1) (K.map SV.u8) = _
  simp
 have hlt : decide ((K.length : Int) > w64 (2 * 32)) = true := by
  rw [show w64 (2 * 32) = 64 from by decide]; simp; omega
 have q96 := f96_n K hKb false
 have hYl := sum_len_n K
 obtain ⟨Y, hY⟩ : ∃ Y, Y = sum_n K := ⟨_, rfl⟩
 rw [← hY] at q96 hYl ⊢
 refine scall_of ttOk (by kernel_rfl : Try.prog.funcs[97]? = some Try.f97) rfl rfl rfl ?_
 try simp only [List.length_cons, List.length_nil, Nat.zero_add, Nat.reduceAdd]
 refine sw_ok ttOk mixed (by kernel_rfl) ?_
 conv => whnf
 repeat (first | (refine Exists.intro _ (And.intro rfl ?_); conv => whnf) | (refine And.intro (by first | omega | (simp [ti5]; omega)) ?_; conv => whnf) | fail)
 rw [hbk, hz0]
 refine ok1_callF [] [] true (f95_n) rfl rfl ⟨⟨rfl, by first | rfl | fail⟩, trivial, by first | rfl | fail, by first | rfl | fail, ?_⟩
 conv => whnf
 repeat (fail)
 first | refine brT (by exact hlt) ?_ | fail
 conv => whnf
 repeat (fail)
 refine ok1_callF [2] [false, true] false (q96) rfl rfl ⟨⟨rfl, by first | rfl | fail⟩, by (repeat' (first | exact trivial | refine And.intro ?_ ?_)) <;> first | exact ren_eq (by first | (simp; done) | fail) (by first | rfl | fail) | fail, by first | simp [plainHf, plainB], by first | rfl | fail, ?_⟩
 conv => whnf
 repeat (fail)
 have hYl0 : Y.length + 0 = 32 := hYl
 refine loop_rule ttOk mixed (by kernel_rfl) (ι := { j : Nat // Y.length + j ≤ 64 }) (fun j => [(0, .u8 1), (2, .u8 w), (7, .sl 1 0 (Y.length + j.1) 1 false)]) (fun j => [some (.ro (K.map .u8)), some (.row 5 ((Y ++ List.replicate j.1 0).map .u8))]) (fun _ => 2) (fun j => 64 - j.1) ⟨0, by omega⟩ ?_ ?_
 ·
  have hz : Y ++ List.replicate 0 0 = Y := List.append_nil _
  dsimp only
  rw [hz]
  refine Weak.sel [0, 3] rfl rfl ?_ ?_ rfl rfl
  ·
   (repeat' (first | exact trivial | refine And.intro ?_ ?_ | fail)) <;> first | rfl | exact wk_sl rfl (by first | rfl | fail) (by first | exact hYl0 | fail) | fail
  ·
   (repeat' (first | exact trivial | refine And.intro ?_ ?_ | fail)) <;> first | rfl | exact ren_eq (by first | (simp; done) | fail) (by first | rfl | fail) | fail
 ·
  rintro ⟨j, hj⟩
  dsimp only
  have hYs : Y ++ List.replicate (j + 1) 0 = (Y ++ List.replicate j 0) ++ [0] := by rw [List.replicate_succ', List.append_assoc]
  have hgt : ∀ i, (Y ++ List.replicate j 0).getD i 0 = Y.getD i 0 := fun i => padz_get Y j i
  obtain ⟨V, hV⟩ : ∃ V, V = Y ++ List.replicate j 0 := ⟨_, rfl⟩
  have hVl : V.length = Y.length + j := by rw [hV, List.length_append, List.length_replicate]
  rw [← hV] at hYs hgt ⊢
  by_cases hj2 : Y.length + j < 64
  ·
   have hlt2 : decide (((Y.length + j : Nat) : Int) < w64 (2 * 32)) = true := by
    rw [show w64 (2 * 32) = 64 from by decide]; simp; omega
   have hap := rcat8z (E := V) (b := [0]) (n := Y.length + j) (m := 1) hVl.symm rfl
   have hp : Y.length + j + 1 = Y.length + (j + 1) := by omega
   conv => whnf
   repeat (fail)
   refine ok1_callF [] [] true (f95_n) rfl rfl ⟨⟨rfl, by first | rfl | fail⟩, trivial, by first | rfl | fail, by first | rfl | fail, ?_⟩
   conv => whnf
   repeat (fail)
   first | refine brT (by exact hlt2) ?_ | fail
   conv => whnf
   repeat (first | (refine Exists.intro _ (And.intro rfl ?_); conv => whnf) | (refine And.intro (by first | omega | (simp [ti5]; omega)) ?_; conv => whnf) | fail)
   refine ⟨⟨j + 1, by omega⟩, by simp only; omega, ?_⟩
   dsimp only
   rw [hYs]
   refine Weak.sel [0, 3] rfl rfl ?_ ?_ rfl rfl
   ·
    (repeat' (first | exact trivial | refine And.intro ?_ ?_ | fail)) <;> first | rfl | fail
   ·
    (repeat' (first | exact trivial | exact ren_eq (plainL_u8 _) hap | refine And.intro ?_ ?_ | fail)) <;> first | rfl | exact ren_eq (by first | (simp; done) | fail) (by first | rfl | fail) | fail
  ·
   have hlt2 : decide (((Y.length + j : Nat) : Int) < w64 (2 * 32)) = false := by
    rw [show w64 (2 * 32) = 64 from by decide]; simp; omega
   have hjB : Y.length + j = 64 := by omega
   rw [hjB] at hVl hlt2 ⊢
   conv => whnf
   repeat (fail)
   refine ok1_callF [] [] true (f95_n) rfl rfl ⟨⟨rfl, by first | rfl | fail⟩, trivial, by first | rfl | fail, by first | rfl | fail, ?_⟩
   conv => whnf
   repeat (first | (refine brF rfl ?_; conv => whnf) | fail)
   refine loop_rule ttOk mixed (by kernel_rfl) (ι := { i : Nat // i ≤ 64 }) (fun i => [(2, .u8 w), (7, .sl 1 0 64 1 false), (8, .i (i.1 : Int))]) (fun i => [some (.ro (K.map .u8)), some (.row 5 ((fil 64 i.1 (fun i => w ^^^ Y.getD i 0) (fun i => V.getD i 0)).map .u8))]) (fun _ => 2) (fun i => 64 - i.1) ⟨0, by omega⟩ ?_ ?_
   ·
    have hz : fil 64 0 (fun i => w ^^^ Y.getD i 0) (fun i => V.getD i 0) = V := fil_of_list hVl
    dsimp only
    rw [hz]
    refine Weak.sel [0, 1] rfl rfl ?_ ?_ rfl rfl
    ·
     (repeat' (first | exact trivial | refine And.intro ?_ ?_ | fail)) <;> first | rfl | fail
    ·
     (repeat' (first | exact trivial | refine And.intro ?_ ?_ | fail)) <;> first | rfl | exact ren_eq (by first | (simp; done) | fail) (by first | rfl | fail) | fail
   ·
    rintro ⟨i, hi⟩
    dsimp only
    have hf := fil_len 64 i (fun i => w ^^^ Y.getD i 0) (fun i => V.getD i 0)
    by_cases hi2 : i < 64
    ·
     have hlt3 : decide ((i : Int) < 64) = true := by simp; omega
     have hp : w64 ((i : Int) + 1) = ((i + 1 : Nat) : Int) := by simp only [w64_eq]; omega
     have hx : (fil 64 i (fun i => w ^^^ Y.getD i 0) (fun i => V.getD i 0)).getD i 0 ^^^ w = (fun i => w ^^^ Y.getD i 0) i := by
      rw [fil_getD hi2, if_neg (by omega), hgt i, UInt8.xor_comm]
     have hs := fil_setx (f := fun i => w ^^^ Y.getD i 0) (g := fun i => V.getD i 0) hi2 hx
     conv => whnf
     first | refine brT (by exact hlt3) ?_ | fail
     conv => whnf
     repeat (first | (refine Exists.intro _ (And.intro (sput_m8 (i := i) (by first | rfl | omega | fail)) ?_); conv => whnf) | (refine Exists.intro _ (And.intro (sload_u8 (i := i) (by first | rfl | omega | fail) (by first | omega | fail)) ?_); conv => whnf) | (refine Exists.intro _ (And.intro (idx_i (m := i) (by first | rfl | fail)) ?_); conv => whnf) | (refine And.intro (by first | omega | fail) ?_; conv => whnf) | (refine And.intro ⟨by first | exact @rfl Nat _ | fail, by first | (simp only [hf, ti5, List.length_map]; omega) | fail⟩ ?_; conv => whnf) | fail)
     refine ⟨⟨i + 1, by omega⟩, by simp only; omega, ?_⟩
     dsimp only
     rw [← hs]
     refine Weak.sel [0, 1] rfl rfl ?_ ?_ rfl rfl
     ·
      (repeat' (first | exact trivial | refine And.intro ?_ ?_ | fail)) <;> first | exact wk_i (by first | exact hp | exact hp.symm | fail) | rfl | fail
     ·
      (repeat' (first | exact trivial | refine And.intro ?_ ?_ | fail)) <;> first | rfl | exact ren_eq (by first | (simp; done) | fail) (by first | rfl | fail) | exact ren_m8 (by first | rfl | fail) | fail
    ·
     obtain rfl : i = 64 := by omega
     have hfin : fil 64 64 (fun i => w ^^^ Y.getD i 0) (fun i => V.getD i 0) = padL 64 Y w := fil_full ..
     rw [hfin]
     conv => whnf
     first | refine brF (by rfl) ?_ | fail
     conv => whnf
     repeat (fail)
     refine ⟨[0, 1], ?_, rfl, rfl, ?_, rfl⟩
     ·
      (repeat' (fail)) <;> first | rfl | fail
     ·
      (repeat' (first | exact trivial | refine And.intro ?_ ?_ | (refine wk_cons ?_ ?_))) <;> first | rfl | exact ren_eq (by first | (simp; done) | fail) (by first | rfl | fail) | fail
theorem f97_n (K : List UInt8) (hKb : K.length < 100000000000000) (w : UInt8) (f : Bool) : SCall Try.prog 97 [.u8 1, .sl 0 0 K.length 1 f, .u8 w] [some (.ro (K.map .u8))] (.sl 1 0 64 1 false) [some (.ro (K.map .u8)), some (.row 5 ((padL 64 (key_n K) w).map .u8))] := by
 by_cases hk : 64 < K.length
 ·
  rw [show key_n K = sum_n K by unfold key_n; rw [if_pos hk]]; exact f97_n_l K hk hKb w f
 ·
  rw [show key_n K = K by unfold key_n; rw [if_neg hk]]; exact f97_n_s K (by omega) w f
theorem f97_w_l (K : List UInt8) (hK : 128 < K.length) (hKb : K.length < 100000000000000) (w : UInt8) (f : Bool) : SCall Try.prog 97 [.u8 2, .sl 0 0 K.length 1 f, .u8 w] [some (.ro (K.map .u8))] (.sl 1 0 128 1 false) [some (.ro (K.map .u8)), some (.row 5 ((padL 128 (sum_w K) w).map .u8))] := by
 have hz0 : 0 + K.length = K.length := Nat.zero_add _
 have hbk : List.take (0 * ti5.sz) (List.drop 0 (reps 0 (SV.u8 0).cells)) ++ List.take (K.length * ti5.sz) (List.drop 0 (SB.ro (List.map SV.u8 K)).cells) = K.map SV.u8 := by
  show ([] : List SV) ++ List.take (K.length * 1) (K.map SV.u8) = _
  simp
 have hlt : decide ((K.length : Int) > w64 (2 * 64)) = true := by
  rw [show w64 (2 * 64) = 128 from by decide]; simp; omega
 have q96 := f96_w K hKb false
 have hYl := sum_len_w K
 obtain ⟨Y, hY⟩ : ∃ Y, Y = sum_w K := ⟨_, rfl⟩
 rw [← hY] at q96 hYl ⊢
 refine scall_of ttOk (by kernel_rfl : Try.prog.funcs[97]? = some Try.f97) rfl rfl rfl ?_
 try simp only [List.length_cons, List.length_nil, Nat.zero_add, Nat.reduceAdd]
 refine sw_ok ttOk mixed (by kernel_rfl) ?_
 conv => whnf
 repeat (first | (refine Exists.intro _ (And.intro rfl ?_); conv => whnf) | (refine And.intro (by first | omega | (simp [ti5]; omega)) ?_; conv => whnf) | fail)
 rw [hbk, hz0]
 refine ok1_callF [] [] true (f95_w) rfl rfl ⟨⟨rfl, by first | rfl | fail⟩, trivial, by first | rfl | fail, by first | rfl | fail, ?_⟩
 conv => whnf
 repeat (fail)
 first | refine brT (by exact hlt) ?_ | fail
 conv => whnf
 repeat (fail)
 refine ok1_callF [2] [false, true] false (q96) rfl rfl ⟨⟨rfl, by first | rfl | fail⟩, by (repeat' (first | exact trivial | refine And.intro ?_ ?_)) <;> first | exact ren_eq (by first | (simp; done) | fail) (by first | rfl | fail) | fail, by first | simp [plainHf, plainB], by first | rfl | fail, ?_⟩
 conv => whnf
 repeat (fail)
 have hYl0 : Y.length + 0 = 64 := hYl
 refine loop_rule ttOk mixed (by kernel_rfl) (ι := { j : Nat // Y.length + j ≤ 128 }) (fun j => [(0, .u8 2), (2, .u8 w), (7, .sl 1 0 (Y.length + j.1) 1 false)]) (fun j => [some (.ro (K.map .u8)), some (.row 5 ((Y ++ List.replicate j.1 0).map .u8))]) (fun _ => 2) (fun j => 128 - j.1) ⟨0, by omega⟩ ?_ ?_
 ·
  have hz : Y ++ List.replicate 0 0 = Y := List.append_nil _
  dsimp only
  rw [hz]
  refine Weak.sel [0, 3] rfl rfl ?_ ?_ rfl rfl
  ·
   (repeat' (first | exact trivial | refine And.intro ?_ ?_ | fail)) <;> first | rfl | exact wk_sl rfl (by first | rfl | fail) (by first | exact hYl0 | fail) | fail
  ·
   (repeat' (first | exact trivial | refine And.intro ?_ ?_ | fail)) <;> first | rfl | exact ren_eq (by first | (simp; done) | fail) (by first | rfl | fail) | fail
 ·
  rintro ⟨j, hj⟩
  dsimp only
  have hYs : Y ++ List.replicate (j + 1) 0 = (Y ++ List.replicate j 0) ++ [0] := by rw [List.replicate_succ', List.append_assoc]
  have hgt : ∀ i, (Y ++ List.replicate j 0).getD i 0 = Y.getD i 0 := fun i => padz_get Y j i
  obtain ⟨V, hV⟩ : ∃ V, V = Y ++ List.replicate j 0 := ⟨_, rfl⟩
  have hVl : V.length = Y.length + j := by rw [hV, List.length_append, List.length_replicate]
  rw [← hV] at hYs hgt ⊢
  by_cases hj2 : Y.length + j < 128
  ·
   have hlt2 : decide (((Y.length + j : Nat) : Int) < w64 (2 * 64)) = true := by
    rw [show w64 (2 * 64) = 128 from by decide]; simp; omega
   have hap := rcat8z (E := V) (b := [0]) (n := Y.length + j) (m := 1) hVl.symm rfl
   have hp : Y.length + j + 1 = Y.length + (j + 1) := by omega
   conv => whnf
   repeat (fail)
   refine ok1_callF [] [] true (f95_w) rfl rfl ⟨⟨rfl, by first | rfl | fail⟩, trivial, by first | rfl | fail, by first | rfl | fail, ?_⟩
   conv => whnf
   repeat (fail)
   first | refine brT (by exact hlt2) ?_ | fail
   conv => whnf
   repeat (first | (refine Exists.intro _ (And.intro rfl ?_); conv => whnf) | (refine And.intro (by first | omega | (simp [ti5]; omega)) ?_; conv => whnf) | fail)
   refine ⟨⟨j + 1, by omega⟩, by simp only; omega, ?_⟩
   dsimp only
   rw [hYs]
   refine Weak.sel [0, 3] rfl rfl ?_ ?_ rfl rfl
   ·
    (repeat' (first | exact trivial | refine And.intro ?_ ?_ | fail)) <;> first | rfl | fail
   ·
    (repeat' (first | exact trivial | exact ren_eq (plainL_u8 _) hap | refine And.intro ?_ ?_ | fail)) <;> first | rfl | exact ren_eq (by first | (simp; done) | fail) (by first | rfl | fail) | fail
  ·
   have hlt2 : decide (((Y.length + j : Nat) : Int) < w64 (2 * 64)) = false := by
    rw [show w64 (2 * 64) = 128 from by decide]; simp; omega
   have hjB : Y.length + j = 128 := by omega
   rw [hjB] at hVl hlt2 ⊢
   conv => whnf
   repeat (fail)
   refine ok1_callF [] [] true (f95_w) rfl rfl ⟨⟨rfl, by first | rfl | fail⟩, trivial, by first | rfl | fail, by first | rfl | fail, ?_⟩
   conv => whnf
   repeat (first | (refine brF rfl ?_; conv => whnf) | fail)
   refine loop_rule ttOk mixed (by kernel_rfl) (ι := { i : Nat // i ≤ 128 }) (fun i => [(2, .u8 w), (7, .sl 1 0 128 1 false), (8, .i (i.1 : Int))]) (fun i => [some (.ro (K.map .u8)), some (.row 5 ((fil 128 i.1 (fun i => w ^^^ Y.getD i 0) (fun i => V.getD i 0)).map .u8))]) (fun _ => 2) (fun i => 128 - i.1) ⟨0, by omega⟩ ?_ ?_
   ·
    have hz : fil 128 0 (fun i => w ^^^ Y.getD i 0) (fun i => V.getD i 0) = V := fil_of_list hVl
    dsimp only
    rw [hz]
    refine Weak.sel [0, 1] rfl rfl ?_ ?_ rfl rfl
    ·
     (repeat' (first | exact trivial | refine And.intro ?_ ?_ | fail)) <;> first | rfl | fail
    ·
     (repeat' (first | exact trivial | refine And.intro ?_ ?_ | fail)) <;> first | rfl | exact ren_eq (by first | (simp; done) | fail) (by first | rfl | fail) | fail
   ·
    rintro ⟨i, hi⟩
    dsimp only
    have hf := fil_len 128 i (fun i => w ^^^ Y.getD i 0) (fun i => V.getD i 0)
    by_cases hi2 : i < 128
    ·
     have hlt3 : decide ((i : Int) < 128) = true := by simp; omega
     have hp : w64 ((i : Int) + 1) = ((i + 1 : Nat) : Int) := by simp only [w64_eq]; omega
     have hx : (fil 128 i (fun i => w ^^^ Y.getD i 0) (fun i => V.getD i 0)).getD i 0 ^^^ w = (fun i => w ^^^ Y.getD i 0) i := by
      rw [fil_getD hi2, if_neg (by omega), hgt i, UInt8.xor_comm]
     have hs := fil_setx (f := fun i => w ^^^ Y.getD i 0) (g := fun i => V.getD i 0) hi2 hx
     conv => whnf
     first | refine brT (by exact hlt3) ?_ | fail
     conv => whnf
     repeat (first | (refine Exists.intro _ (And.intro (sput_m8 (i := i) (by first | rfl | omega | fail)) ?_); conv => whnf) | (refine Exists.intro _ (And.intro (sload_u8 (i := i) (by first | rfl | omega | fail) (by first | omega | fail)) ?_); conv => whnf) | (refine Exists.intro _ (And.intro (idx_i (m := i) (by first | rfl | fail)) ?_); conv => whnf) | (refine And.intro (by first | omega | fail) ?_; conv => whnf) | (refine And.intro ⟨by first | exact @rfl Nat _ | fail, by first | (simp only [hf, ti5, List.length_map]; omega) | fail⟩ ?_; conv => whnf) | fail)
     refine ⟨⟨i + 1, by omega⟩, by simp only; omega, ?_⟩
     dsimp only
     rw [← hs]
     refine Weak.sel [0, 1] rfl rfl ?_ ?_ rfl rfl
     ·
      (repeat' (first | exact trivial | refine And.intro ?_ ?_ | fail)) <;> first | exact wk_i (by first | exact hp | exact hp.symm | fail) | rfl | fail
     ·
      (repeat' (first | exact trivial | refine And.intro ?_ ?_ | fail)) <;> first | rfl | exact ren_eq (by first | (simp; done) | fail) (by first | rfl | fail) | exact ren_m8 (by first | rfl | fail) | fail
    ·
     obtain rfl : i = 128 := by omega
     have hfin : fil 128 128 (fun i => w ^^^ Y.getD i 0) (fun i => V.getD i 0) = padL 128 Y w := fil_full ..
     rw [hfin]
     conv => whnf
     first | refine brF (by rfl) ?_ | fail
     conv => whnf
     repeat (fail)
     refine ⟨[0, 1], ?_, rfl, rfl, ?_, rfl⟩
     ·
      (repeat' (fail)) <;> first | rfl | fail
     ·
      (repeat' (first | exact trivial | refine And.intro ?_ ?_ | (refine wk_cons ?_ ?_))) <;> first | rfl | exact ren_eq (by first | (simp; done) | fail) (by first | rfl | fail) | fail
theorem f97_w (K : List UInt8) (hKb : K.length < 100000000000000) (w : UInt8) (f : Bool) : SCall Try.prog 97 [.u8 2, .sl 0 0 K.length 1 f, .u8 w] [some (.ro (K.map .u8))] (.sl 1 0 128 1 false) [some (.ro (K.map .u8)), some (.row 5 ((padL 128 (key_w K) w).map .u8))] := by
 by_cases hk : 128 < K.length
 ·
  rw [show key_w K = sum_w K by unfold key_w; rw [if_pos hk]]; exact f97_w_l K hk hKb w f
 ·
  rw [show key_w K = K by unfold key_w; rw [if_neg hk]]; exact f97_w_s K (by omega) w f
end Go.Sh
namespace Go.Sh
open Go.Proofs
set_option maxHeartbeats 4000000
theorem rcatb {E b : List UInt8} {n m : Nat} {B : SB} (hB : B.cells = b.map SV.u8) (hn : n = E.length) (hm : m = b.length) : List.take (n * 1) (List.drop 0 (E.map SV.u8)) ++ List.take (m * 1) (List.drop 0 B.cells) = (E ++ b).map SV.u8 := by rw [hB]; exact (rcat8z hn hm).symm
attribute [local irreducible] sum_n sum_w padL key_n key_w
theorem f48_n (K T : List UInt8) (hK : K.length < 100000000000000) (hT : T.length < 10000000000000) (fk ft : Bool) : SCall Try.prog 48 [.u8 1, .sl 0 0 K.length 1 fk, .sl 1 0 T.length 1 ft] [some (.ro (K.map .u8)), some (.ro (T.map .u8))] (.sl 2 0 32 1 false) [some (.ro (K.map .u8)), some (.ro (T.map .u8)), some (.row 5 ((mac_n K T).map .u8))] := by
 have q1 := f97_n K hK 54 fk
 have q2 := f97_n K hK 92 fk
 have l1 := padL_len 64 (key_n K) 54
 have l2 := padL_len 64 (key_n K) 92
 obtain ⟨P1, hP1⟩ : ∃ P, P = padL 64 (key_n K) 54 := ⟨_, rfl⟩
 obtain ⟨P2, hP2⟩ : ∃ P, P = padL 64 (key_n K) 92 := ⟨_, rfl⟩
 rw [← hP1] at q1 l1
 rw [← hP2] at q2 l2
 have q3 := f96_n (P1 ++ T) (by rw [List.length_append]; omega) false
 have l3 := sum_len_n (P1 ++ T)
 have h3 : (P1 ++ T).length = 64 + T.length := by rw [List.length_append, l1]
 rw [h3] at q3
 have hm : mac_n K T = sum_n (P2 ++ sum_n (P1 ++ T)) := by unfold mac_n; rw [hP1, hP2]
 rw [hm]
 obtain ⟨I, hI⟩ : ∃ I, I = sum_n (P1 ++ T) := ⟨_, rfl⟩
 rw [← hI] at q3 l3 ⊢
 have q4 := f96_n (P2 ++ I) (by rw [List.length_append]; omega) false
 have h4 : (P2 ++ I).length = 64 + 32 := by rw [List.length_append, l2, l3]
 rw [h4] at q4
 have l4 := sum_len_n (P2 ++ I)
 obtain ⟨W, hW⟩ : ∃ W, W = sum_n (P2 ++ I) := ⟨_, rfl⟩
 rw [← hW] at q4 l4 ⊢
 have a1 := rcatb (E := P1) (b := T) (B := .ro (T.map .u8)) rfl l1.symm rfl
 have a2 := rcatb (E := P2) (b := I) (B := .row 5 (I.map .u8)) rfl l2.symm l3.symm
 clear hP1 hP2 hI hW hm
 refine scall_of ttOk (by kernel_rfl : Try.prog.funcs[48]? = some Try.f48) rfl rfl rfl ?_
 try simp only [List.length_cons, List.length_nil, Nat.zero_add, Nat.reduceAdd]
 refine sw_ok ttOk mixed (by kernel_rfl) ?_
 conv => whnf
 repeat (fail)
 refine ok1_callF [] [] true (f95_n) rfl rfl ⟨⟨rfl, by first | rfl | fail⟩, trivial, by first | rfl | fail, by first | rfl | fail, ?_⟩
 conv => whnf
 repeat (first | (refine brF rfl ?_; conv => whnf) | fail)
 refine ok1_callF [0] [false, true] false (q1) rfl rfl ⟨⟨rfl, by first | rfl | fail⟩, by (repeat' (first | exact trivial | refine And.intro ?_ ?_)) <;> first | exact ren_eq (by first | (simp; done) | fail) (by first | rfl | fail) | fail, by first | simp [plainHf, plainB], by first | rfl | fail, ?_⟩
 conv => whnf
 repeat (first | (refine And.intro (by first | omega | (simp [ti5]; omega)) ?_; conv => whnf) | fail)
 rw [a1]
 refine ok1_callF [3] [false, true] false (q3) rfl rfl ⟨⟨rfl, by first | rfl | fail⟩, by (repeat' (first | exact trivial | refine And.intro ?_ ?_)) <;> first | exact ren_eq (by first | (simp; done) | fail) (by first | rfl | fail) | fail, by first | simp [plainHf, plainB], by first | rfl | fail, ?_⟩
 conv => whnf
 repeat (fail)
 refine ok1_callF [0] [false, true] false (q2) rfl rfl ⟨⟨rfl, by first | rfl | fail⟩, by (repeat' (first | exact trivial | refine And.intro ?_ ?_)) <;> first | exact ren_eq (by first | (simp; done) | fail) (by first | rfl | fail) | fail, by first | simp [plainHf, plainB], by first | rfl | fail, ?_⟩
 conv => whnf
 repeat (first | (refine And.intro (by first | omega | (simp [ti5]; omega)) ?_; conv => whnf) | fail)
 rw [a2]
 refine ok1_callF [6] [false, true] false (q4) rfl rfl ⟨⟨rfl, by first | rfl | fail⟩, by (repeat' (first | exact trivial | refine And.intro ?_ ?_)) <;> first | exact ren_eq (by first | (simp; done) | fail) (by first | rfl | fail) | fail, by first | simp [plainHf, plainB], by first | rfl | fail, ?_⟩
 conv => whnf
 repeat (fail)
 refine ⟨[0, 1, 7], ?_, rfl, rfl, ?_, rfl⟩
 ·
  (repeat' (fail)) <;> first | rfl | fail
 ·
  (repeat' (first | exact trivial | refine And.intro ?_ ?_ | fail)) <;> first | rfl | exact ren_eq (by first | (simp; done) | fail) (by first | rfl | fail) | fail
theorem f48_w (K T : List UInt8) (hK : K.length < 100000000000000) (hT : T.length < 10000000000000) (fk ft : Bool) : SCall Try.prog 48 [.u8 2, .sl 0 0 K.length 1 fk, .sl 1 0 T.length 1 ft] [some (.ro (K.map .u8)), some (.ro (T.map .u8))] (.sl 2 0 64 1 false) [some (.ro (K.map .u8)), some (.ro (T.map .u8)), some (.row 5 ((mac_w K T).map .u8))] := by
 have q1 := f97_w K hK 54 fk
 have q2 := f97_w K hK 92 fk
 have l1 := padL_len 128 (key_w K) 54
 have l2 := padL_len 128 (key_w K) 92
 obtain ⟨P1, hP1⟩ : ∃ P, P = padL 128 (key_w K) 54 := ⟨_, rfl⟩
 obtain ⟨P2, hP2⟩ : ∃ P, P = padL 128 (key_w K) 92 := ⟨_, rfl⟩
 rw [← hP1] at q1 l1
 rw [← hP2] at q2 l2
 have q3 := f96_w (P1 ++ T) (by rw [List.length_append]; omega) false
 have l3 := sum_len_w (P1 ++ T)
 have h3 : (P1 ++ T).length = 128 + T.length := by rw [List.length_append, l1]
 rw [h3] at q3
 have hm : mac_w K T = sum_w (P2 ++ sum_w (P1 ++ T)) := by unfold mac_w; rw [hP1, hP2]
 rw [hm]
 obtain ⟨I, hI⟩ : ∃ I, I = sum_w (P1 ++ T) := ⟨_, rfl⟩
 rw [← hI] at q3 l3 ⊢
 have q4 := f96_w (P2 ++ I) (by rw [List.length_append]; omega) false
 have h4 : (P2 ++ I).length = 128 + 64 := by rw [List.length_append, l2, l3]
 rw [h4] at q4
 have l4 := sum_len_w (P2 ++ I)
 obtain ⟨W, hW⟩ : ∃ W, W = sum_w (P2 ++ I) := ⟨_, rfl⟩
 rw [← hW] at q4 l4 ⊢
 have a1 := rcatb (E := P1) (b := T) (B := .ro (T.map .u8)) rfl l1.symm rfl
 have a2 := rcatb (E := P2) (b := I) (B := .row 5 (I.map .u8)) rfl l2.symm l3.symm
 clear hP1 hP2 hI hW hm
 refine scall_of ttOk (by kernel_rfl : Try.prog.funcs[48]? = some Try.f48) rfl rfl rfl ?_
 try simp only [List.length_cons, List.length_nil, Nat.zero_add, Nat.reduceAdd]
 refine sw_ok ttOk mixed (by kernel_rfl) ?_
 conv => whnf
 repeat (fail)
 refine ok1_callF [] [] true (f95_w) rfl rfl ⟨⟨rfl, by first | rfl | fail⟩, trivial, by first | rfl | fail, by first | rfl | fail, ?_⟩
 conv => whnf
 repeat (first | (refine brF rfl ?_; conv => whnf) | fail)
 refine ok1_callF [0] [false, true] false (q1) rfl rfl ⟨⟨rfl, by first | rfl | fail⟩, by (repeat' (first | exact trivial | refine And.intro ?_ ?_)) <;> first | exact ren_eq (by first | (simp; done) | fail) (by first | rfl | fail) | fail, by first | simp [plainHf, plainB], by first | rfl | fail, ?_⟩
 conv => whnf
 repeat (first | (refine And.intro (by first | omega | (simp [ti5]; omega)) ?_; conv => whnf) | fail)
 rw [a1]
 refine ok1_callF [3] [false, true] false (q3) rfl rfl ⟨⟨rfl, by first | rfl | fail⟩, by (repeat' (first | exact trivial | refine And.intro ?_ ?_)) <;> first | exact ren_eq (by first | (simp; done) | fail) (by first | rfl | fail) | fail, by first | simp [plainHf, plainB], by first | rfl | fail, ?_⟩
 conv => whnf
 repeat (fail)
 refine ok1_callF [0] [false, true] false (q2) rfl rfl ⟨⟨rfl, by first | rfl | fail⟩, by (repeat' (first | exact trivial | refine And.intro ?_ ?_)) <;> first | exact ren_eq (by first | (simp; done) | fail) (by first | rfl | fail) | fail, by first | simp [plainHf, plainB], by first | rfl | fail, ?_⟩
 conv => whnf
 repeat (first | (refine And.intro (by first | omega | (simp [ti5]; omega)) ?_; conv => whnf) | fail)
 rw [a2]
 refine ok1_callF [6] [false, true] false (q4) rfl rfl ⟨⟨rfl, by first | rfl | fail⟩, by (repeat' (first | exact trivial | refine And.intro ?_ ?_)) <;> first | exact ren_eq (by first | (simp; done) | fail) (by first | rfl | fail) | fail, by first | simp [plainHf, plainB], by first | rfl | fail, ?_⟩
 conv => whnf
 repeat (fail)
 refine ⟨[0, 1, 7], ?_, rfl, rfl, ?_, rfl⟩
 ·
  (repeat' (fail)) <;> first | rfl | fail
 ·
  (repeat' (first | exact trivial | refine And.intro ?_ ?_ | fail)) <;> first | rfl | exact ren_eq (by first | (simp; done) | fail) (by first | rfl | fail) | fail
end Go.Sh
namespace Go.Sh
open Go.Proofs
set_option maxHeartbeats 8000000
set_option maxRecDepth 100000
def rowM : List UInt8 := [176, 52, 76, 97, 216, 219, 56, 83, 92, 168, 175, 206, 175, 11, 241, 43, 136, 29, 194, 0, 201, 131, 61, 167, 38, 233, 55, 108, 46, 50, 207, 247]
def rowX : List UInt8 := [60, 178, 95, 37, 250, 172, 213, 122, 144, 67, 79, 100, 208, 54, 47, 42, 45, 45, 10, 144, 207, 26, 90, 76, 93, 176, 45, 86, 236, 196, 197, 191, 52, 0, 114, 8, 213, 184, 135, 24, 88, 101]
def rowP : List UInt8 := [7, 119, 9, 54, 44, 46, 50, 223, 13, 220, 63, 13, 196, 123, 186, 99, 144, 182, 199, 59, 181, 15, 156, 49, 34, 236, 132, 74, 215, 194, 179, 229]
theorem kn_1 : mac_n (List.replicate 20 11) ([72, 105, 32] ++ [84, 104, 101, 114, 101]) = rowM := by decide +kernel
theorem kn_2 : (mac_w (List.replicate 20 11) [72, 105, 32, 84, 104, 101, 114, 101]).take 8 = [135, 170, 124, 222, 165, 239, 97, 157] := by decide +kernel
theorem kn_3 : mac_n [0, 1, 2, 3, 4, 5, 6, 7, 8, 9, 10, 11, 12] (List.replicate 22 11) = rowP := by decide +kernel
theorem kn_4 : (exO_n rowP [240, 241, 242, 243, 244, 245, 246, 247, 248, 249] 2).take 42 = rowX := by decide +kernel
end Go.Sh
namespace Go.Sh
open Go.Proofs
set_option maxHeartbeats 4000000
def orx (a b : List UInt8) : Nat → UInt8
 | 0 => 0
 | i + 1 => orx a b i ||| (a.getD i 0 ^^^ b.getD i 0)
theorem or_z (x y : UInt8) : x ||| y = 0 ↔ x = 0 ∧ y = 0 := by
 constructor
 ·
  intro h
  have h2 : x.toBitVec ||| y.toBitVec = 0#8 := by rw [← UInt8.toBitVec_or, h]; rfl
  obtain ⟨h3, h4⟩ := BitVec.or_eq_zero_iff.1 h2
  exact ⟨UInt8.toBitVec_inj.1 h3, UInt8.toBitVec_inj.1 h4⟩
 ·
  rintro ⟨rfl, rfl⟩; rfl
theorem xor_z (x y : UInt8) : x ^^^ y = 0 ↔ x = y := by
 constructor
 ·
  intro h
  have : x ^^^ y ^^^ y = 0 ^^^ y := by rw [h]
  rwa [UInt8.xor_assoc, UInt8.xor_self, UInt8.xor_zero, UInt8.zero_xor] at this
 ·
  rintro rfl; exact UInt8.xor_self
theorem orx_z (a b : List UInt8) : ∀ i, orx a b i = 0 ↔ ∀ j, j < i → a.getD j 0 = b.getD j 0
 | 0 => ⟨fun _ j hj => absurd hj (Nat.not_lt_zero _), fun _ => rfl⟩
 | i + 1 => by
  show orx a b i ||| (a.getD i 0 ^^^ b.getD i 0) = 0 ↔ _
  rw [or_z, xor_z, orx_z a b i]
  constructor
  ·
   rintro ⟨h1, h2⟩ j hj
   by_cases hji : j = i
   ·
    subst hji; exact h2
   ·
    exact h1 j (by omega)
  ·
   intro h
   exact ⟨fun j hj => h j (by omega), h i (by omega)⟩
theorem same_eq {a b : List UInt8} (h : a.length = b.length) : (orx a b a.length == 0) = decide (a = b) := by
 rw [Bool.eq_iff_iff, beq_iff_eq, decide_eq_true_iff, orx_z]
 constructor
 ·
  intro hj
  apply List.ext_getElem h
  intro i h1 h2
  have := hj i h1
  rwa [List.getD_eq_getElem?_getD, List.getD_eq_getElem?_getD, List.getElem?_eq_getElem h1, List.getElem?_eq_getElem h2] at this
 ·
  rintro rfl j _; rfl
theorem orx_s (a b : List UInt8) (i : Nat) : orx a b (i + 1) = orx a b i ||| (a.getD i 0 ^^^ b.getD i 0) := rfl
attribute [local irreducible] orx
theorem f53 (a b : List UInt8) (ha : a.length < 100000000000000) (hb : b.length < 100000000000000) (f g : Bool) : SCall Try.prog 53 [.sl 0 0 a.length 1 f, .sl 1 0 b.length 1 g] [some (.ro (a.map .u8)), some (.ro (b.map .u8))] (.b (decide (a = b))) [some (.ro (a.map .u8)), some (.ro (b.map .u8))] := by
 by_cases hl : a.length = b.length
 ·
  have hne : ((a.length : Int) != (b.length : Int)) = false := by rw [hl]; simp
  rw [← same_eq hl]
  have hz : orx a b 0 = 0 := by unfold orx; rfl
  refine scall_of ttOk (by kernel_rfl : Try.prog.funcs[53]? = some Try.f53) rfl rfl rfl ?_
  try simp only [List.length_cons, List.length_nil, Nat.zero_add, Nat.reduceAdd]
  refine sw_ok ttOk mixed (by kernel_rfl) ?_
  conv => whnf
  repeat (first | (refine And.intro (by first | omega | (simp; omega) | fail) ?_; conv => whnf) | fail)
  first | intro _
  conv => whnf
  repeat (fail)
  refine loop_rule ttOk mixed (by kernel_rfl) (ι := { i : Nat // i ≤ a.length }) (fun i => [(0, .sl 0 0 a.length 1 f), (1, .sl 1 0 b.length 1 g), (5, .u8 (orx a b i.1)), (13, .i a.length), (14, .i (i.1 : Int))]) (fun i => [some (.ro (a.map .u8)), some (.ro (b.map .u8))]) (fun _ => 2) (fun i => a.length - i.1) ⟨0, by omega⟩ ?_ ?_
  ·
   dsimp only
   rw [hz]
   refine Weak.sel [0, 1] rfl rfl ?_ ?_ rfl rfl
   ·
    (repeat' (first | exact trivial | refine And.intro ?_ ?_ | fail)) <;> first | rfl | fail
   ·
    (repeat' (first | exact trivial | refine And.intro ?_ ?_ | fail)) <;> first | exact ren_eq (by first | (simp; done) | fail) (by first | rfl | fail) | fail
  ·
   rintro ⟨i, hi⟩
   dsimp only
   by_cases hi2 : i < a.length
   ·
    have hlt : decide ((i : Int) < (a.length : Int)) = true := by simp; omega
    have hp : w64 ((i : Int) + 1) = ((i + 1 : Nat) : Int) := by simp only [w64_eq]; omega
    have hib : i < b.length := by omega
    have hs := orx_s a b i
    conv => whnf
    first | refine brT (by exact hlt) ?_ | fail
    conv => whnf
    repeat (first | (refine Exists.intro _ (And.intro (sload_u8 (i := i) (by first | rfl | omega | fail) (by first | omega | fail)) ?_); conv => whnf) | (refine Exists.intro _ (And.intro (idx_i (m := i) (by first | rfl | fail)) ?_); conv => whnf) | (refine And.intro (by first | omega | fail) ?_; conv => whnf) | (refine And.intro (by kernel_rfl) ?_; conv => whnf) | fail)
    refine ⟨⟨i + 1, by omega⟩, by simp only; omega, ?_⟩
    dsimp only
    rw [hs]
    refine Weak.sel [0, 1] rfl rfl ?_ ?_ rfl rfl
    ·
     (repeat' (first | exact trivial | refine And.intro ?_ ?_ | fail)) <;> first | exact wk_i (by first | exact hp | exact hp.symm | fail) | rfl | fail
    ·
     (repeat' (first | exact trivial | refine And.intro ?_ ?_ | fail)) <;> first | exact ren_eq (by first | (simp; done) | fail) (by first | rfl | fail) | fail
   ·
    obtain rfl : i = a.length := by omega
    have hlt : decide ((a.length : Int) < (a.length : Int)) = false := by simp
    conv => whnf
    first | refine brF (by exact hlt) ?_ | fail
    conv => whnf
    repeat (fail)
    refine ⟨[0, 1], ?_, rfl, rfl, ?_, rfl⟩
    ·
     (repeat' (fail)) <;> first | rfl | fail
    ·
     (repeat' (first | exact trivial | refine And.intro ?_ ?_ | fail)) <;> first | exact ren_eq (by first | (simp; done) | fail) (by first | rfl | fail) | fail
 ·
  have hne : ((a.length : Int) != (b.length : Int)) = true := by simp; omega
  have hd : decide (a = b) = false := by simp; intro h; exact hl (by rw [h])
  rw [hd]
  refine scall_of ttOk (by kernel_rfl : Try.prog.funcs[53]? = some Try.f53) rfl rfl rfl ?_
  try simp only [List.length_cons, List.length_nil, Nat.zero_add, Nat.reduceAdd]
  refine sw_ok ttOk mixed (by kernel_rfl) ?_
  conv => whnf
  repeat (fail)
  first | refine brT (by exact hne) ?_ | fail
  conv => whnf
  repeat (fail)
  refine ⟨[0, 1], ?_, rfl, rfl, ?_, rfl⟩
  ·
   (repeat' (fail)) <;> first | rfl | fail
  ·
   (repeat' (first | exact trivial | refine And.intro ?_ ?_ | fail)) <;> first | exact ren_eq (by first | (simp; done) | fail) (by first | rfl | fail) | fail
end Go.Sh
namespace Go.Sh
open Go.Proofs
set_option maxHeartbeats 4000000
def likeL (c : UInt8) (n : Nat) : List UInt8 := (List.range n).map (fun _ => c)
def riseL (c : UInt8) (n : Nat) : List UInt8 := (List.range n).map (fun (i : Nat) => c + u8i (i : Int))
theorem likeL_s (c : UInt8) (n : Nat) : likeL c (n + 1) = likeL c n ++ [c] := by unfold likeL; rw [List.range_succ, List.map_append]; rfl
theorem riseL_s (c : UInt8) (n : Nat) : riseL c (n + 1) = riseL c n ++ [c + u8i (n : Int)] := by unfold riseL; rw [List.range_succ, List.map_append]; rfl
theorem likeL_len (c : UInt8) (n : Nat) : (likeL c n).length = n := by unfold likeL; simp
theorem riseL_len (c : UInt8) (n : Nat) : (riseL c n).length = n := by unfold riseL; simp
theorem likeL_z (c : UInt8) : likeL c 0 = [] := rfl
theorem riseL_z (c : UInt8) : riseL c 0 = [] := rfl
section
attribute [local irreducible] likeL riseL
theorem f93 (c : UInt8) (n : Nat) (hn : n < 1000) : SCall Try.prog 93 [.u8 c, .i (n : Int)] [] (.sl 0 0 n 1 false) [some (.row 5 ((likeL c n).map .u8))] := by
 refine scall_of ttOk (by kernel_rfl : Try.prog.funcs[93]? = some Try.f93) rfl rfl rfl ?_
 try simp only [List.length_cons, List.length_nil, Nat.zero_add, Nat.reduceAdd]
 refine sw_ok ttOk mixed (by kernel_rfl) ?_
 conv => whnf
 repeat (fail)
 refine SWp.weak (Weak.virt 5 5 1 rfl) ?_
 refine loop_rule ttOk mixed (by kernel_rfl) (ι := { i : Nat // i ≤ n }) (fun i => [(0, .u8 c), (5, .sl 0 0 i.1 1 false), (6, .i n), (7, .i (i.1 : Int))]) (fun i => [some (.row 5 ((likeL c i.1).map .u8))]) (fun _ => 1) (fun i => n - i.1) ⟨0, by omega⟩ ?_ ?_
 ·
  have hz := likeL_z c
  dsimp only
  rw [hz]
  refine Weak.sel [0] rfl rfl ?_ ?_ rfl rfl
  ·
   (repeat' (first | exact trivial | refine And.intro ?_ ?_ | fail)) <;> first | rfl | fail
  ·
   (repeat' (first | exact trivial | refine And.intro ?_ ?_ | fail)) <;> first | rfl | fail
 ·
  rintro ⟨i, hi⟩
  dsimp only
  have hl := likeL_len c i
  by_cases hi2 : i < n
  ·
   have hlt : decide ((i : Int) < (n : Int)) = true := by simp; omega
   have hp : w64 ((i : Int) + 1) = ((i + 1 : Nat) : Int) := by simp only [w64_eq]; omega
   have hs := likeL_s c i
   obtain ⟨Y, hY⟩ : ∃ Y, Y = likeL c i := ⟨_, rfl⟩
   rw [← hY] at hl hs ⊢
   have hap : (Y ++ [c]).map SV.u8 = List.take (i * 1) (List.drop 0 (Y.map SV.u8)) ++ List.take (1 * 1) (List.drop 0 [SV.u8 c]) := by
    rw [List.drop_zero, List.take_of_length_le (l := Y.map SV.u8) (by rw [List.length_map]; omega), List.map_append]; rfl
   conv => whnf
   first | refine brT (by exact hlt) ?_ | fail
   conv => whnf
   repeat (first | (refine Exists.intro _ (And.intro rfl ?_); conv => whnf) | (refine And.intro (by first | omega | (simp [ti5]; omega)) ?_; conv => whnf) | fail)
   refine ⟨⟨i + 1, by omega⟩, by simp only; omega, ?_⟩
   dsimp only
   rw [hs]
   refine Weak.sel [2] rfl rfl ?_ ?_ rfl rfl
   ·
    (repeat' (first | exact trivial | refine And.intro ?_ ?_ | fail)) <;> first | exact wk_i (by first | exact hp | exact hp.symm | fail) | rfl | fail
   ·
    (repeat' (first | exact trivial | exact ren_eq (plainL_u8 _) hap | refine And.intro ?_ ?_ | fail)) <;> first | rfl | fail
  ·
   obtain rfl : i = n := by omega
   have hlt : decide ((i : Int) < (i : Int)) = false := by simp
   conv => whnf
   first | refine brF (by exact hlt) ?_ | fail
   conv => whnf
   repeat (fail)
   refine ⟨[0], ?_, rfl, rfl, ?_, rfl⟩
   ·
    (repeat' (fail)) <;> first | rfl | fail
   ·
    (repeat' (first | exact trivial | refine And.intro ?_ ?_ | fail)) <;> first | rfl | exact ren_eq (by first | (simp; done) | fail) (by first | rfl | fail) | fail
theorem f94 (c : UInt8) (n : Nat) (hn : n < 1000) : SCall Try.prog 94 [.u8 c, .i (n : Int)] [] (.sl 0 0 n 1 false) [some (.row 5 ((riseL c n).map .u8))] := by
 refine scall_of ttOk (by kernel_rfl : Try.prog.funcs[94]? = some Try.f94) rfl rfl rfl ?_
 try simp only [List.length_cons, List.length_nil, Nat.zero_add, Nat.reduceAdd]
 refine sw_ok ttOk mixed (by kernel_rfl) ?_
 conv => whnf
 repeat (fail)
 refine SWp.weak (Weak.virt 5 5 1 rfl) ?_
 refine loop_rule ttOk mixed (by kernel_rfl) (ι := { i : Nat // i ≤ n }) (fun i => [(0, .u8 c), (5, .sl 0 0 i.1 1 false), (7, .i n), (8, .i (i.1 : Int))]) (fun i => [some (.row 5 ((riseL c i.1).map .u8))]) (fun _ => 1) (fun i => n - i.1) ⟨0, by omega⟩ ?_ ?_
 ·
  have hz := riseL_z c
  dsimp only
  rw [hz]
  refine Weak.sel [0] rfl rfl ?_ ?_ rfl rfl
  ·
   (repeat' (first | exact trivial | refine And.intro ?_ ?_ | fail)) <;> first | rfl | fail
  ·
   (repeat' (first | exact trivial | refine And.intro ?_ ?_ | fail)) <;> first | rfl | fail
 ·
  rintro ⟨i, hi⟩
  dsimp only
  have hl := riseL_len c i
  by_cases hi2 : i < n
  ·
   have hlt : decide ((i : Int) < (n : Int)) = true := by simp; omega
   have hp : w64 ((i : Int) + 1) = ((i + 1 : Nat) : Int) := by simp only [w64_eq]; omega
   have hs := riseL_s c i
   obtain ⟨Y, hY⟩ : ∃ Y, Y = riseL c i := ⟨_, rfl⟩
   rw [← hY] at hl hs ⊢
   have hap : (Y ++ [(c + u8i (i : Int))]).map SV.u8 = List.take (i * 1) (List.drop 0 (Y.map SV.u8)) ++ List.take (1 * 1) (List.drop 0 [SV.u8 (c + u8i (i : Int))]) := by
    rw [List.drop_zero, List.take_of_length_le (l := Y.map SV.u8) (by rw [List.length_map]; omega), List.map_append]; rfl
   conv => whnf
   first | refine brT (by exact hlt) ?_ | fail
   conv => whnf
   repeat (first | (refine Exists.intro _ (And.intro rfl ?_); conv => whnf) | (refine And.intro (by first | omega | (simp [ti5]; omega)) ?_; conv => whnf) | fail)
   refine ⟨⟨i + 1, by omega⟩, by simp only; omega, ?_⟩
   dsimp only
   rw [hs]
   refine Weak.sel [2] rfl rfl ?_ ?_ rfl rfl
   ·
    (repeat' (first | exact trivial | refine And.intro ?_ ?_ | fail)) <;> first | exact wk_i (by first | exact hp | exact hp.symm | fail) | rfl | fail
   ·
    (repeat' (first | exact trivial | exact ren_eq (plainL_u8 _) hap | refine And.intro ?_ ?_ | fail)) <;> first | rfl | fail
  ·
   obtain rfl : i = n := by omega
   have hlt : decide ((i : Int) < (i : Int)) = false := by simp
   conv => whnf
   first | refine brF (by exact hlt) ?_ | fail
   conv => whnf
   repeat (fail)
   refine ⟨[0], ?_, rfl, rfl, ?_, rfl⟩
   ·
    (repeat' (fail)) <;> first | rfl | fail
   ·
    (repeat' (first | exact trivial | refine And.intro ?_ ?_ | fail)) <;> first | rfl | exact ren_eq (by first | (simp; done) | fail) (by first | rfl | fail) | fail
end
theorem f98_o (h : UInt8) (h1 : h ≠ 1) (h2 : h ≠ 2) : SCall Try.prog 98 [.u8 h] [] (.i 0) [] := by
 have e1 : (h == UInt8.ofNat (Int.toNat 1)) = false := by simpa using h1
 have e2 : (h == UInt8.ofNat (Int.toNat 2)) = false := by simpa using h2
 refine scall_of ttOk (by kernel_rfl : Try.prog.funcs[98]? = some Try.f98) rfl rfl rfl ?_
 try simp only [List.length_cons, List.length_nil, Nat.zero_add, Nat.reduceAdd]
 refine sw_ok ttOk mixed (by kernel_rfl) ?_
 conv => whnf
 repeat (fail)
 first | refine brF (by exact e1) ?_ | fail
 conv => whnf
 repeat (fail)
 first | refine brF (by exact e2) ?_ | fail
 conv => whnf
 repeat (fail)
 refine ⟨[], ?_, rfl, rfl, ?_, rfl⟩
 ·
  (repeat' (fail)) <;> first | rfl | fail
 ·
  (repeat' (first | exact trivial | fail)) <;> fail
theorem f49_o (h : UInt8) (h1 : h ≠ 1) (h2 : h ≠ 2) (K : List UInt8) (f : Bool) : SCall Try.prog 49 [.u8 h, .sl 0 0 K.length 1 f, .slnil] [some (.ro (K.map .u8))] .slnil [some (.ro (K.map .u8))] := by
 have q := f98_o h h1 h2
 refine scall_of ttOk (by kernel_rfl : Try.prog.funcs[49]? = some Try.f49) rfl rfl rfl ?_
 try simp only [List.length_cons, List.length_nil, Nat.zero_add, Nat.reduceAdd]
 refine sw_ok ttOk mixed (by kernel_rfl) ?_
 conv => whnf
 repeat (fail)
 refine ok1_callF [] [] true (q) rfl rfl ⟨⟨rfl, by first | rfl | fail⟩, trivial, by first | rfl | fail, by first | rfl | fail, ?_⟩
 conv => whnf
 repeat (first | (refine brT rfl ?_; conv => whnf) | fail)
 refine ⟨[0], ?_, rfl, rfl, ?_, rfl⟩
 ·
  (repeat' (fail)) <;> first | rfl | fail
 ·
  (repeat' (first | exact trivial | refine And.intro ?_ ?_ | fail)) <;> first | exact ren_eq (by first | (simp; done) | fail) (by first | rfl | fail) | fail
theorem f51_e (h : UInt8) (Z : Nat) (hZ : Z < 1000) (q : SCall Try.prog 98 [.u8 h] [] (.i (Z : Int)) []) (K I : List UInt8) (n : Int) (hbad : n < 1 ∨ n > ((255 * Z : Nat) : Int)) (fk fi : Bool) : SCall Try.prog 51 [.u8 h, .sl 0 0 K.length 1 fk, .sl 1 0 I.length 1 fi, .i n] [some (.ro (K.map .u8)), some (.ro (I.map .u8))] (.tup [.slnil, .i 2]) [some (.ro (K.map .u8)), some (.ro (I.map .u8))] := by
 refine scall_of ttOk (by kernel_rfl : Try.prog.funcs[51]? = some Try.f51) rfl rfl rfl ?_
 try simp only [List.length_cons, List.length_nil, Nat.zero_add, Nat.reduceAdd]
 refine sw_ok ttOk mixed (by kernel_rfl) ?_
 conv => whnf
 by_cases hn1 : n < 1
 ·
  have e1 : decide (n < 1) = true := by simp; omega
  repeat (first | (refine brT rfl ?_; conv => whnf) | (refine gdF e1 ?_; conv => whnf) | (refine pkT e1 ?_; conv => whnf) | fail)
  refine ⟨[0, 1], ?_, rfl, rfl, ?_, rfl⟩
  ·
   (repeat' (first | (refine wk_tup ?_) | (refine wk_cons ?_ ?_))) <;> first | rfl | fail
  ·
   (repeat' (first | exact trivial | refine And.intro ?_ ?_ | fail)) <;> first | exact ren_eq (by first | (simp; done) | fail) (by first | rfl | fail) | fail
 ·
  have e1 : decide (n < 1) = false := by simp; omega
  have e2 : decide (n > w64 (255 * (Z : Int))) = true := by
   have : w64 (255 * (Z : Int)) = ((255 * Z : Nat) : Int) := by simp only [w64_eq]; omega
   rw [this]; simp; omega
  repeat (first | (refine gdT e1 ?_; conv => whnf) | fail)
  refine ok1_callF [] [] true (q) rfl rfl ⟨⟨rfl, by first | rfl | fail⟩, trivial, by first | rfl | fail, by first | rfl | fail, ?_⟩
  conv => whnf
  repeat (first | (refine gdT e1 ?_; conv => whnf) | (refine pkF e1 ?_; conv => whnf) | (refine gdT e2 ?_; conv => whnf) | fail)
  refine ⟨[0, 1], ?_, rfl, rfl, ?_, rfl⟩
  ·
   (repeat' (first | (refine wk_tup ?_) | (refine wk_cons ?_ ?_))) <;> first | rfl | fail
  ·
   (repeat' (first | exact trivial | refine And.intro ?_ ?_ | fail)) <;> first | exact ren_eq (by first | (simp; done) | fail) (by first | rfl | fail) | fail
theorem f51_en (h : UInt8) (Z : Nat) (hZ : Z < 1000) (q : SCall Try.prog 98 [.u8 h] [] (.i (Z : Int)) []) (K : List UInt8) (n : Int) (hbad : n < 1 ∨ n > ((255 * Z : Nat) : Int)) (fk : Bool) : SCall Try.prog 51 [.u8 h, .sl 0 0 K.length 1 fk, .slnil, .i n] [some (.ro (K.map .u8))] (.tup [.slnil, .i 2]) [some (.ro (K.map .u8))] := by
 refine scall_of ttOk (by kernel_rfl : Try.prog.funcs[51]? = some Try.f51) rfl rfl rfl ?_
 try simp only [List.length_cons, List.length_nil, Nat.zero_add, Nat.reduceAdd]
 refine sw_ok ttOk mixed (by kernel_rfl) ?_
 conv => whnf
 by_cases hn1 : n < 1
 ·
  have e1 : decide (n < 1) = true := by simp; omega
  repeat (first | (refine brT rfl ?_; conv => whnf) | (refine gdF e1 ?_; conv => whnf) | (refine pkT e1 ?_; conv => whnf) | fail)
  refine ⟨[0], ?_, rfl, rfl, ?_, rfl⟩
  ·
   (repeat' (first | (refine wk_tup ?_) | (refine wk_cons ?_ ?_))) <;> first | rfl | fail
  ·
   (repeat' (first | exact trivial | refine And.intro ?_ ?_ | fail)) <;> first | exact ren_eq (by first | (simp; done) | fail) (by first | rfl | fail) | fail
 ·
  have e1 : decide (n < 1) = false := by simp; omega
  have e2 : decide (n > w64 (255 * (Z : Int))) = true := by
   have : w64 (255 * (Z : Int)) = ((255 * Z : Nat) : Int) := by simp only [w64_eq]; omega
   rw [this]; simp; omega
  repeat (first | (refine gdT e1 ?_; conv => whnf) | fail)
  refine ok1_callF [] [] true (q) rfl rfl ⟨⟨rfl, by first | rfl | fail⟩, trivial, by first | rfl | fail, by first | rfl | fail, ?_⟩
  conv => whnf
  repeat (first | (refine gdT e1 ?_; conv => whnf) | (refine pkF e1 ?_; conv => whnf) | (refine gdT e2 ?_; conv => whnf) | fail)
  refine ⟨[0], ?_, rfl, rfl, ?_, rfl⟩
  ·
   (repeat' (first | (refine wk_tup ?_) | (refine wk_cons ?_ ?_))) <;> first | rfl | fail
  ·
   (repeat' (first | exact trivial | refine And.intro ?_ ?_ | fail)) <;> first | exact ren_eq (by first | (simp; done) | fail) (by first | rfl | fail) | fail
end Go.Sh
namespace Go.Sh
open Go.Proofs
set_option maxHeartbeats 4000000
theorem like20 : likeL 11 20 = List.replicate 20 11 := by decide
theorem like22 : likeL 11 22 = List.replicate 22 11 := by decide
theorem rise13 : riseL 0 13 = [0, 1, 2, 3, 4, 5, 6, 7, 8, 9, 10, 11, 12] := by decide
theorem rise10 : riseL 240 10 = [240, 241, 242, 243, 244, 245, 246, 247, 248, 249] := by decide
theorem known2 : ∃ l : List UInt8, mac_w (likeL 11 20) [72, 105, 32, 84, 104, 101, 114, 101] = [135, 170, 124, 222, 165, 239, 97, 157] ++ l ∧ l.length = 56 := by
 refine ⟨(mac_w (likeL 11 20) [72, 105, 32, 84, 104, 101, 114, 101]).drop 8, ?_, ?_⟩
 ·
  rw [← kn_2, like20, List.take_append_drop]
 ·
  rw [List.length_drop, mac_len_w]
theorem known4 : ∃ l : List UInt8, exO_n rowP (riseL 240 10) 2 = rowX ++ l ∧ l.length = 22 := by
 refine ⟨(exO_n rowP (riseL 240 10) 2).drop 42, ?_, ?_⟩
 ·
  rw [← kn_4, rise10, List.take_append_drop]
 ·
  rw [List.length_drop, exO_len_n]
attribute [local irreducible] mac_n mac_w exO_n
theorem f45 : SCall Try.prog 45 [] [] (.b true) [] := by
 have l1 := f93 11 20 (by decide)
 have l2 := f93 11 22 (by decide)
 have l3 := f94 0 13 (by decide)
 have l4 := f94 240 10 (by decide)
 have q1 := f49_n_bb (likeL 11 20) (by rw [likeL_len]; decide) [72, 105, 32] [84, 104, 101, 114, 101] (by decide) (by decide) false true true true
 rw [likeL_len, like20, kn_1] at q1
 have q2 := f49_w_b (likeL 11 20) (by rw [likeL_len]; decide) [72, 105, 32, 84, 104, 101, 114, 101] (by decide) false true true
 obtain ⟨B2, hB, hB2⟩ := known2
 rw [hB, likeL_len, like20] at q2
 have q3 := f50_n (riseL 0 13) (likeL 11 22) (by rw [riseL_len]; decide) (by rw [likeL_len]; decide) false false
 rw [riseL_len, likeL_len, rise13, like22, kn_3] at q3
 have q4 := f51_n rowP (riseL 240 10) (by decide) (by rw [riseL_len]; decide) 42 (by decide) (by decide) true false
 rw [riseL_len] at q4
 rw [like20] at l1
 rw [like22] at l2
 rw [rise13] at l3
 rw [rise10] at l4
 obtain ⟨X2, hX, hX2⟩ := known4
 rw [hX, rise10] at q4
 have q5 := f51_en 3 0 (by decide) (f98_o 3 (by decide) (by decide)) rowM 1 (.inr (by decide)) true
 have q6 := f49_o 0 (by decide) (by decide) rowM true
 have q7 := f53 rowM rowM (by decide) (by decide) true true
 have q8 := (f53 rowM (rowM.drop 1) (by decide) (by decide) true true).sub 1 1 (rowM.map .u8) ((rowM.drop 1).map .u8) 3 rfl rfl (by rfl) (by rfl) (by rfl) (by decide) ⟨.inr ⟨rfl, rfl⟩, .inl rfl, trivial⟩ rfl ⟨.inr (.inl (by rfl)), .inl rfl, trivial⟩ ⟨.inr (.inl (by rfl)), .inl rfl, trivial⟩
 rw [show decide (rowM = rowM) = true from by simp] at q7
 rw [show decide (rowM = rowM.drop 1) = false from by decide] at q8
 refine scall_of ttOk (by kernel_rfl : Try.prog.funcs[45]? = some Try.f45) rfl rfl rfl ?_
 try simp only [List.length_cons, List.length_nil, Nat.zero_add, Nat.reduceAdd]
 refine swxs_ok (J := [1, 2]) ttOk mixed (by kernel_rfl) ?_
 conv => whnf
 repeat (fail)
 refine swp_sops rfl ?_
 refine sops_pre (pre := [_]) ttOk (by kernel_rfl) ?_
 conv => whnf
 refine ok1_callF [] [true] false (l1) rfl rfl ⟨⟨rfl, by first | rfl | fail⟩, trivial, by first | rfl | fail, by first | rfl | fail, ?_⟩
 conv => whnf
 refine sops_lit (n := 3) (el := 5) (sz := 1) (z := .u8 0) (xs := [(0, .u8 72), (1, .u8 105), (2, .u8 32)]) (l := [.u8 72, .u8 105, .u8 32]) (by kernel_rfl) rfl rfl rfl rfl rfl rfl rfl (by kernel_rfl) (by kernel_rfl) (by kernel_rfl) (by kernel_rfl) rfl (by decide) rfl ?_
 refine sops_lit (n := 5) (el := 5) (sz := 1) (z := .u8 0) (xs := [(0, .u8 84), (1, .u8 104), (2, .u8 101), (3, .u8 114), (4, .u8 101)]) (l := [.u8 84, .u8 104, .u8 101, .u8 114, .u8 101]) (by kernel_rfl) rfl rfl rfl rfl rfl rfl rfl (by kernel_rfl) (by kernel_rfl) (by kernel_rfl) (by kernel_rfl) rfl (by decide) rfl ?_
 refine sops_end ttOk (by kernel_rfl) ?_
 conv => whnf
 repeat (first | (refine Exists.intro _ (And.intro rfl ?_); conv => whnf) | fail)
 refine ok1_callF [0, 3, 1, 2] [false, false, false, false, true] false (q1) rfl rfl ⟨⟨rfl, by first | rfl | fail⟩, by (repeat' (first | exact trivial | refine And.intro ?_ ?_)) <;> first | rfl | fail, by first | rfl | fail, by first | rfl | fail, ?_⟩
 conv => whnf
 repeat (fail)
 refine swp_sops rfl ?_
 refine sops_pre (pre := [_]) ttOk (by kernel_rfl) ?_
 conv => whnf
 refine ok1_callF [] [true] false (l1) rfl rfl ⟨⟨rfl, by first | rfl | fail⟩, trivial, by first | rfl | fail, by first | rfl | fail, ?_⟩
 conv => whnf
 refine sops_lit (n := 8) (el := 5) (sz := 1) (z := .u8 0) (xs := [(0, .u8 72), (1, .u8 105), (2, .u8 32), (3, .u8 84), (4, .u8 104), (5, .u8 101), (6, .u8 114), (7, .u8 101)]) (l := [.u8 72, .u8 105, .u8 32, .u8 84, .u8 104, .u8 101, .u8 114, .u8 101]) (by kernel_rfl) rfl rfl rfl rfl rfl rfl rfl (by kernel_rfl) (by kernel_rfl) (by kernel_rfl) (by kernel_rfl) rfl (by decide) rfl ?_
 refine sops_end ttOk (by kernel_rfl) ?_
 conv => whnf
 repeat (first | (refine Exists.intro _ (And.intro rfl ?_); conv => whnf) | fail)
 refine ok1_callF [5, 7, 6] [false, false, false, true] false (q2) rfl rfl ⟨⟨rfl, by first | rfl | fail⟩, by (repeat' (first | exact trivial | refine And.intro ?_ ?_)) <;> first | rfl | fail, by first | simp [plainHf, plainB], by first | rfl | fail, ?_⟩
 conv => whnf
 repeat (fail)
 refine ok1_callF [] [true] false (l3) rfl rfl ⟨⟨rfl, by first | rfl | fail⟩, trivial, by first | rfl | fail, by first | rfl | fail, ?_⟩
 conv => whnf
 repeat (fail)
 refine ok1_callF [] [true] false (l2) rfl rfl ⟨⟨rfl, by first | rfl | fail⟩, trivial, by first | rfl | fail, by first | rfl | fail, ?_⟩
 conv => whnf
 repeat (fail)
 refine ok1_callF [9, 10] [false, false, true] false (q3) rfl rfl ⟨⟨rfl, by first | rfl | fail⟩, by (repeat' (first | exact trivial | refine And.intro ?_ ?_)) <;> first | rfl | fail, by first | rfl | fail, by first | rfl | fail, ?_⟩
 conv => whnf
 repeat (fail)
 refine ok1_callF [] [true] false (l4) rfl rfl ⟨⟨rfl, by first | rfl | fail⟩, trivial, by first | rfl | fail, by first | rfl | fail, ?_⟩
 conv => whnf
 repeat (fail)
 refine ok1_callF [11, 12] [false, false, true] false (q4) rfl rfl ⟨⟨rfl, by first | rfl | fail⟩, by (repeat' (first | exact trivial | refine And.intro ?_ ?_)) <;> first | rfl | fail, by first | simp [plainHf, plainB], by first | rfl | fail, ?_⟩
 conv => whnf
 repeat (fail)
 refine ok1_callF [4] [false] false (q5) rfl rfl ⟨⟨rfl, by first | rfl | fail⟩, by (repeat' (first | exact trivial | refine And.intro ?_ ?_)) <;> first | rfl | fail, by first | rfl | fail, by first | rfl | fail, ?_⟩
 conv => whnf
 repeat (first | (refine Exists.intro _ (And.intro (bytesOf_cut rfl) ?_); conv => whnf) | (refine brT rfl ?_; conv => whnf) | (refine Exists.intro _ (And.intro rfl ?_); conv => whnf) | (refine And.intro (by first | omega | (simp; done) | fail) ?_; conv => whnf) | (refine And.intro (Nat.le_of_ble_eq_true rfl) ?_; conv => whnf) | fail)
 refine ok1_callF [4] [false] false (q6) rfl rfl ⟨⟨rfl, by first | rfl | fail⟩, by (repeat' (first | exact trivial | refine And.intro ?_ ?_)) <;> first | rfl | fail, by first | rfl | fail, by first | rfl | fail, ?_⟩
 conv => whnf
 repeat (first | (refine brT rfl ?_; conv => whnf) | (refine Exists.intro _ (And.intro rfl ?_); conv => whnf) | fail)
 refine ok1_callF [4, 4] [false, false] true (q7) rfl rfl ⟨⟨rfl, by first | rfl | fail⟩, by (repeat' (first | exact trivial | refine And.intro ?_ ?_)) <;> first | rfl | fail, by first | rfl | fail, by first | rfl | fail, ?_⟩
 conv => whnf
 repeat (first | (refine brT rfl ?_; conv => whnf) | (refine Exists.intro _ (And.intro rfl ?_); conv => whnf) | (refine And.intro (by first | omega | fail) ?_; conv => whnf) | fail)
 refine ok1_callF [4, 4] [false, false] true (q8) rfl rfl ⟨⟨rfl, by first | rfl | fail⟩, by (repeat' (first | exact trivial | refine And.intro ?_ ?_)) <;> first | rfl | fail, by first | rfl | fail, by first | rfl | fail, ?_⟩
 conv => whnf
 repeat (first | (refine brT rfl ?_; conv => whnf) | (refine Exists.intro _ (And.intro rfl ?_); conv => whnf) | fail)
 refine ⟨[], ?_, rfl, rfl, ?_, rfl⟩
 ·
  (repeat' (fail)) <;> first | rfl | fail
 ·
  (repeat' (first | exact trivial | fail)) <;> fail
end Go.Sh
namespace Go.Sh
open Go.Proofs
set_option maxHeartbeats 4000000
theorem rcatJ {E b : List UInt8} {n m : Nat} (hn : n = E.length) (hm : m = b.length) : (E ++ b).map SV.u8 = List.take (n * 1) (List.drop 0 (E.map SV.u8)) ++ List.take (m * 1) (List.drop 0 (b.map SV.u8)) := by
 subst hn; subst hm
 rw [Nat.mul_one, Nat.mul_one, List.drop_zero, List.drop_zero, List.take_of_length_le (l := b.map SV.u8) (by rw [List.length_map]; exact Nat.le_refl _), List.take_of_length_le (l := E.map SV.u8) (by rw [List.length_map]; exact Nat.le_refl _), List.map_append]
attribute [local irreducible] pTx
theorem f47 (ps : List Part) (hn : ps.length < 1000000) (hT : (pTx ps ps.length).length < 10000000000000) (fl : Bool) : SCall Try.prog 47 [.sl 0 0 ps.length 1 fl] [some (.ro (ps.map pLit)), some (.ext (.fam (ps.map pFe)))] (.sl 2 0 (pTx ps ps.length).length 1 false) [some (.ro (ps.map pLit)), some (.ext (.fam (ps.map pFe))), some (.row 5 ((pTx ps ps.length).map .u8))] := by
 refine scall_of ttOk (by kernel_rfl : Try.prog.funcs[47]? = some Try.f47) rfl rfl rfl ?_
 try simp only [List.length_cons, List.length_nil, Nat.zero_add, Nat.reduceAdd]
 refine sw_ok ttOk mixed (by kernel_rfl) ?_
 conv => whnf
 repeat (fail)
 refine SWp.weak (Weak.virt 3 5 1 rfl) ?_
 refine loop_rulex [5] ttOk mixed (by kernel_rfl) (ι := { i : Nat // i ≤ ps.length }) (fun i => [(0, .sl 0 0 ps.length 1 fl), (3, .sl 2 0 (pTx ps i.1).length 1 false), (4, .i (i.1 : Int))]) (fun i => [some (.ro (ps.map pLit)), some (.ext (.fam (ps.map pFe))), some (.row 5 ((pTx ps i.1).map .u8))]) (fun _ => 3) (fun i => ps.length - i.1) ⟨0, by omega⟩ ?_ ?_
 ·
  have hz := pTx_z ps
  dsimp only
  rw [hz]
  refine Weak.sel [0, 1, 2] rfl rfl ?_ ?_ rfl rfl
  ·
   (repeat' (first | exact trivial | refine And.intro ?_ ?_ | fail)) <;> first | rfl | fail
  ·
   (repeat' (first | exact trivial | refine And.intro ?_ ?_ | fail)) <;> first | rfl | exact ren_eq (by first | (simp; done) | fail) (by first | rfl | fail) | fail
 ·
  rintro ⟨i, hi⟩
  dsimp only
  have hle := pTx_le ps i
  by_cases hi2 : i < ps.length
  ·
   obtain ⟨p, hp⟩ : ∃ p, ps[i]? = some p := ⟨_, List.getElem?_eq_getElem hi2⟩
   have hld := sload_lit hp
   have hmem : pFe p ∈ ps.map pFe := List.mem_map_of_mem (List.mem_of_getElem? hp)
   have htxs := pTx_s hp
   have hle1 := pTx_le ps (i + 1)
   have hlt : decide ((i : Int) < (ps.length : Int)) = true := by simp; omega
   have hp1 : w64 ((i : Int) + 1) = ((i + 1 : Nat) : Int) := by simp only [w64_eq]; omega
   obtain ⟨pv, prb, b⟩ := p
   dsimp only at htxs
   obtain ⟨Y, hY⟩ : ∃ Y, Y = pTx ps i := ⟨_, rfl⟩
   rw [← hY] at htxs hle ⊢
   have hl : (pTx ps (i + 1)).length = Y.length + b.length := by rw [htxs, List.length_append]
   have hap := rcatJ (E := Y) (b := b) rfl rfl
   conv => whnf
   first | refine brT (by exact hlt) ?_ | fail
   conv => whnf
   refine swp_sops rfl ?_
   refine sops_pre (pre := [_, _, _, _, _]) ttOk (by kernel_rfl) ?_
   conv => whnf
   repeat (first | (refine Exists.intro _ (And.intro (hld) ?_); conv => whnf) | (refine Exists.intro _ (And.intro rfl ?_); conv => whnf) | (refine And.intro (by first | omega | fail) ?_; conv => whnf) | fail)
   refine sops_p 15 1 rfl hmem rfl ?_
   refine sops_end ttOk (by kernel_rfl) ?_
   conv => whnf
   repeat (first | (refine And.intro (by first | omega | (simp [ti5]; omega)) ?_; conv => whnf) | fail)
   refine ⟨⟨i + 1, by omega⟩, by simp only; omega, ?_⟩
   dsimp only
   rw [hl, htxs]
   refine Weak.sel [0, 1, 4] rfl rfl ?_ ?_ rfl rfl
   ·
    (repeat' (first | exact trivial | refine And.intro ?_ ?_ | fail)) <;> first | exact wk_i (by first | exact hp1 | exact hp1.symm | fail) | rfl | fail
   ·
    (repeat' (first | exact trivial | exact ren_eq (plainL_u8 _) hap | refine And.intro ?_ ?_ | fail)) <;> first | rfl | exact ren_eq (by first | (simp; done) | fail) (by first | rfl | fail) | fail
  ·
   obtain rfl : i = ps.length := by omega
   have hlt : decide ((ps.length : Int) < (ps.length : Int)) = false := by simp
   conv => whnf
   first | refine brF (by exact hlt) ?_ | fail
   conv => whnf
   repeat (fail)
   refine ⟨[0, 1, 2], ?_, rfl, rfl, ?_, rfl⟩
   ·
    (repeat' (fail)) <;> first | rfl | fail
   ·
    (repeat' (first | exact trivial | refine And.intro ?_ ?_ | fail)) <;> first | rfl | exact ren_eq (by first | (simp; done) | fail) (by first | rfl | fail) | fail
theorem f46 (ps : List Part) (hn : ps.length < 1000000000000000) (hT : ∀ p ∈ ps, p.2.2.length < 1000000000000000) (most : Nat) (hm : most < 1000000) (fl : Bool) : SCall Try.prog 46 [.sl 0 0 ps.length 1 fl, .i (most : Int)] [some (.ro (ps.map pLit)), some (.ext (.fam (ps.map pFe)))] (.b (decide (((ps.length + (pTx ps ps.length).length : Nat) : Int) > (most : Int)))) [some (.ro (ps.map pLit)), some (.ext (.fam (ps.map pFe)))] := by
 refine scall_of ttOk (by kernel_rfl : Try.prog.funcs[46]? = some Try.f46) rfl rfl rfl ?_
 try simp only [List.length_cons, List.length_nil, Nat.zero_add, Nat.reduceAdd]
 refine sw_ok ttOk mixed (by kernel_rfl) ?_
 conv => whnf
 repeat (fail)
 refine loop_rulex [5] ttOk mixed (by kernel_rfl) (ι := { i : Nat // i ≤ ps.length }) (fun i => [(0, .sl 0 0 ps.length 1 fl), (1, .i (most : Int)), (5, .i ((ps.length + (pTx ps i.1).length : Nat) : Int)), (6, .i (i.1 : Int))]) (fun i => [some (.ro (ps.map pLit)), some (.ext (.fam (ps.map pFe)))]) (fun _ => 2) (fun i => ps.length - i.1) ⟨0, by omega⟩ ?_ ?_
 ·
  have hz : ps.length + (pTx ps 0).length = ps.length := by rw [pTx_z]; rfl
  dsimp only
  rw [hz]
  refine Weak.sel [0, 1] rfl rfl ?_ ?_ rfl rfl
  ·
   (repeat' (first | exact trivial | refine And.intro ?_ ?_ | fail)) <;> first | rfl | fail
  ·
   (repeat' (first | exact trivial | refine And.intro ?_ ?_ | fail)) <;> first | rfl | exact ren_eq (by first | (simp; done) | fail) (by first | rfl | fail) | fail
 ·
  rintro ⟨i, hi⟩
  dsimp only
  have hle := pTx_le ps i
  obtain ⟨y, hy⟩ : ∃ y, y = (pTx ps i).length := ⟨_, rfl⟩
  rw [← hy] at hle ⊢
  by_cases hi2 : i < ps.length
  ·
   have hlt : decide ((i : Int) < (ps.length : Int)) = true := by simp; omega
   by_cases hmo : ps.length + y ≤ most
   ·
    have hle2 : decide (((ps.length + y : Nat) : Int) ≤ (most : Int)) = true := by simp; omega
    obtain ⟨p, hp⟩ : ∃ p, ps[i]? = some p := ⟨_, List.getElem?_eq_getElem hi2⟩
    have hld := sload_lit hp
    have hmem : pFe p ∈ ps.map pFe := List.mem_map_of_mem (List.mem_of_getElem? hp)
    have htxs := pTx_s hp
    have hle1 := pTx_le ps (i + 1)
    have hp1 : w64 ((i : Int) + 1) = ((i + 1 : Nat) : Int) := by simp only [w64_eq]; omega
    have hbl := hT p (List.mem_of_getElem? hp)
    obtain ⟨pv, prb, b⟩ := p
    dsimp only at htxs hbl
    have hl : (pTx ps (i + 1)).length = y + b.length := by rw [htxs, List.length_append, hy]
    have hp2 : w64 (((ps.length + y : Nat) : Int) + (b.length : Int)) = ((ps.length + (y + b.length) : Nat) : Int) := by simp only [w64_eq]; omega
    conv => whnf
    repeat (first | (refine gdT hlt ?_; conv => whnf) | (refine pkT hlt ?_; conv => whnf) | (refine gdT hle2 ?_; conv => whnf) | fail)
    refine swp_sops rfl ?_
    refine sops_pre (pre := [_, _, _, _, _]) ttOk (by kernel_rfl) ?_
    conv => whnf
    repeat (first | (refine Exists.intro _ (And.intro (hld) ?_); conv => whnf) | (refine Exists.intro _ (And.intro rfl ?_); conv => whnf) | (refine And.intro (by first | omega | fail) ?_; conv => whnf) | fail)
    refine sops_p 24 1 rfl hmem rfl ?_
    refine sops_end ttOk (by kernel_rfl) ?_
    conv => whnf
    repeat (fail)
    refine ⟨⟨i + 1, by omega⟩, by simp only; omega, ?_⟩
    dsimp only
    rw [hl]
    refine Weak.sel [0, 1] rfl rfl ?_ ?_ rfl rfl
    ·
     (repeat' (first | exact trivial | refine And.intro ?_ ?_ | fail)) <;> first | exact wk_i (by first | exact hp1 | exact hp1.symm | exact hp2.symm | fail) | rfl | fail
    ·
     (repeat' (first | exact trivial | refine And.intro ?_ ?_ | fail)) <;> first | rfl | exact ren_eq (by first | (simp; done) | fail) (by first | rfl | fail) | fail
   ·
    have hle2 : decide (((ps.length + y : Nat) : Int) ≤ (most : Int)) = false := by simp; omega
    have hr : decide (((ps.length + (pTx ps ps.length).length : Nat) : Int) > (most : Int)) = decide (((ps.length + y : Nat) : Int) > (most : Int)) := by
     rw [decide_eq_true (by omega), decide_eq_true (by omega)]
    rw [hr]
    conv => whnf
    repeat (first | (refine gdT hlt ?_; conv => whnf) | (refine pkT hlt ?_; conv => whnf) | (refine gdF hle2 ?_; conv => whnf) | fail)
    refine ⟨[0, 1], ?_, rfl, rfl, ?_, rfl⟩
    ·
     (repeat' (fail)) <;> first | rfl | fail
    ·
     (repeat' (first | exact trivial | refine And.intro ?_ ?_ | fail)) <;> first | rfl | exact ren_eq (by first | (simp; done) | fail) (by first | rfl | fail) | fail
  ·
   obtain rfl : i = ps.length := by omega
   have hlt : decide ((ps.length : Int) < (ps.length : Int)) = false := by simp
   rw [← hy]
   conv => whnf
   repeat (first | (refine brF rfl ?_; conv => whnf) | (refine gdF hlt ?_; conv => whnf) | (refine pkF hlt ?_; conv => whnf) | fail)
   refine ⟨[0, 1], ?_, rfl, rfl, ?_, rfl⟩
   ·
    (repeat' (fail)) <;> first | rfl | fail
   ·
    (repeat' (first | exact trivial | refine And.intro ?_ ?_ | fail)) <;> first | rfl | exact ren_eq (by first | (simp; done) | fail) (by first | rfl | fail) | fail
end Go.Sh
namespace Go.Sh
open Go.Proofs
set_option maxHeartbeats 4000000
theorem f95_oh (h : UInt8) (h1 : h ≠ 1) (h2 : h ≠ 2) : SCall Try.prog 95 [.u8 h] [] (.i 0) [] := by
 have e1 : (h == UInt8.ofNat (Int.toNat 1)) = false := by simpa using h1
 have e2 : (h == UInt8.ofNat (Int.toNat 2)) = false := by simpa using h2
 refine scall_of ttOk (by kernel_rfl : Try.prog.funcs[95]? = some Try.f95) rfl rfl rfl ?_
 try simp only [List.length_cons, List.length_nil, Nat.zero_add, Nat.reduceAdd]
 refine sw_ok ttOk mixed (by kernel_rfl) ?_
 conv => whnf
 repeat (fail)
 first | refine brF (by exact e1) ?_ | fail
 conv => whnf
 repeat (fail)
 first | refine brF (by exact e2) ?_ | fail
 conv => whnf
 repeat (fail)
 refine ⟨[], ?_, rfl, rfl, ?_, rfl⟩
 ·
  (repeat' (fail)) <;> first | rfl | fail
 ·
  (repeat' (first | exact trivial | fail)) <;> fail
theorem f49_oh (h : UInt8) (h1 : h ≠ 1) (h2 : h ≠ 2) (K : List UInt8) (ps : List Part) (fk fl : Bool) : SCall Try.prog 49 [.u8 h, .sl 0 0 K.length 1 fk, .sl 1 0 ps.length 1 fl] [some (.ro (K.map .u8)), some (.ro (ps.map pLit)), some (.ext (.fam (ps.map pFe)))] .slnil [some (.ro (K.map .u8)), some (.ro (ps.map pLit)), some (.ext (.fam (ps.map pFe)))] := by
 refine scall_of ttOk (by kernel_rfl : Try.prog.funcs[49]? = some Try.f49) rfl rfl rfl ?_
 try simp only [List.length_cons, List.length_nil, Nat.zero_add, Nat.reduceAdd]
 refine sw_ok ttOk mixed (by kernel_rfl) ?_
 conv => whnf
 repeat (fail)
 refine ok1_callF [] [] true ((f98_o h h1 h2)) rfl rfl ⟨⟨rfl, by first | rfl | fail⟩, trivial, by first | rfl | fail, by first | rfl | fail, ?_⟩
 conv => whnf
 repeat (first | (refine brT rfl ?_; conv => whnf) | fail)
 refine ⟨[0, 1, 2], ?_, rfl, rfl, ?_, rfl⟩
 ·
  (repeat' (fail)) <;> first | rfl | fail
 ·
  (repeat' (first | exact trivial | refine And.intro ?_ ?_ | fail)) <;> first | rfl | exact ren_eq (by first | (simp; done) | fail) (by first | rfl | fail) | fail
theorem f49_ob (h : UInt8) (h1 : h ≠ 1) (h2 : h ≠ 2) (K T : List UInt8) (fk f0 fl : Bool) : SCall Try.prog 49 [.u8 h, .sl 0 0 K.length 1 fk, .sl 1 0 1 1 fl] [some (.ro (K.map .u8)), some (.ro [.sl 2 0 T.length 1 f0]), some (.ro (T.map .u8))] .slnil [some (.ro (K.map .u8)), some (.ro [.sl 2 0 T.length 1 f0]), some (.ro (T.map .u8))] := by
 refine scall_of ttOk (by kernel_rfl : Try.prog.funcs[49]? = some Try.f49) rfl rfl rfl ?_
 try simp only [List.length_cons, List.length_nil, Nat.zero_add, Nat.reduceAdd]
 refine sw_ok ttOk mixed (by kernel_rfl) ?_
 conv => whnf
 repeat (fail)
 refine ok1_callF [] [] true ((f98_o h h1 h2)) rfl rfl ⟨⟨rfl, by first | rfl | fail⟩, trivial, by first | rfl | fail, by first | rfl | fail, ?_⟩
 conv => whnf
 repeat (first | (refine brT rfl ?_; conv => whnf) | fail)
 refine ⟨[0, 1, 2], ?_, rfl, rfl, ?_, rfl⟩
 ·
  (repeat' (fail)) <;> first | rfl | fail
 ·
  (repeat' (first | exact trivial | refine And.intro ?_ ?_ | (refine wk_cons ?_ ?_))) <;> first | rfl | exact ren_eq (by first | (simp; done) | fail) (by first | rfl | fail) | fail
theorem f50_o (h : UInt8) (h1 : h ≠ 1) (h2 : h ≠ 2) (K T : List UInt8) (fk ft : Bool) : SCall Try.prog 50 [.u8 h, .sl 0 0 K.length 1 fk, .sl 1 0 T.length 1 ft] [some (.ro (K.map .u8)), some (.ro (T.map .u8))] .slnil [some (.ro (K.map .u8)), some (.ro (T.map .u8))] := by
 have q := f49_ob h h1 h2 K T fk ft true
 refine scall_of ttOk (by kernel_rfl : Try.prog.funcs[50]? = some Try.f50) rfl rfl rfl ?_
 try simp only [List.length_cons, List.length_nil, Nat.zero_add, Nat.reduceAdd]
 refine sw_ok ttOk mixed (by kernel_rfl) ?_
 conv => whnf
 repeat (first | (refine Exists.intro _ (And.intro rfl ?_); conv => whnf) | fail)
 refine ok1_callF [0, 2, 1] [false, false, false] false (q) rfl rfl ⟨⟨rfl, by first | rfl | fail⟩, by (repeat' (first | exact trivial | refine And.intro ?_ ?_)) <;> first | rfl | exact ren_eq (by first | (simp; done) | fail) (by first | rfl | fail) | fail, by first | rfl | fail, by first | rfl | fail, ?_⟩
 conv => whnf
 repeat (fail)
 refine ⟨[0, 1], ?_, rfl, rfl, ?_, rfl⟩
 ·
  (repeat' (fail)) <;> first | rfl | fail
 ·
  (repeat' (first | exact trivial | refine And.intro ?_ ?_ | fail)) <;> first | exact ren_eq (by first | (simp; done) | fail) (by first | rfl | fail) | fail
theorem f48_o (h : UInt8) (h1 : h ≠ 1) (h2 : h ≠ 2) (K T : List UInt8) (fk ft : Bool) : SCall Try.prog 48 [.u8 h, .sl 0 0 K.length 1 fk, .sl 1 0 T.length 1 ft] [some (.ro (K.map .u8)), some (.ro (T.map .u8))] .slnil [some (.ro (K.map .u8)), some (.ro (T.map .u8))] := by
 have q := f95_oh h h1 h2
 refine scall_of ttOk (by kernel_rfl : Try.prog.funcs[48]? = some Try.f48) rfl rfl rfl ?_
 try simp only [List.length_cons, List.length_nil, Nat.zero_add, Nat.reduceAdd]
 refine sw_ok ttOk mixed (by kernel_rfl) ?_
 conv => whnf
 repeat (fail)
 refine ok1_callF [] [] true (q) rfl rfl ⟨⟨rfl, by first | rfl | fail⟩, trivial, by first | rfl | fail, by first | rfl | fail, ?_⟩
 conv => whnf
 repeat (first | (refine brT rfl ?_; conv => whnf) | fail)
 refine ⟨[0, 1], ?_, rfl, rfl, ?_, rfl⟩
 ·
  (repeat' (fail)) <;> first | rfl | fail
 ·
  (repeat' (first | exact trivial | refine And.intro ?_ ?_ | fail)) <;> first | exact ren_eq (by first | (simp; done) | fail) (by first | rfl | fail) | fail
theorem f9x (h : UInt8) (K : List UInt8) (ps : List Part) (hn : ps.length < 1000000000000000) (hT : ∀ p ∈ ps, p.2.2.length < 1000000000000000) (hx : 1500 < K.length ∨ 1500 < ps.length + (pTx ps ps.length).length) : SCall Try.prog 9 [.u8 h, .sl 0 0 K.length 1 false, .sl 1 0 ps.length 1 false] [some (.ro (K.map .u8)), some (.ro (ps.map pLit)), some (.ext (.fam (ps.map pFe)))] (.b true) [some (.ro (K.map .u8)), some (.ro (ps.map pLit)), some (.ext (.fam (ps.map pFe)))] := by
 have q := f46 ps hn hT 1500 (by decide) false
 refine scall_of ttOk (by kernel_rfl : Try.prog.funcs[9]? = some Try.f9) rfl rfl rfl ?_
 try simp only [List.length_cons, List.length_nil, Nat.zero_add, Nat.reduceAdd]
 refine sw_ok ttOk mixed (by kernel_rfl) ?_
 conv => whnf
 repeat (fail)
 refine ok1_callF [] [] true (f45) rfl rfl ⟨⟨rfl, by first | rfl | fail⟩, trivial, by first | rfl | fail, by first | rfl | fail, ?_⟩
 conv => whnf
 by_cases c1 : 1500 < K.length
 ·
  have e1 : decide ((K.length : Int) > 1500) = true := by simp; omega
  repeat (first | (refine brT rfl ?_; conv => whnf) | (refine brF rfl ?_; conv => whnf) | (refine gdF e1 ?_; conv => whnf) | (refine pkT e1 ?_; conv => whnf) | fail)
  refine ⟨[0, 1, 2], ?_, rfl, rfl, ?_, rfl⟩
  ·
   (repeat' (fail)) <;> first | rfl | fail
  ·
   (repeat' (first | exact trivial | refine And.intro ?_ ?_ | fail)) <;> first | rfl | exact ren_eq (by first | (simp; done) | fail) (by first | rfl | fail) | fail
 have e1 : decide ((K.length : Int) > 1500) = false := by simp; omega
 rw [show decide (((ps.length + (pTx ps ps.length).length : Nat) : Int) > ((1500 : Nat) : Int)) = true from by simp; omega] at q
 repeat (first | (refine brF rfl ?_; conv => whnf) | (refine gdT e1 ?_; conv => whnf) | fail)
 refine ok1_callF [1, 2] [false, false] true (q) rfl rfl ⟨⟨rfl, by first | rfl | fail⟩, by (repeat' (first | exact trivial | refine And.intro ?_ ?_)) <;> first | rfl | exact ren_eq (by first | (simp; done) | fail) (by first | rfl | fail) | fail, by first | rfl | fail, by first | rfl | fail, ?_⟩
 conv => whnf
 repeat (first | (refine brT rfl ?_; conv => whnf) | (refine pkF e1 ?_; conv => whnf) | fail)
 refine ⟨[0, 1, 2], ?_, rfl, rfl, ?_, rfl⟩
 ·
  (repeat' (fail)) <;> first | rfl | fail
 ·
  (repeat' (first | exact trivial | refine And.intro ?_ ?_ | fail)) <;> first | rfl | exact ren_eq (by first | (simp; done) | fail) (by first | rfl | fail) | fail
attribute [local irreducible] mac_n mac_w pTx
theorem f9_o (h : UInt8) (h1 : h ≠ 1) (h2 : h ≠ 2) (K : List UInt8) (ps : List Part) (hK : K.length ≤ 1500) (hps : ps.length + (pTx ps ps.length).length ≤ 1500) (hT : ∀ p ∈ ps, p.2.2.length < 1000000000000000) : SCall Try.prog 9 [.u8 h, .sl 0 0 K.length 1 false, .sl 1 0 ps.length 1 false] [some (.ro (K.map .u8)), some (.ro (ps.map pLit)), some (.ext (.fam (ps.map pFe)))] (.b true) [some (.ro (K.map .u8)), some (.ro (ps.map pLit)), some (.ext (.fam (ps.map pFe)))] := by
 have q := f46 ps (by omega) hT 1500 (by decide) false
 rw [show decide (((ps.length + (pTx ps ps.length).length : Nat) : Int) > ((1500 : Nat) : Int)) = false from by simp; omega] at q
 have e1 : decide ((K.length : Int) > 1500) = false := by simp; omega
 have q1 := f47 ps (by omega) (by omega) false
 obtain ⟨T, hT2⟩ : ∃ T, T = pTx ps ps.length := ⟨_, rfl⟩
 rw [← hT2] at q1
 have q2 := f48_o h h1 h2 K T false false
 have q3 := f49_oh h h1 h2 K ps false false
 have q4 := f50_o h h1 h2 K T false false
 refine scall_of ttOk (by kernel_rfl : Try.prog.funcs[9]? = some Try.f9) rfl rfl rfl ?_
 try simp only [List.length_cons, List.length_nil, Nat.zero_add, Nat.reduceAdd]
 refine sw_ok ttOk mixed (by kernel_rfl) ?_
 conv => whnf
 repeat (fail)
 refine ok1_callF [] [] true (f45) rfl rfl ⟨⟨rfl, by first | rfl | fail⟩, trivial, by first | rfl | fail, by first | rfl | fail, ?_⟩
 conv => whnf
 repeat (first | (refine brF rfl ?_; conv => whnf) | (refine gdT e1 ?_; conv => whnf) | fail)
 refine ok1_callF [1, 2] [false, false] true (q) rfl rfl ⟨⟨rfl, by first | rfl | fail⟩, by (repeat' (first | exact trivial | refine And.intro ?_ ?_)) <;> first | rfl | exact ren_eq (by first | (simp; done) | fail) (by first | rfl | fail) | fail, by first | rfl | fail, by first | rfl | fail, ?_⟩
 conv => whnf
 repeat (first | (refine brF rfl ?_; conv => whnf) | (refine pkF e1 ?_; conv => whnf) | fail)
 refine ok1_callF [1, 2] [false, false, true] false (q1) rfl rfl ⟨⟨rfl, by first | rfl | fail⟩, by (repeat' (first | exact trivial | refine And.intro ?_ ?_)) <;> first | rfl | exact ren_eq (by first | (simp; done) | fail) (by first | rfl | fail) | fail, by first | simp [plainHf, plainB], by first | rfl | fail, ?_⟩
 conv => whnf
 repeat (fail)
 refine ok1_callF [0, 3] [false, false] false (q2) rfl rfl ⟨⟨rfl, by first | rfl | fail⟩, by (repeat' (first | exact trivial | refine And.intro ?_ ?_)) <;> first | exact ren_eq (by first | (simp; done) | fail) (by first | rfl | fail) | fail, by first | rfl | fail, by first | rfl | fail, ?_⟩
 conv => whnf
 repeat (fail)
 refine ok1_callF [0, 1, 2] [false, false, false] false (q3) rfl rfl ⟨⟨rfl, by first | rfl | fail⟩, by (repeat' (first | exact trivial | refine And.intro ?_ ?_)) <;> first | rfl | exact ren_eq (by first | (simp; done) | fail) (by first | rfl | fail) | fail, by first | rfl | fail, by first | rfl | fail, ?_⟩
 conv => whnf
 repeat (first | (refine brT rfl ?_; conv => whnf) | fail)
 refine ok1_callF [0, 3] [false, false] false (q4) rfl rfl ⟨⟨rfl, by first | rfl | fail⟩, by (repeat' (first | exact trivial | refine And.intro ?_ ?_)) <;> first | exact ren_eq (by first | (simp; done) | fail) (by first | rfl | fail) | fail, by first | rfl | fail, by first | rfl | fail, ?_⟩
 conv => whnf
 repeat (first | (refine brT rfl ?_; conv => whnf) | (refine Exists.intro _ (And.intro rfl ?_); conv => whnf) | fail)
 refine ⟨[0, 1, 2], ?_, rfl, rfl, ?_, rfl⟩
 ·
  (repeat' (fail)) <;> first | rfl | fail
 ·
  (repeat' (first | exact trivial | refine And.intro ?_ ?_ | fail)) <;> first | rfl | exact ren_eq (by first | (simp; done) | fail) (by first | rfl | fail) | fail
theorem f9_n (K : List UInt8) (ps : List Part) (hK : K.length ≤ 1500) (hps : ps.length + (pTx ps ps.length).length ≤ 1500) (hT : ∀ p ∈ ps, p.2.2.length < 1000000000000000) : SCall Try.prog 9 [.u8 1, .sl 0 0 K.length 1 false, .sl 1 0 ps.length 1 false] [some (.ro (K.map .u8)), some (.ro (ps.map pLit)), some (.ext (.fam (ps.map pFe)))] (.b true) [some (.ro (K.map .u8)), some (.ro (ps.map pLit)), some (.ext (.fam (ps.map pFe)))] := by
 have q := f46 ps (by omega) hT 1500 (by decide) false
 rw [show decide (((ps.length + (pTx ps ps.length).length : Nat) : Int) > ((1500 : Nat) : Int)) = false from by simp; omega] at q
 have e1 : decide ((K.length : Int) > 1500) = false := by simp; omega
 have q1 := f47 ps (by omega) (by omega) false
 have q3 := f49_n_h K (by omega) ps (by omega) (by unfold pAll; rw [← pTx_e]; omega) false false
 have hall : pAll ps = pTx ps ps.length := by unfold pAll; rw [pTx_e]
 rw [hall] at q3
 obtain ⟨T, hT2⟩ : ∃ T, T = pTx ps ps.length := ⟨_, rfl⟩
 rw [← hT2] at q1 q3 hps
 clear hT2 hall
 have q2 := f48_n K T (by omega) (by omega) false false
 have q4 := f50_n K T (by omega) (by omega) false false
 have hl := mac_len_n K T
 obtain ⟨X, hX⟩ : ∃ X, X = mac_n K T := ⟨_, rfl⟩
 rw [← hX] at q2 q3 q4 hl
 clear hX
 refine scall_of ttOk (by kernel_rfl : Try.prog.funcs[9]? = some Try.f9) rfl rfl rfl ?_
 try simp only [List.length_cons, List.length_nil, Nat.zero_add, Nat.reduceAdd]
 refine sw_ok ttOk mixed (by kernel_rfl) ?_
 conv => whnf
 repeat (fail)
 refine ok1_callF [] [] true (f45) rfl rfl ⟨⟨rfl, by first | rfl | fail⟩, trivial, by first | rfl | fail, by first | rfl | fail, ?_⟩
 conv => whnf
 repeat (first | (refine brF rfl ?_; conv => whnf) | (refine gdT e1 ?_; conv => whnf) | fail)
 refine ok1_callF [1, 2] [false, false] true (q) rfl rfl ⟨⟨rfl, by first | rfl | fail⟩, by (repeat' (first | exact trivial | refine And.intro ?_ ?_)) <;> first | rfl | exact ren_eq (by first | (simp; done) | fail) (by first | rfl | fail) | fail, by first | rfl | fail, by first | rfl | fail, ?_⟩
 conv => whnf
 repeat (first | (refine brF rfl ?_; conv => whnf) | (refine pkF e1 ?_; conv => whnf) | fail)
 refine ok1_callF [1, 2] [false, false, true] false (q1) rfl rfl ⟨⟨rfl, by first | rfl | fail⟩, by (repeat' (first | exact trivial | refine And.intro ?_ ?_)) <;> first | rfl | exact ren_eq (by first | (simp; done) | fail) (by first | rfl | fail) | fail, by first | simp [plainHf, plainB], by first | rfl | fail, ?_⟩
 conv => whnf
 repeat (fail)
 refine ok1_callF [0, 3] [false, false, true] false (q2) rfl rfl ⟨⟨rfl, by first | rfl | fail⟩, by (repeat' (first | exact trivial | refine And.intro ?_ ?_)) <;> first | exact ren_eq (by first | (simp; done) | fail) (by first | rfl | fail) | fail, by first | simp [plainHf, plainB], by first | rfl | fail, ?_⟩
 conv => whnf
 repeat (first | (refine Exists.intro _ (And.intro (bytesOf_cut rfl) ?_); conv => whnf) | (refine And.intro (by first | omega | (simp; omega) | fail) ?_; conv => whnf) | fail)
 refine ok1_callF [0, 1, 2] [false, false, false, true] false (q3) rfl rfl ⟨⟨rfl, by first | rfl | fail⟩, by (repeat' (first | exact trivial | refine And.intro ?_ ?_)) <;> first | rfl | exact ren_eq (by first | (simp; done) | fail) (by first | rfl | fail) | fail, by first | simp [plainHf, plainB], by first | rfl | fail, ?_⟩
 conv => whnf
 repeat (first | (refine Exists.intro _ (And.intro (bytesOf_cut rfl) ?_); conv => whnf) | (refine gdT (by first | (simp; done) | fail) ?_; conv => whnf) | (refine And.intro (by first | omega | (simp; omega) | fail) ?_; conv => whnf) | fail)
 refine ok1_callF [0, 3] [false, false, true] false (q4) rfl rfl ⟨⟨rfl, by first | rfl | fail⟩, by (repeat' (first | exact trivial | refine And.intro ?_ ?_)) <;> first | exact ren_eq (by first | (simp; done) | fail) (by first | rfl | fail) | fail, by first | simp [plainHf, plainB], by first | rfl | fail, ?_⟩
 conv => whnf
 repeat (first | (refine Exists.intro _ (And.intro (bytesOf_cut rfl) ?_); conv => whnf) | (refine gdT (by first | (simp; done) | fail) ?_; conv => whnf) | (refine pkT (by first | (simp; done) | fail) ?_; conv => whnf) | (refine And.intro (by first | omega | (simp; omega) | fail) ?_; conv => whnf) | fail)
 refine ⟨[0, 1, 2], ?_, rfl, rfl, ?_, rfl⟩
 ·
  (repeat' (fail)) <;> first | exact wk_b (by first | (simp; done) | fail) | fail
 ·
  (repeat' (first | exact trivial | refine And.intro ?_ ?_ | fail)) <;> first | rfl | exact ren_eq (by first | (simp; done) | fail) (by first | rfl | fail) | fail
theorem f9_w (K : List UInt8) (ps : List Part) (hK : K.length ≤ 1500) (hps : ps.length + (pTx ps ps.length).length ≤ 1500) (hT : ∀ p ∈ ps, p.2.2.length < 1000000000000000) : SCall Try.prog 9 [.u8 2, .sl 0 0 K.length 1 false, .sl 1 0 ps.length 1 false] [some (.ro (K.map .u8)), some (.ro (ps.map pLit)), some (.ext (.fam (ps.map pFe)))] (.b true) [some (.ro (K.map .u8)), some (.ro (ps.map pLit)), some (.ext (.fam (ps.map pFe)))] := by
 have q := f46 ps (by omega) hT 1500 (by decide) false
 rw [show decide (((ps.length + (pTx ps ps.length).length : Nat) : Int) > ((1500 : Nat) : Int)) = false from by simp; omega] at q
 have e1 : decide ((K.length : Int) > 1500) = false := by simp; omega
 have q1 := f47 ps (by omega) (by omega) false
 have q3 := f49_w_h K (by omega) ps (by omega) (by unfold pAll; rw [← pTx_e]; omega) false false
 have hall : pAll ps = pTx ps ps.length := by unfold pAll; rw [pTx_e]
 rw [hall] at q3
 obtain ⟨T, hT2⟩ : ∃ T, T = pTx ps ps.length := ⟨_, rfl⟩
 rw [← hT2] at q1 q3 hps
 clear hT2 hall
 have q2 := f48_w K T (by omega) (by omega) false false
 have q4 := f50_w K T (by omega) (by omega) false false
 have hl := mac_len_w K T
 obtain ⟨X, hX⟩ : ∃ X, X = mac_w K T := ⟨_, rfl⟩
 rw [← hX] at q2 q3 q4 hl
 clear hX
 refine scall_of ttOk (by kernel_rfl : Try.prog.funcs[9]? = some Try.f9) rfl rfl rfl ?_
 try simp only [List.length_cons, List.length_nil, Nat.zero_add, Nat.reduceAdd]
 refine sw_ok ttOk mixed (by kernel_rfl) ?_
 conv => whnf
 repeat (fail)
 refine ok1_callF [] [] true (f45) rfl rfl ⟨⟨rfl, by first | rfl | fail⟩, trivial, by first | rfl | fail, by first | rfl | fail, ?_⟩
 conv => whnf
 repeat (first | (refine brF rfl ?_; conv => whnf) | (refine gdT e1 ?_; conv => whnf) | fail)
 refine ok1_callF [1, 2] [false, false] true (q) rfl rfl ⟨⟨rfl, by first | rfl | fail⟩, by (repeat' (first | exact trivial | refine And.intro ?_ ?_)) <;> first | rfl | exact ren_eq (by first | (simp; done) | fail) (by first | rfl | fail) | fail, by first | rfl | fail, by first | rfl | fail, ?_⟩
 conv => whnf
 repeat (first | (refine brF rfl ?_; conv => whnf) | (refine pkF e1 ?_; conv => whnf) | fail)
 refine ok1_callF [1, 2] [false, false, true] false (q1) rfl rfl ⟨⟨rfl, by first | rfl | fail⟩, by (repeat' (first | exact trivial | refine And.intro ?_ ?_)) <;> first | rfl | exact ren_eq (by first | (simp; done) | fail) (by first | rfl | fail) | fail, by first | simp [plainHf, plainB], by first | rfl | fail, ?_⟩
 conv => whnf
 repeat (fail)
 refine ok1_callF [0, 3] [false, false, true] false (q2) rfl rfl ⟨⟨rfl, by first | rfl | fail⟩, by (repeat' (first | exact trivial | refine And.intro ?_ ?_)) <;> first | exact ren_eq (by first | (simp; done) | fail) (by first | rfl | fail) | fail, by first | simp [plainHf, plainB], by first | rfl | fail, ?_⟩
 conv => whnf
 repeat (first | (refine Exists.intro _ (And.intro (bytesOf_cut rfl) ?_); conv => whnf) | (refine And.intro (by first | omega | (simp; omega) | fail) ?_; conv => whnf) | fail)
 refine ok1_callF [0, 1, 2] [false, false, false, true] false (q3) rfl rfl ⟨⟨rfl, by first | rfl | fail⟩, by (repeat' (first | exact trivial | refine And.intro ?_ ?_)) <;> first | rfl | exact ren_eq (by first | (simp; done) | fail) (by first | rfl | fail) | fail, by first | simp [plainHf, plainB], by first | rfl | fail, ?_⟩
 conv => whnf
 repeat (first | (refine Exists.intro _ (And.intro (bytesOf_cut rfl) ?_); conv => whnf) | (refine gdT (by first | (simp; done) | fail) ?_; conv => whnf) | (refine And.intro (by first | omega | (simp; omega) | fail) ?_; conv => whnf) | fail)
 refine ok1_callF [0, 3] [false, false, true] false (q4) rfl rfl ⟨⟨rfl, by first | rfl | fail⟩, by (repeat' (first | exact trivial | refine And.intro ?_ ?_)) <;> first | exact ren_eq (by first | (simp; done) | fail) (by first | rfl | fail) | fail, by first | simp [plainHf, plainB], by first | rfl | fail, ?_⟩
 conv => whnf
 repeat (first | (refine Exists.intro _ (And.intro (bytesOf_cut rfl) ?_); conv => whnf) | (refine gdT (by first | (simp; done) | fail) ?_; conv => whnf) | (refine pkT (by first | (simp; done) | fail) ?_; conv => whnf) | (refine And.intro (by first | omega | (simp; omega) | fail) ?_; conv => whnf) | fail)
 refine ⟨[0, 1, 2], ?_, rfl, rfl, ?_, rfl⟩
 ·
  (repeat' (fail)) <;> first | exact wk_b (by first | (simp; done) | fail) | fail
 ·
  (repeat' (first | exact trivial | refine And.intro ?_ ?_ | fail)) <;> first | rfl | exact ren_eq (by first | (simp; done) | fail) (by first | rfl | fail) | fail
theorem f9 (h : UInt8) (K : List UInt8) (ps : List Part) (hn : ps.length < 1000000000000000) (hT : ∀ p ∈ ps, p.2.2.length < 1000000000000000) : SCall Try.prog 9 [.u8 h, .sl 0 0 K.length 1 false, .sl 1 0 ps.length 1 false] [some (.ro (K.map .u8)), some (.ro (ps.map pLit)), some (.ext (.fam (ps.map pFe)))] (.b true) [some (.ro (K.map .u8)), some (.ro (ps.map pLit)), some (.ext (.fam (ps.map pFe)))] := by
 by_cases hx : 1500 < K.length ∨ 1500 < ps.length + (pTx ps ps.length).length
 ·
  exact f9x h K ps hn hT hx
 ·
  by_cases h1 : h = 1
  ·
   subst h1; exact f9_n K ps (by omega) (by omega) hT
  ·
   by_cases h2 : h = 2
   ·
    subst h2; exact f9_w K ps (by omega) (by omega) hT
   ·
    exact f9_o h h1 h2 K ps (by omega) (by omega) hT
end Go.Sh
namespace Go.Sh
open Go.ChangeShapes Go.WideShapes Go.ChangeAt Go.RowKit
section
variable {H : Type} {enc : TypeId × Value → H} {P : Program} {w : World} {base : Nat} {held : Bool}
theorem weights_all {e : TypeId} : ∀ {l : List (DataW H)} {x : DataW H}, x ∈ l → ∀ n ∈ x.weights P e, n ∈ DataW.weightsAll P e l
 | y :: l, x, hx, n, hn => by
  simp only [DataW.weightsAll, List.mem_append]
  rcases List.mem_cons.1 hx with rfl | hx
  ·
   exact .inl hn
  ·
   exact .inr (weights_all hx n hn)
theorem small_slice {t e : TypeId} (ht : P.underlying t = some (.slice e)) (hb : 0 < P.bytesOf e) {fuel : Nat} {a : Option Addr} {n c : Nat} {x : DataW H × List MemPlace} (h : DataW.trod enc P w base (fun _ => true) held fuel t [.slice a n c] = some x)
  (hw : ∀ k ∈ x.1.weights P t, k ≤ reachBytes) : n ≤ reachBytes := by
 rcases DataW.trod_slice ht h with ⟨hq, _⟩ | ⟨a, len, cap, elems, rest, n, rfl, hq, rfl, _, hlc, hm, hel, h1, h2, _⟩
 ·
  cases hq; exact Nat.zero_le _
 ·
  cases hq
  have := hw ((elems.map (·.1)).length + (rest.map (·.1)).length |> (· * P.bytesOf e)) (by simp only [DataW.weights, ht, List.length_map]; exact List.mem_cons_self ..)
  simp only [List.length_map] at this
  have h3 : elems.length + rest.length ≤ (elems.length + rest.length) * P.bytesOf e := Nat.le_mul_of_pos_right _ hb
  omega
theorem open_row_q {r : Reach} {b0 d : Nat} {e e2 t : TypeId} {v : Value} {y : DataW H} {pl : List MemPlace} (ht : P.underlying t = some (.slice e)) (he : P.underlying e = some (.slice e2)) (hs : psz P e = some 1) (hk : kinds P d e2 = some [1]) (hb : 0 < P.bytesOf e) (hb2 : 0 < P.bytesOf e2)
  (hval : Value.okWide P w r b0 t v) (hd : DataW.Trod enc P w base (fun _ => true) held t v y pl) (hw : ∀ k ∈ y.weights P t, k ≤ reachBytes) : ∃ (ps : List Part) (rb : RB), ps.length ≤ reachBytes ∧ (∀ p ∈ ps, p.2.2.length ≤ reachBytes) ∧
   (∀ ρ id, ρ id = some rb → Rel ρ (.sl id 0 ps.length 1 false) v) ∧ (∀ ρ, BRel ρ w rb (.ro (ps.map pLit))) ∧ ∀ ρ rb2, BRel ρ w rb2 (.ext (.fam (ps.map pFe))) := by
 obtain ⟨a, len, cap, rfl⟩ := okWide_slice ht hval
 obtain ⟨fuel, hf⟩ := hd
 have hcs : (Value.slice a len cap).cells.toList = [.slice a len cap] := rfl
 rw [hcs] at hf
 have hlen : len ≤ reachBytes := small_slice ht hb hf hw
 rcases open_row ht hs (by decide) rfl ⟨fuel, _, hf⟩ with h | ⟨a', len', cap', vs, h, hrow⟩
 ·
  cases h
  refine ⟨[], ⟨0, 0, 0, true⟩, Nat.zero_le _, by simp, fun ρ id hr => ?_, fun ρ => .inl rfl, fun ρ rb2 e he => by simp at he⟩
  simp only [Rel]
  exact ⟨_, none, 0, hr, rfl, Nat.le_refl _, fun h => (by cases h), .inl rfl⟩
 ·
  cases h
  have hle : len ≤ vs.length := by rw [hrow.len]; have := hrow.le; omega
  obtain ⟨ps, h1, h2, h3⟩ := open_parts he hk hs vs len hle (fun i hi => hrow.read i (Nat.lt_of_lt_of_le hi hrow.le))
  subst h1
  refine ⟨ps, _, hlen, fun p hp => ?_, fun ρ id hid => (hrow.block (h3 ρ) (atoms_lit ps)).1 id hid, fun ρ => (hrow.block (h3 ρ) (atoms_lit ps)).2, fun ρ rb2 e he => ?_⟩
  ·
   obtain ⟨i, hi, hpi⟩ := List.getElem_of_mem hp
   rcases DataW.trod_slice ht hf with ⟨hq, _⟩ | ⟨a, len, cap, elems, rest, n, rfl, hq, hy, _, hlc, hm, hel, g1, g2, _⟩
   ·
    cases hq
   ·
    cases hq
    cases hy
    have g := g1 i hi
    rw [List.getElem?_eq_getElem (by omega : i < elems.length)] at g
    obtain ⟨l, hl, hr⟩ := Option.bind_eq_some_iff.1 g
    rw [psz_cells hs] at hl
    obtain ⟨c1, c2⟩ := cells_get hl
    have c3 := c2 0 (by omega)
    rw [addr_zero, addr_add _ _ (hrow.spot (by omega)), hrow.cell _ (by omega), Nat.mul_one] at c3
    obtain ⟨u, hu, hur⟩ := (h3 (fun _ => none)).get (k := i) (x := pLit p) (by rw [List.getElem?_map, List.getElem?_eq_getElem hi, hpi]; rfl)
    rw [List.getElem?_take_of_lt (by omega), c3] at hu
    simp only [pLit, Rel] at hur
    have hlu : l = [p.1] := by
     match l, c1 with
     | [z], _ => simp at hu; rw [hu, hur.1]
    obtain ⟨⟨a2, k2, e1, _⟩, _⟩ := (h2 p hp).2
    have e1 : p.1 = .slice a2 p.2.2.length k2 := e1
    rw [hlu, e1] at hr
    refine small_slice he hb2 hr fun k hk2 => hw k ?_
    simp only [DataW.weights, ht]
    exact List.mem_cons_of_mem _ (List.mem_append_left _ (weights_all (List.mem_map_of_mem (List.getElem_mem (by omega : i < elems.length))) k hk2))
  ·
   obtain ⟨p, hp, rfl⟩ := List.mem_map.1 he
   exact (h2 p hp).2
end
end Go.Sh
