/- Merged for a claim: R7, Sh28, M0, Sh29, Sh31, M7, M5, M5c, M5b, M5o. -/
import Derived.Laws.Externs
import Derived.Lib.MakeNoZero
import Derived.Test.YtannakicfkjhbaaNa3
set_option linter.unusedSimpArgs false
set_option linter.unusedVariables false
/- sha, the reference: Sum (f133), walked. -/
namespace Go.Sh
open Go.Proofs
set_option maxHeartbeats 4000000
set_option maxRecDepth 100000

theorem ix3 (a c m : Nat) (h : a + c + m < 1000000000000000000) : w64 (w64 ((a : Int) + (c : Int)) + (m : Int)) = ((a + (c + m) : Nat) : Int) := by
 rw [w64_of (n := (a : Int) + (c : Int)) (by omega) (by omega), w64_of (by omega) (by omega)]; omega
def vf : Nat → Bool
 | 0 => false
 | _ + 1 => true
theorem rwp (i : Nat) (h : i < 100000) : w64 ((i : Int) + 1) = ((i + 1 : Nat) : Int) := by simp only [w64_eq]; omega
theorem padw_len_n (T : List UInt8) : (padw_n T).length = 64 * ((padw_n T).length / 64) := by
 have h : (padw_n T).length = T.length + 1 + pz_n T.length + 8 := by
  unfold padw_n lenb_n
  rw [List.length_append, List.length_append, List.length_append, lset_len_n, List.length_replicate]; rfl
 have h2 := padz_yes_n T.length
 omega
theorem rws_s_n (b : List UInt8) (t : Nat) : (List.range (t + 1)).map (fun s => emb_n (wf_n b s 4)) = (List.range t).map (fun s => emb_n (wf_n b s 4)) ++ [emb_n (wf_n b t 4)] := by rw [List.range_succ, List.map_append]; rfl
theorem rws_16_n (b : List UInt8) : (List.range 16).map (fun s => emb_n (wf_n b s 4)) = emL_n ((wex_n b 0).take (0 + 16)) := by
 unfold emL_n
 have hl := win_len_n b 64
 apply List.ext_getElem
 ·
  simp [wex_len_n]
 ·
  intro i h1 h2
  have hi : i < 16 := by simpa using h1
  rw [List.getElem_map, List.getElem_map, List.getElem_range, List.getElem_take]
  have e := win_word_n b i hi
  rw [← e, List.getD_eq_getElem?_getD, List.getElem?_eq_getElem (by omega)]; rfl
theorem hfil_n : fil 8 8 (fun j => firstL.getD j 0 / down_n) (fun j => firstL.getD j 0) = emL_n h0_n := by
 rw [fil_full, h0e_n]; rfl
theorem hfil0_n : fil 8 0 (fun j => firstL.getD j 0 / down_n) (fun j => firstL.getD j 0) = firstL := rfl
theorem blks0_n (D : List UInt8) : blks_n k0_n h0_n D 0 = h0_n := rfl
theorem blkss_n (D : List UInt8) (j : Nat) : blks_n k0_n h0_n D (j + 1) = comp_n k0_n (blks_n k0_n h0_n D j) ((D.drop (64 * j)).take 64) := rfl
theorem wfz_n (b : List UInt8) (t : Nat) : emb_n (wf_n b t 0) = UInt64.ofNat (Int.toNat 0) := by unfold wf_n emb_n; decide
theorem emL_get_n (x : List UInt32) (i : Nat) (h : i < x.length) : (emL_n x).getD i 0 = emb_n (x.getD i 0) := by
 unfold emL_n
 rw [List.getD_eq_getElem?_getD, List.getD_eq_getElem?_getD, List.getElem?_map, List.getElem?_eq_getElem h]; rfl
theorem rout_z_n (H : List UInt32) : outl_n H (4 * 0) = [] := rfl
theorem rout_s_n (H : List UInt32) (i m : Nat) (hm : m < 4) : outl_n H (4 * i + (m + 1)) = outl_n H (4 * i + m) ++ [(shr32 (H.getD i 0) (8 * (4 - 1 - m))).toUInt8] := by
 show outl_n H (4 * i + m) ++ [(shr32 (H.getD ((4 * i + m) / 4) 0) (8 * (4 - 1 - (4 * i + m) % 4))).toUInt8] = _
 rw [show (4 * i + m) / 4 = i by omega, show 4 - 1 - (4 * i + m) % 4 = 4 - 1 - m by omega]
theorem rhash_n (T : List UInt8) : outl_n (blks_n k0_n h0_n (padw_n T) ((padw_n T).length / 64)) (4 * 8) = hash_n k0_n h0_n T := rfl
theorem emb_u8_n (x : UInt32) : (emb_n x).toUInt8 = x.toUInt8 := by
 apply UInt8.toNat_inj.1
 have e0 : (emb_n x).toNat = x.toNat := by first | exact emb_n_nat x | fail
 rw [UInt64.toNat_toUInt8, e0]
 first | exact (UInt32.toNat_toUInt8 x).symm | fail
theorem tix_n : ∀ t : Nat, t < 16 → w64 (Int.tdiv (w64 ((t : Int) * 32)) 8) = ((4 * t : Nat) : Int) := by decide +kernel
section
attribute [local irreducible] padw_n blks_n hash_n outb_n outl_n wex_n wf_n rnds_n addw_n comp_n firstL consL down_n emb_n h0_n k0_n
theorem f133_n (T : List UInt8) (hT : T.length < 100000000000000) (f : Bool) : SCall Try.prog 133 [.sl 0 0 T.length 1 f, .i 32] [some (.ro (T.map .u8))] (.sl 1 0 32 1 false) [some (.ro (T.map .u8)), some (.row 5 ((hash_n k0_n h0_n T).map .u8))] := by
 have qp := f147 (64 - 32) (by decide)
 have hdn : UInt64.ofNat (2 ^ (64 - 32)) = down_n := by unfold down_n; rfl
 rw [hdn] at qp
 have hd1 : UInt64.ofNat (Int.toNat 1) = down_w := by unfold down_w; rfl
 have q8 := f148_n T hT f
 have hf8 := hfil_n
 have hf0 := hfil0_n
 have hfl : firstL.length = 8 := by unfold firstL; rfl
 have hcl : consL.length = 80 := by unfold consL; rfl
 refine scall_of ttOk (by kernel_rfl : Try.prog.funcs[133]? = some Try.f133) rfl rfl rfl ?_
 try simp only [List.length_cons, List.length_nil, Nat.zero_add, Nat.reduceAdd]
 refine sw_ok ttOk mixed (by kernel_rfl) ?_
 conv => whnf
 repeat (first | (refine brT rfl ?_; conv => whnf) | fail)
 refine ok1_callF [] [true] false (f145) rfl rfl ⟨⟨rfl, by first | rfl | fail⟩, trivial, by first | simp [plainHf, plainB], by first | rfl | fail, ?_⟩
 conv => whnf
 repeat (fail)
 refine ok1_callF [] [true] false (f146) rfl rfl ⟨⟨rfl, by first | rfl | fail⟩, trivial, by first | simp [plainHf, plainB], by first | rfl | fail, ?_⟩
 conv => whnf
 repeat (fail)
 refine ok1_callF [] [] true (qp) rfl rfl ⟨⟨rfl, by first | rfl | fail⟩, trivial, by first | rfl | fail, by first | rfl | fail, ?_⟩
 conv => whnf
 repeat (first | (refine brF rfl ?_; conv => whnf) | fail)
 try rw [hd1]
 refine loop_rule ttOk mixed (by kernel_rfl) (ι := { i : Nat // i ≤ 8 }) (fun i => [(0, .sl 0 0 T.length 1 f), (1, .i 32), (5, .i 64), (6, .sl 1 0 8 1 true), (7, .sl 2 0 80 1 true), (8, .u64 down_n), (9, .i (i.1 : Int))]) (fun i => [some (.ro (T.map .u8)), some (.row 25 ((fil 8 i.1 (fun j => firstL.getD j 0 / down_n) (fun j => firstL.getD j 0)).map .u64)), some (.ro (consL.map .u64))]) (fun _ => 3) (fun i => 8 - i.1) ⟨0, by omega⟩ ?_ ?_
 ·
  dsimp only
  rw [hf0]
  refine Weak.sel [0, 1, 2] rfl rfl ?_ ?_ rfl rfl
  ·
   (repeat' (first | exact trivial | refine And.intro ?_ ?_ | fail)) <;> first | rfl | fail
  ·
   (repeat' (first | exact trivial | refine And.intro ?_ ?_ | fail)) <;> first | rfl | exact ren_eq (by first | (simp; done) | fail) (by first | rfl | fail) | fail
 ·
  rintro ⟨i, hi⟩
  dsimp only
  have hfln := fil_len 8 i (fun j => firstL.getD j 0 / down_n) (fun j => firstL.getD j 0)
  by_cases hi8 : i < 8
  ·
   have hlt : decide ((i : Int) < 8) = true := by simp; omega
   have hp := rwp i (by omega)
   have hx : (fil 8 i (fun j => firstL.getD j 0 / down_n) (fun j => firstL.getD j 0)).getD i 0 / down_n = (fun j => firstL.getD j 0 / down_n) i := by
    rw [fil_getD hi8, if_neg (by omega)]
   have hs := fil_setx (f := fun j => firstL.getD j 0 / down_n) (g := fun j => firstL.getD j 0) hi8 hx
   have hdz : down_n ≠ 0 := by unfold down_n; decide
   conv => whnf
   first | refine brT (by exact hlt) ?_ | fail
   conv => whnf
   repeat (first | (refine Exists.intro _ (And.intro (sload_u64 (i := i) (by first | rfl | omega | fail) (by first | omega | fail)) ?_); conv => whnf) | (refine Exists.intro _ (And.intro (idx_i (m := i) (by first | rfl | fail)) ?_); conv => whnf) | (refine And.intro (by first | omega | fail) ?_; conv => whnf) | fail)
   refine ⟨_, sarith_quo64b hdz, ?_⟩
   conv => whnf
   repeat (first | (refine Exists.intro _ (And.intro (sput_m64 (i := i) (by first | rfl | omega | fail)) ?_); conv => whnf) | (refine Exists.intro _ (And.intro (idx_i (m := i) (by first | rfl | fail)) ?_); conv => whnf) | (refine And.intro (by first | omega | fail) ?_; conv => whnf) | (refine And.intro ⟨by first | exact @rfl Nat _ | fail, by first | (simp only [hfln, ti5_sz, ti25_sz, List.length_map, List.length_set]; omega) | fail⟩ ?_; conv => whnf) | fail)
   refine ⟨⟨i + 1, by omega⟩, by simp only; omega, ?_⟩
   dsimp only
   rw [← hs]
   refine Weak.sel [0, 1, 2] rfl rfl ?_ ?_ rfl rfl
   ·
    (repeat' (first | exact trivial | refine And.intro ?_ ?_ | fail)) <;> first | exact wk_i (by first | exact hp | exact hp.symm | fail) | rfl | fail
   ·
    (repeat' (first | exact trivial | refine And.intro ?_ ?_ | fail)) <;> first | rfl | exact ren_eq (by first | (simp; done) | fail) (by first | rfl | fail) | exact ren_m64 (by first | rfl | fail) | fail
  ·
   obtain rfl : i = 8 := by omega
   rw [hf8]
   conv => whnf
   first | refine brF (by rfl) ?_ | fail
   conv => whnf
   repeat (fail)
   refine ok1_callF [0] [false, true] false (q8) rfl rfl ⟨⟨rfl, by first | rfl | fail⟩, by (repeat' (first | exact trivial | refine And.intro ?_ ?_)) <;> first | exact ren_eq (by first | (simp; done) | fail) (by first | rfl | fail) | fail, by first | simp [plainHf, plainB], by first | rfl | fail, ?_⟩
   conv => whnf
   repeat (fail)
   have hDl := padw_len_n T
   obtain ⟨D, hD⟩ : ∃ D, D = padw_n T := ⟨_, rfl⟩
   rw [← hD] at hDl ⊢
   have hDb : D.length < 200000000000000 := by
    rw [hD]
    have h : (padw_n T).length = T.length + 1 + pz_n T.length + 8 := by
     unfold padw_n lenb_n
     rw [List.length_append, List.length_append, List.length_append, lset_len_n, List.length_replicate]; rfl
    have hpl : pz_n T.length < 64 := by unfold pz_n; exact Nat.mod_lt _ (by decide)
    omega
   refine loop_rule ttOk mixed (by kernel_rfl) (ι := { j : Nat // 64 * j ≤ D.length }) (fun j => [(1, .i 32), (5, .i 64), (6, .sl 1 0 8 1 true), (7, .sl 2 0 80 1 true), (8, .u64 down_n), (10, .sl 3 0 D.length 1 false), (11, .i ((64 * j.1 : Nat) : Int))]) (fun j => [some (.ro (T.map .u8)), some (.row 25 ((emL_n (blks_n k0_n h0_n D j.1)).map .u64)), some (.ro (consL.map .u64)), some (.ro (D.map .u8))]) (fun _ => 4) (fun j => D.length - 64 * j.1) ⟨0, by omega⟩ ?_ ?_
   ·
    have hz := blks0_n D
    dsimp only
    rw [hz]
    refine Weak.sel [0, 1, 2, 3] rfl rfl ?_ ?_ rfl rfl
    ·
     (repeat' (first | exact trivial | refine And.intro ?_ ?_ | fail)) <;> first | rfl | fail
    ·
     (repeat' (first | exact trivial | refine And.intro ?_ ?_ | fail)) <;> first | rfl | exact ren_eq (by first | (simp; done) | fail) (by first | rfl | fail) | fail
   ·
    rintro ⟨j, hj⟩
    dsimp only
    have hbs := blkss_n D j
    have hhl := blks_len_n k0_n h0_n_len D j
    obtain ⟨h, hh⟩ : ∃ h, h = blks_n k0_n h0_n D j := ⟨_, rfl⟩
    rw [← hh] at hbs hhl ⊢
    by_cases hc : 64 * (j + 1) ≤ D.length
    ·
     have hlt : decide (((64 * j : Nat) : Int) < (D.length : Int)) = true := by simp; omega
     obtain ⟨b, hb⟩ : ∃ b, b = (D.drop (64 * j)).take 64 := ⟨_, rfl⟩
     rw [← hb] at hbs
     have hbg : ∀ i, i < 64 → D.getD (64 * j + i) 0 = b.getD i 0 := fun i hi => by
      rw [hb, List.getD_eq_getElem?_getD, List.getD_eq_getElem?_getD, List.getElem?_take_of_lt hi, List.getElem?_drop]
     have hbl : b.length = 64 := by rw [hb, List.length_take, List.length_drop]; omega
     conv => whnf
     first | refine brT (by exact hlt) ?_ | fail
     conv => whnf
     repeat (fail)
     refine SWp.weak (Weak.virt 12 25 1 rfl) ?_
     refine loop_rule ttOk mixed (by kernel_rfl) (ι := { t : Nat // t ≤ 16 }) (fun t => [(1, .i 32), (5, .i 64), (6, .sl 1 0 8 1 true), (7, .sl 2 0 80 1 true), (8, .u64 down_n), (10, .sl 3 0 D.length 1 false), (11, .i ((64 * j : Nat) : Int)), (12, .sl 4 0 t.1 1 false), (13, .i (t.1 : Int))]) (fun t => [some (.ro (T.map .u8)), some (.row 25 ((emL_n h).map .u64)), some (.ro (consL.map .u64)), some (.ro (D.map .u8)), some (.row 25 (((List.range t.1).map (fun s => emb_n (wf_n b s 4))).map .u64))]) (fun _ => 5) (fun t => 16 - t.1) ⟨0, by omega⟩ ?_ ?_
     ·
      refine Weak.sel [0, 1, 2, 3, 4] rfl rfl ?_ ?_ rfl rfl
      ·
       (repeat' (first | exact trivial | refine And.intro ?_ ?_ | fail)) <;> first | rfl | fail
      ·
       (repeat' (first | exact trivial | refine And.intro ?_ ?_ | fail)) <;> first | rfl | exact ren_eq (by first | (simp; done) | fail) (by first | rfl | fail) | fail
     ·
      rintro ⟨t, ht⟩
      dsimp only
      have hws := rws_s_n b t
      by_cases ht2 : t < 16
      ·
       have hlt2 : decide ((t : Int) < 16) = true := by simp; omega
       have hp := rwp t (by omega)
       obtain ⟨Y, hY⟩ : ∃ Y, Y = (List.range t).map (fun s => emb_n (wf_n b s 4)) := ⟨_, rfl⟩
       have hYl : Y.length = t := by rw [hY]; simp
       rw [← hY] at hws ⊢
       conv => whnf
       first | refine brT (by exact hlt2) ?_ | fail
       conv => whnf
       repeat (fail)
       refine loop_rule ttOk mixed (by kernel_rfl) (ι := { m : Nat // m ≤ 4 }) (fun m => [(1, .i 32), (5, .i 64), (6, .sl 1 0 8 1 true), (7, .sl 2 0 80 1 true), (8, .u64 down_n), (10, .sl 3 0 D.length 1 false), (11, .i ((64 * j : Nat) : Int)), (12, .sl 4 0 t 1 false), (13, .i (t : Int)), (14, .u64 (emb_n (wf_n b t m.1))), (15, .i (m.1 : Int))]) (fun m => [some (.ro (T.map .u8)), some (.row 25 ((emL_n h).map .u64)), some (.ro (consL.map .u64)), some (.ro (D.map .u8)), some (.row 25 (Y.map .u64))]) (fun _ => 5) (fun m => 4 - m.1) ⟨0, by omega⟩ ?_ ?_
       ·
        have hz := wfz_n b t
        dsimp only
        rw [hz]
        refine Weak.sel [0, 1, 2, 3, 4] rfl rfl ?_ ?_ rfl rfl
        ·
         (repeat' (first | exact trivial | refine And.intro ?_ ?_ | fail)) <;> first | rfl | fail
        ·
         (repeat' (first | exact trivial | refine And.intro ?_ ?_ | fail)) <;> first | rfl | exact ren_eq (by first | (simp; done) | fail) (by first | rfl | fail) | fail
       ·
        rintro ⟨m, hm⟩
        dsimp only
        by_cases hm2 : m < 4
        ·
         have hlt3 : decide ((m : Int) < w64 (Int.tdiv 32 8)) = true := by
          rw [show w64 (Int.tdiv 32 8) = 4 from by decide]; simp; omega
         have hpm := rwp m (by omega)
         have hti : w64 (Int.tdiv (w64 ((t : Int) * 32)) 8) = ((4 * t : Nat) : Int) := tix_n t ht2
         have hix : w64 (w64 (((64 * j : Nat) : Int) + w64 (Int.tdiv (w64 ((t : Int) * 32)) 8)) + (m : Int)) = ((64 * j + (4 * t + m) : Nat) : Int) := by
          rw [hti]; exact ix3 _ _ _ (by omega)
         have hwr := wf_ref_n b t m hm2
         rw [← hbg (4 * t + m) (by omega)] at hwr
         have hin : 64 * j + (4 * t + m) < D.length := by omega
         conv => whnf
         repeat (first | (refine Exists.intro _ (And.intro rfl ?_); conv => whnf) | fail)
         first | refine brT (by exact hlt3) ?_ | fail
         conv => whnf
         repeat (first | (refine Exists.intro _ (And.intro (sload_u8 (i := 64 * j + (4 * t + m)) (by first | rfl | omega | fail) (by first | omega | fail)) ?_); conv => whnf) | (refine Exists.intro _ (And.intro (idx_i (m := 64 * j + (4 * t + m)) (by first | rfl | omega | fail)) ?_); conv => whnf) | (refine Exists.intro _ (And.intro rfl ?_); conv => whnf) | (refine And.intro (by first | omega | fail) ?_; conv => whnf) | fail)
         rw [hwr]
         refine ⟨⟨m + 1, by omega⟩, by simp only; omega, ?_⟩
         dsimp only
         refine Weak.sel [0, 1, 2, 3, 4] rfl rfl ?_ ?_ rfl rfl
         ·
          (repeat' (first | exact trivial | refine And.intro ?_ ?_ | fail)) <;> first | exact wk_i (by first | exact hpm | exact hpm.symm | fail) | rfl | fail
         ·
          (repeat' (first | exact trivial | refine And.intro ?_ ?_ | fail)) <;> first | rfl | exact ren_eq (by first | (simp; done) | fail) (by first | rfl | fail) | fail
        ·
         obtain rfl : m = 4 := by omega
         have hlt3 : decide ((4 : Int) < w64 (Int.tdiv 32 8)) = false := by decide
         obtain ⟨x, hx⟩ : ∃ x, x = emb_n (wf_n b t 4) := ⟨_, rfl⟩
         rw [← hx] at hws ⊢
         have hap : (Y ++ [x]).map SV.u64 = List.take (t * 1) (List.drop 0 (Y.map SV.u64)) ++ List.take (1 * 1) (List.drop 0 [SV.u64 x]) := by
          rw [List.drop_zero, List.take_of_length_le (l := Y.map SV.u64) (by rw [List.length_map]; omega), List.map_append]; rfl
         conv => whnf
         repeat (first | (refine brF rfl ?_; conv => whnf) | (refine Exists.intro _ (And.intro rfl ?_); conv => whnf) | fail)
         refine And.intro ⟨by show 0 + t * 1 ≤ (Y.map SV.u64).length; rw [List.length_map]; omega, Nat.le_refl 1, by show (t + 1) * 8 ≤ _; omega⟩ ?_
         conv => whnf
         repeat (fail)
         refine ⟨⟨t + 1, by omega⟩, by simp only; omega, ?_⟩
         dsimp only
         rw [hws]
         refine Weak.sel [0, 1, 2, 3, 6] rfl rfl ?_ ?_ rfl rfl
         ·
          (repeat' (first | exact trivial | refine And.intro ?_ ?_ | fail)) <;> first | exact wk_i (by first | exact hp | exact hp.symm | fail) | rfl | fail
         ·
          (repeat' (first | exact trivial | exact ren_eq (plainL_u64 _) hap | refine And.intro ?_ ?_ | fail)) <;> first | rfl | exact ren_eq (by first | (simp; done) | fail) (by first | rfl | fail) | fail
      ·
       obtain rfl : t = 16 := by omega
       rw [rws_16_n]
       conv => whnf
       first | refine brF (by rfl) ?_ | fail
       conv => whnf
       repeat (fail)
       refine loop_rule ttOk mixed (by kernel_rfl) (ι := { t : Nat // t ≤ 64 - 16 }) (fun t => [(1, .i 32), (5, .i 64), (6, .sl 1 0 8 1 true), (7, .sl 2 0 80 1 true), (8, .u64 down_n), (10, .sl 3 0 D.length 1 false), (11, .i ((64 * j : Nat) : Int)), (12, .sl 4 0 (t.1 + 16) 1 false), (16, .i ((t.1 + 16 : Nat) : Int))]) (fun t => [some (.ro (T.map .u8)), some (.row 25 ((emL_n h).map .u64)), some (.ro (consL.map .u64)), some (.ro (D.map .u8)), some (.row 25 ((emL_n ((wex_n b t.1).take (t.1 + 16))).map .u64))]) (fun _ => 5) (fun t => 64 - t.1) ⟨0, by omega⟩ ?_ ?_
       ·
        refine Weak.sel [0, 1, 2, 3, 4] rfl rfl ?_ ?_ rfl rfl
        ·
         (repeat' (first | exact trivial | refine And.intro ?_ ?_ | fail)) <;> first | rfl | fail
        ·
         (repeat' (first | exact trivial | refine And.intro ?_ ?_ | fail)) <;> first | rfl | exact ren_eq (by first | (simp; done) | fail) (by first | rfl | fail) | fail
       ·
        rintro ⟨t, ht3⟩
        dsimp only
        have hwl := wex_len_n b t
        by_cases ht4 : t < 64 - 16
        ·
         have hlt : decide (((t + 16 : Nat) : Int) < 64) = true := by simp; omega
         have h14 : w64 (((t + 16 : Nat) : Int) - 2) = ((t + 14 : Nat) : Int) := wm16 t 2 (by omega) (by omega)
         have h9 : w64 (((t + 16 : Nat) : Int) - 7) = ((t + 9 : Nat) : Int) := wm16 t 7 (by omega) (by omega)
         have h1 : w64 (((t + 16 : Nat) : Int) - 15) = ((t + 1 : Nat) : Int) := wm16 t 15 (by omega) (by omega)
         have h0 : w64 (((t + 16 : Nat) : Int) - 16) = ((t : Nat) : Int) := wm16 t 16 (by omega) (by omega)
         have hp : w64 (((t + 16 : Nat) : Int) + 1) = ((t + 1 + 16 : Nat) : Int) := by simp only [w64_eq]; omega
         have hnew := wex_new_n b t ht4
         have htk := wex_take_n b t ht4
         have hgt : ∀ i, i < t + 16 → (emL_n ((wex_n b t).take (t + 16))).getD i 0 = emb_n ((wex_n b t).getD i 0) := fun i hi => by
          rw [emL_get_n _ i (by rw [List.length_take, hwl]; omega), wex_old_n b t i (by omega) hi]
         have g14 := hgt (t + 14) (by omega)
         have g9 := hgt (t + 9) (by omega)
         have g1 := hgt (t + 1) (by omega)
         have g0 := hgt t (by omega)
         obtain ⟨a14, ha14⟩ : ∃ a, a = (wex_n b t).getD (t + 14) 0 := ⟨_, rfl⟩
         obtain ⟨a9, ha9⟩ : ∃ a, a = (wex_n b t).getD (t + 9) 0 := ⟨_, rfl⟩
         obtain ⟨a1, ha1⟩ : ∃ a, a = (wex_n b t).getD (t + 1) 0 := ⟨_, rfl⟩
         obtain ⟨a0, ha0⟩ : ∃ a, a = (wex_n b t).getD t 0 := ⟨_, rfl⟩
         rw [← ha14] at g14 hnew
         rw [← ha9] at g9 hnew
         rw [← ha1] at g1 hnew
         rw [← ha0] at g0 hnew
         obtain ⟨Y, hY⟩ : ∃ Y, Y = emL_n ((wex_n b t).take (t + 16)) := ⟨_, rfl⟩
         have hYl : Y.length = t + 16 := by rw [hY, emL_len_n, List.length_take, hwl]; omega
         obtain ⟨v, hv⟩ : ∃ v, v = (wex_n b (t + 1)).getD (t + 16) 0 := ⟨_, rfl⟩
         have hYs : emL_n ((wex_n b (t + 1)).take (t + 1 + 16)) = Y ++ [emb_n v] := by
          rw [htk, hY, ← hv]; unfold emL_n; rw [List.map_append]; rfl
         rw [← hv] at hnew
         rw [← hY] at g14 g9 g1 g0 ⊢
         have q3 := f150_n_3 a14
         have q2 := f150_n_2 a1
         obtain ⟨s3, hs3⟩ : ∃ s, s = small_n a14 17 19 10 := ⟨_, rfl⟩
         obtain ⟨s2, hs2⟩ : ∃ s, s = small_n a1 7 18 3 := ⟨_, rfl⟩
         rw [← hs3] at q3 hnew
         rw [← hs2] at q2 hnew
         have qc := f149_n (emb_n s3 + emb_n a9 + emb_n s2 + emb_n a0)
         rw [sum4_n, ← hnew] at qc
         obtain ⟨x, hx⟩ : ∃ x, x = emb_n v := ⟨_, rfl⟩
         rw [← hx] at qc hYs
         have hap : (Y ++ [x]).map SV.u64 = List.take ((t + 16) * 1) (List.drop 0 (Y.map SV.u64)) ++ List.take (1 * 1) (List.drop 0 [SV.u64 x]) := by
          rw [List.drop_zero, List.take_of_length_le (l := Y.map SV.u64) (by rw [List.length_map]; omega), List.map_append]; rfl
         clear hs3 hs2 hx hv hnew ha14 ha9 ha1 ha0 hgt htk
         conv => whnf
         first | refine brT (by exact hlt) ?_ | fail
         conv => whnf
         repeat (first | (refine Exists.intro _ (And.intro (sload_u64 (i := t + 14) (by first | rfl | omega | fail) (by first | omega | fail)) ?_); conv => whnf) | (refine Exists.intro _ (And.intro (idx_i (m := t + 14) (by first | rfl | omega | fail)) ?_); conv => whnf) | (refine And.intro (by first | omega | fail) ?_; conv => whnf) | fail)
         rw [g14]
         refine ok1_callF [] [] true (q3) rfl rfl ⟨⟨rfl, by first | rfl | fail⟩, trivial, by first | rfl | fail, by first | rfl | fail, ?_⟩
         conv => whnf
         repeat (first | (refine Exists.intro _ (And.intro (sload_u64 (i := t + 9) (by first | rfl | omega | fail) (by first | omega | fail)) ?_); conv => whnf) | (refine Exists.intro _ (And.intro (idx_i (m := t + 9) (by first | rfl | omega | fail)) ?_); conv => whnf) | (refine Exists.intro _ (And.intro (sload_u64 (i := t + 1) (by first | rfl | omega | fail) (by first | omega | fail)) ?_); conv => whnf) | (refine Exists.intro _ (And.intro (idx_i (m := t + 1) (by first | rfl | omega | fail)) ?_); conv => whnf) | (refine And.intro (by first | omega | fail) ?_; conv => whnf) | fail)
         rw [g9, g1]
         refine ok1_callF [] [] true (q2) rfl rfl ⟨⟨rfl, by first | rfl | fail⟩, trivial, by first | rfl | fail, by first | rfl | fail, ?_⟩
         conv => whnf
         repeat (first | (refine Exists.intro _ (And.intro (sload_u64 (i := t) (by first | rfl | omega | fail) (by first | omega | fail)) ?_); conv => whnf) | (refine Exists.intro _ (And.intro (idx_i (m := t) (by first | rfl | omega | fail)) ?_); conv => whnf) | (refine And.intro (by first | omega | fail) ?_; conv => whnf) | fail)
         rw [g0]
         refine ok1_callF [] [] true (qc) rfl rfl ⟨⟨rfl, by first | rfl | fail⟩, trivial, by first | rfl | fail, by first | rfl | fail, ?_⟩
         conv => whnf
         repeat (first | (refine Exists.intro _ (And.intro rfl ?_); conv => whnf) | fail)
         refine And.intro ⟨by show 0 + (t + 16) * 1 ≤ (Y.map SV.u64).length; rw [List.length_map]; omega, Nat.le_refl 1, by show (t + 16 + 1) * 8 ≤ _; omega⟩ ?_
         conv => whnf
         repeat (first | (refine And.intro (by kernel_rfl) ?_; conv => whnf) | fail)
         refine ⟨⟨t + 1, by omega⟩, by simp only; omega, ?_⟩
         dsimp only
         rw [hYs]
         refine Weak.sel [0, 1, 2, 3, 6] rfl rfl ?_ ?_ rfl rfl
         ·
          (repeat' (first | exact trivial | refine And.intro ?_ ?_ | fail)) <;> first | exact wk_i (by first | exact hp | exact hp.symm | fail) | rfl | fail
         ·
          (repeat' (first | exact trivial | exact ren_eq (plainL_u64 _) hap | refine And.intro ?_ ?_ | fail)) <;> first | rfl | exact ren_eq (by first | (simp; done) | fail) (by first | rfl | fail) | fail
        ·
         obtain rfl : t = 64 - 16 := by omega
         have hfull : (wex_n b (64 - 16)).take (64 - 16 + 16) = wex_n b (64 - 16) := List.take_of_length_le (by omega)
         rw [hfull]
         have hel := emL_len_n h
         rw [hhl] at hel
         have hvc : List.take (0 * ti25.sz) (List.drop 0 (reps 0 (SV.u64 0).cells)) ++ List.take (8 * ti25.sz) (List.drop 0 (SB.row 25 ((emL_n h).map SV.u64)).cells) = (emL_n h).map SV.u64 := by
          show ([] : List SV) ++ List.take (8 * 1) ((emL_n h).map SV.u64) = _
          rw [List.nil_append, List.take_of_length_le (by rw [List.length_map]; omega)]
         conv => whnf
         first | refine brF (by rfl) ?_ | fail
         conv => whnf
         repeat (first | (refine Exists.intro _ (And.intro rfl ?_); conv => whnf) | (refine And.intro ⟨by first | omega | fail, by first | (simp [hel]; done) | fail, by first | exact Nat.le_of_ble_eq_true rfl | fail⟩ ?_; conv => whnf) | fail)
         rw [hvc]
         refine loop_rule ttOk mixed (by kernel_rfl) (ι := { t : Nat // t ≤ 64 }) (fun t => [(1, .i 32), (5, .i 64), (6, .sl 1 0 8 1 true), (7, .sl 2 0 80 1 true), (8, .u64 down_n), (10, .sl 3 0 D.length 1 false), (11, .i ((64 * j : Nat) : Int)), (12, .sl 4 0 64 1 false), (17, .sl 5 0 8 1 (vf t.1)), (18, .i (t.1 : Int))]) (fun t => [some (.ro (T.map .u8)), some (.row 25 ((emL_n h).map .u64)), some (.ro (consL.map .u64)), some (.ro (D.map .u8)), some (.row 25 ((emL_n (wex_n b (64 - 16))).map .u64)), some (.row 25 ((emL_n (rnds_n k0_n h b t.1)).map .u64))]) (fun _ => 6) (fun t => 64 - t.1) ⟨0, by omega⟩ ?_ ?_
         ·
          have hz := rnds_n_z k0_n h b
          dsimp only
          rw [hz]
          refine Weak.sel [0, 1, 2, 3, 4, 6] rfl rfl ?_ ?_ rfl rfl
          ·
           (repeat' (first | exact trivial | refine And.intro ?_ ?_ | fail)) <;> first | rfl | fail
          ·
           (repeat' (first | exact trivial | refine And.intro ?_ ?_ | fail)) <;> first | rfl | exact ren_eq (by first | (simp; done) | fail) (by first | rfl | fail) | fail
         ·
          rintro ⟨t, ht5⟩
          dsimp only
          have hrl := rnds_len_n (k := k0_n) hhl b t
          have hrs := rnds_n_s k0_n h b t
          by_cases ht6 : t < 64
          ·
           have hlt : decide ((t : Int) < 64) = true := by simp; omega
           have hp := rwp t (by omega)
           have hke := k0e_n t (by omega)
           have hwe := emL_get_n (wex_n b (64 - 16)) t (by omega)
           have hdz : down_n ≠ 0 := by unfold down_n; decide
           have hYl := emL_len_n (wex_n b (64 - 16))
           rw [hwl] at hYl
           have q := f151_n (rnds_n k0_n h b t) hrl (k0_n.getD t 0) ((wex_n b (64 - 16)).getD t 0) (vf t)
           rw [← hrs] at q
           conv => whnf
           first | refine brT (by exact hlt) ?_ | fail
           conv => whnf
           repeat (first | (refine Exists.intro _ (And.intro (sload_u64 (i := t) (by first | rfl | omega | fail) (by first | omega | fail)) ?_); conv => whnf) | (refine Exists.intro _ (And.intro (idx_i (m := t) (by first | rfl | fail)) ?_); conv => whnf) | (refine And.intro (by first | omega | fail) ?_; conv => whnf) | fail)
           refine ⟨_, sarith_quo64b hdz, ?_⟩
           conv => whnf
           repeat (first | (refine Exists.intro _ (And.intro (sload_u64 (i := t) (by first | rfl | omega | fail) (by first | omega | fail)) ?_); conv => whnf) | (refine Exists.intro _ (And.intro (idx_i (m := t) (by first | rfl | fail)) ?_); conv => whnf) | (refine And.intro (by first | omega | fail) ?_; conv => whnf) | fail)
           rw [hke, hwe]
           refine ok1_callF [5] [false, true] false (q) rfl rfl ⟨⟨rfl, by first | rfl | fail⟩, by (repeat' (first | exact trivial | refine And.intro ?_ ?_)) <;> first | exact ren_eq (by first | (simp; done) | fail) (by first | rfl | fail) | fail, by first | simp [plainHf, plainB], by first | rfl | fail, ?_⟩
           conv => whnf
           repeat (first | (refine And.intro (by kernel_rfl) ?_; conv => whnf) | fail)
           refine ⟨⟨t + 1, by omega⟩, by simp only; omega, ?_⟩
           dsimp only
           refine Weak.sel [0, 1, 2, 3, 4, 6] rfl rfl ?_ ?_ rfl rfl
           ·
            (repeat' (first | exact trivial | refine And.intro ?_ ?_ | fail)) <;> first | exact wk_i (by first | exact hp | exact hp.symm | fail) | rfl | fail
           ·
            (repeat' (first | exact trivial | refine And.intro ?_ ?_ | fail)) <;> first | rfl | exact ren_eq (by first | (simp; done) | fail) (by first | rfl | fail) | fail
          ·
           obtain rfl : t = 64 := by omega
           obtain ⟨X, hX⟩ : ∃ X, X = rnds_n k0_n h b 64 := ⟨_, rfl⟩
           rw [← hX] at hrl ⊢
           conv => whnf
           first | refine brF (by rfl) ?_ | fail
           conv => whnf
           repeat (fail)
           refine loop_rule ttOk mixed (by kernel_rfl) (ι := { i : Nat // i ≤ 8 }) (fun i => [(1, .i 32), (5, .i 64), (6, .sl 1 0 8 1 true), (7, .sl 2 0 80 1 true), (8, .u64 down_n), (10, .sl 3 0 D.length 1 false), (11, .i ((64 * j : Nat) : Int)), (17, .sl 4 0 8 1 true), (19, .i (i.1 : Int))]) (fun i => [some (.ro (T.map .u8)), some (.row 25 ((emL_n (addw_n h X i.1)).map .u64)), some (.ro (consL.map .u64)), some (.ro (D.map .u8)), some (.ro ((emL_n X).map .u64))]) (fun _ => 5) (fun i => 8 - i.1) ⟨0, by omega⟩ ?_ ?_
           ·
            have hz := addw_n_z h X
            dsimp only
            rw [hz]
            refine Weak.sel [0, 1, 2, 3, 5] rfl rfl ?_ ?_ rfl rfl
            ·
             (repeat' (first | exact trivial | refine And.intro ?_ ?_ | fail)) <;> first | rfl | fail
            ·
             (repeat' (first | exact trivial | refine And.intro ?_ ?_ | fail)) <;> first | rfl | exact ren_eq (by first | (simp; done) | fail) (by first | rfl | fail) | fail
           ·
            rintro ⟨i, hi7⟩
            dsimp only
            have hal := addw_len_n hhl X i
            have hall := emL_len_n (addw_n h X i)
            rw [hal] at hall
            have hXl := emL_len_n X
            rw [hrl] at hXl
            have has := addw_n_s h X i
            by_cases hi6 : i < 8
            ·
             have hlt : decide ((i : Int) < 8) = true := by simp; omega
             have hp := rwp i (by omega)
             have ga := emL_get_n (addw_n h X i) i (by omega)
             have gx := emL_get_n X i (by omega)
             have qc := f149_n (emb_n ((addw_n h X i).getD i 0) + emb_n (X.getD i 0))
             rw [sum2_n] at qc
             have hse : (emL_n (addw_n h X i)).set i (emb_n ((addw_n h X i).getD i 0 + X.getD i 0)) = emL_n (addw_n h X (i + 1)) := by
              rw [has]; unfold emL_n; rw [List.map_set]
             conv => whnf
             first | refine brT (by exact hlt) ?_ | fail
             conv => whnf
             repeat (first | (refine Exists.intro _ (And.intro (sload_u64 (i := i) (by first | rfl | omega | fail) (by first | omega | fail)) ?_); conv => whnf) | (refine Exists.intro _ (And.intro (idx_i (m := i) (by first | rfl | fail)) ?_); conv => whnf) | (refine And.intro (by first | omega | fail) ?_; conv => whnf) | fail)
             rw [ga, gx]
             refine ok1_callF [] [] true (qc) rfl rfl ⟨⟨rfl, by first | rfl | fail⟩, trivial, by first | rfl | fail, by first | rfl | fail, ?_⟩
             conv => whnf
             repeat (first | (refine Exists.intro _ (And.intro (sput_m64 (i := i) (by first | rfl | omega | fail)) ?_); conv => whnf) | (refine Exists.intro _ (And.intro (idx_i (m := i) (by first | rfl | fail)) ?_); conv => whnf) | (refine And.intro (by first | omega | (simp; omega) | fail) ?_; conv => whnf) | (refine And.intro (by kernel_rfl) ?_; conv => whnf) | fail)
             rw [hse]
             refine ⟨⟨i + 1, by omega⟩, by simp only; omega, ?_⟩
             dsimp only
             refine Weak.sel [0, 1, 2, 3, 4] rfl rfl ?_ ?_ rfl rfl
             ·
              (repeat' (first | exact trivial | refine And.intro ?_ ?_ | fail)) <;> first | exact wk_i (by first | exact hp | exact hp.symm | fail) | rfl | fail
             ·
              (repeat' (first | exact trivial | refine And.intro ?_ ?_ | fail)) <;> first | rfl | exact ren_eq (by first | (simp; done) | fail) (by first | rfl | fail) | fail
            ·
             obtain rfl : i = 8 := by omega
             have hnx : w64 (((64 * j : Nat) : Int) + w64 (2 * 32)) = ((64 * (j + 1) : Nat) : Int) := by
              rw [show w64 (2 * 32) = ((64 : Nat) : Int) from by decide, w64_of (by omega) (by omega)]; omega
             have hcs : addw_n h X 8 = blks_n k0_n h0_n D (j + 1) := by rw [hbs, comp_n_e, hX]
             rw [hcs]
             conv => whnf
             first | refine brF (by rfl) ?_ | fail
             conv => whnf
             repeat (fail)
             refine ⟨⟨j + 1, hc⟩, by simp only; omega, ?_⟩
             dsimp only
             refine Weak.sel [0, 1, 2, 3] rfl rfl ?_ ?_ rfl rfl
             ·
              (repeat' (first | exact trivial | refine And.intro ?_ ?_ | fail)) <;> first | exact wk_i (by first | exact hnx | exact hnx.symm | fail) | rfl | fail
             ·
              (repeat' (first | exact trivial | refine And.intro ?_ ?_ | fail)) <;> first | rfl | exact ren_eq (by first | (simp; done) | fail) (by first | rfl | fail) | fail
    ·
     obtain rfl : j = D.length / 64 := by omega
     have hge : decide (((64 * (D.length / 64) : Nat) : Int) < (D.length : Int)) = false := by simp; omega
     have hfin : outl_n h (4 * 8) = hash_n k0_n h0_n T := by rw [hh, hD]; exact rhash_n T
     rw [← hfin]
     have hel := emL_len_n h
     rw [hhl] at hel
     conv => whnf
     first | refine brF (by exact hge) ?_ | fail
     conv => whnf
     repeat (fail)
     refine SWp.weak (Weak.virt 20 5 1 rfl) ?_
     refine loop_rule ttOk mixed (by kernel_rfl) (ι := { i : Nat // i ≤ 8 }) (fun i => [(1, .i 32), (6, .sl 1 0 8 1 true), (20, .sl 4 0 (4 * i.1) 1 false), (21, .i (i.1 : Int))]) (fun i => [some (.ro (T.map .u8)), some (.row 25 ((emL_n h).map .u64)), some (.ro (consL.map .u64)), some (.ro (D.map .u8)), some (.row 5 ((outl_n h (4 * i.1)).map .u8))]) (fun _ => 5) (fun i => 8 - i.1) ⟨0, by omega⟩ ?_ ?_
     ·
      have hz := rout_z_n h
      dsimp only
      rw [hz]
      refine Weak.sel [0, 1, 2, 3, 4] rfl rfl ?_ ?_ rfl rfl
      ·
       (repeat' (first | exact trivial | refine And.intro ?_ ?_ | fail)) <;> first | rfl | fail
      ·
       (repeat' (first | exact trivial | refine And.intro ?_ ?_ | fail)) <;> first | rfl | exact ren_eq (by first | (simp; done) | fail) (by first | rfl | fail) | fail
     ·
      rintro ⟨i, hi7⟩
      dsimp only
      by_cases hi6 : i < 8
      ·
       have hlt : decide ((i : Int) < 8) = true := by simp; omega
       have hp := rwp i (by omega)
       conv => whnf
       first | refine brT (by exact hlt) ?_ | fail
       conv => whnf
       repeat (first | (refine Exists.intro _ (And.intro rfl ?_); conv => whnf) | fail)
       refine loop_rule ttOk mixed (by kernel_rfl) (ι := { m : Nat // m ≤ 4 }) (fun m => [(1, .i 32), (6, .sl 1 0 8 1 true), (20, .sl 4 0 (4 * i + m.1) 1 false), (21, .i (i : Int)), (22, .i (4 - 1 - (m.1 : Int)))]) (fun m => [some (.ro (T.map .u8)), some (.row 25 ((emL_n h).map .u64)), some (.ro (consL.map .u64)), some (.ro (D.map .u8)), some (.row 5 ((outl_n h (4 * i + m.1)).map .u8))]) (fun _ => 5) (fun m => 4 - m.1) ⟨0, by omega⟩ ?_ ?_
       ·
        refine Weak.sel [0, 1, 2, 3, 4] rfl rfl ?_ ?_ rfl rfl
        ·
         (repeat' (first | exact trivial | refine And.intro ?_ ?_ | fail)) <;> first | rfl | fail
        ·
         (repeat' (first | exact trivial | refine And.intro ?_ ?_ | fail)) <;> first | rfl | exact ren_eq (by first | (simp; done) | fail) (by first | rfl | fail) | fail
       ·
        rintro ⟨m, hm⟩
        dsimp only
        have hol := outl_len_n h (4 * i + m)
        by_cases hm4 : m < 4
        ·
         have hge2 : decide ((4 - 1 - (m : Int)) ≥ 0) = true := by simp; omega
         have h8 : w64 (8 * (4 - 1 - (m : Int))) = ((8 * (4 - 1 - m) : Nat) : Int) := by simp only [w64_eq]; omega
         have hp2 : w64 (4 - 1 - (m : Int) - 1) = 4 - 1 - ((m + 1 : Nat) : Int) := by simp only [w64_eq]; omega
         have hs := rout_s_n h i m hm4
         have gx := emL_get_n h i (by omega)
         have qp := f147 (8 * (4 - 1 - m)) (by omega)
         have hnz := pow_nz (n := 8 * (4 - 1 - m)) (by omega)
         have hsh := shr_n_eq (h.getD i 0) (8 * (4 - 1 - m)) (by omega)
         have hm2 := mod256 (emb_n (shr32 (h.getD i 0) (8 * (4 - 1 - m))))
         rw [emb_u8_n] at hm2
         rw [← h8] at qp
         obtain ⟨Z, hZ⟩ : ∃ Z, Z = outl_n h (4 * i + m) := ⟨_, rfl⟩
         rw [← hZ] at hol hs ⊢
         obtain ⟨c, hc2⟩ : ∃ c, c = (shr32 (h.getD i 0) (8 * (4 - 1 - m))).toUInt8 := ⟨_, rfl⟩
         rw [← hc2] at hs hm2
         have hap4 : (Z ++ [c]).map SV.u8 = List.take ((4 * i + m) * 1) (List.drop 0 (Z.map SV.u8)) ++ List.take (1 * 1) (List.drop 0 [SV.u8 c]) := (rcat8 (o := 0) (n := 4 * i + m) (E := Z) (b := [c]) (by omega) rfl).symm
         conv => whnf
         first | refine brT (by exact hge2) ?_ | fail
         conv => whnf
         repeat (first | (refine Exists.intro _ (And.intro (sload_u64 (i := i) (by first | rfl | omega | fail) (by first | omega | fail)) ?_); conv => whnf) | (refine Exists.intro _ (And.intro (idx_i (m := i) (by first | rfl | fail)) ?_); conv => whnf) | (refine And.intro (by first | omega | fail) ?_; conv => whnf) | fail)
         refine ok1_callF [] [] true (qp) rfl rfl ⟨⟨rfl, by first | rfl | fail⟩, trivial, by first | rfl | fail, by first | rfl | fail, ?_⟩
         conv => whnf
         repeat (fail)
         refine ⟨_, sarith_quo64b hnz, ?_⟩
         conv => whnf
         rw [gx, hsh]
         repeat (first | (refine Exists.intro _ (And.intro rfl ?_); conv => whnf) | (refine And.intro (by first | omega | (simp [ti5]; omega)) ?_; conv => whnf) | (refine And.intro (by kernel_rfl) ?_; conv => whnf) | fail)
         rw [hm2]
         repeat (fail)
         refine ⟨⟨m + 1, by omega⟩, by simp only; omega, ?_⟩
         dsimp only
         rw [hs]
         refine Weak.sel [0, 1, 2, 3, 6] rfl rfl ?_ ?_ rfl rfl
         ·
          (repeat' (first | exact trivial | refine And.intro ?_ ?_ | fail)) <;> first | exact wk_i (by first | exact hp2 | exact hp2.symm | fail) | rfl | fail
         ·
          (repeat' (first | exact trivial | exact ren_eq (plainL_u8 _) hap4 | refine And.intro ?_ ?_ | fail)) <;> first | rfl | exact ren_eq (by first | (simp; done) | fail) (by first | rfl | fail) | fail
        ·
         obtain rfl : m = 4 := by omega
         conv => whnf
         first | refine brF (by rfl) ?_ | fail
         conv => whnf
         repeat (fail)
         refine ⟨⟨i + 1, by omega⟩, by simp only; omega, ?_⟩
         dsimp only
         rw [show 4 * (i + 1) = 4 * i + 4 by omega]
         refine Weak.sel [0, 1, 2, 3, 4] rfl rfl ?_ ?_ rfl rfl
         ·
          (repeat' (first | exact trivial | refine And.intro ?_ ?_ | fail)) <;> first | exact wk_i (by first | exact hp | exact hp.symm | fail) | rfl | fail
         ·
          (repeat' (first | exact trivial | refine And.intro ?_ ?_ | fail)) <;> first | rfl | exact ren_eq (by first | (simp; done) | fail) (by first | rfl | fail) | fail
      ·
       obtain rfl : i = 8 := by omega
       conv => whnf
       first | refine brF (by rfl) ?_ | fail
       conv => whnf
       refine ⟨[0, 4], ?_, rfl, rfl, ?_, rfl⟩
       ·
        (repeat' (fail)) <;> first | rfl | fail
       ·
        (repeat' (first | exact trivial | refine And.intro ?_ ?_ | fail)) <;> first | rfl | exact ren_eq (by first | (simp; done) | fail) (by first | rfl | fail) | fail
end
theorem padw_len_w (T : List UInt8) : (padw_w T).length = 128 * ((padw_w T).length / 128) := by
 have h : (padw_w T).length = T.length + 1 + pz_w T.length + 16 := by
  unfold padw_w lenb_w
  rw [List.length_append, List.length_append, List.length_append, lset_len_w, List.length_replicate]; rfl
 have h2 := padz_yes_w T.length
 omega
theorem rws_s_w (b : List UInt8) (t : Nat) : (List.range (t + 1)).map (fun s => emb_w (wf_w b s 8)) = (List.range t).map (fun s => emb_w (wf_w b s 8)) ++ [emb_w (wf_w b t 8)] := by rw [List.range_succ, List.map_append]; rfl
theorem rws_16_w (b : List UInt8) : (List.range 16).map (fun s => emb_w (wf_w b s 8)) = emL_w ((wex_w b 0).take (0 + 16)) := by
 unfold emL_w
 have hl := win_len_w b 128
 apply List.ext_getElem
 ·
  simp [wex_len_w]
 ·
  intro i h1 h2
  have hi : i < 16 := by simpa using h1
  rw [List.getElem_map, List.getElem_map, List.getElem_range, List.getElem_take]
  have e := win_word_w b i hi
  rw [← e, List.getD_eq_getElem?_getD, List.getElem?_eq_getElem (by omega)]; rfl
theorem hfil_w : fil 8 8 (fun j => firstL.getD j 0 / down_w) (fun j => firstL.getD j 0) = emL_w h0_w := by
 rw [fil_full, h0e_w]; rfl
theorem hfil0_w : fil 8 0 (fun j => firstL.getD j 0 / down_w) (fun j => firstL.getD j 0) = firstL := rfl
theorem blks0_w (D : List UInt8) : blks_w k0_w h0_w D 0 = h0_w := rfl
theorem blkss_w (D : List UInt8) (j : Nat) : blks_w k0_w h0_w D (j + 1) = comp_w k0_w (blks_w k0_w h0_w D j) ((D.drop (128 * j)).take 128) := rfl
theorem wfz_w (b : List UInt8) (t : Nat) : emb_w (wf_w b t 0) = UInt64.ofNat (Int.toNat 0) := by unfold wf_w emb_w; decide
theorem emL_get_w (x : List UInt64) (i : Nat) (h : i < x.length) : (emL_w x).getD i 0 = emb_w (x.getD i 0) := by
 unfold emL_w
 rw [List.getD_eq_getElem?_getD, List.getD_eq_getElem?_getD, List.getElem?_map, List.getElem?_eq_getElem h]; rfl
theorem rout_z_w (H : List UInt64) : outl_w H (8 * 0) = [] := rfl
theorem rout_s_w (H : List UInt64) (i m : Nat) (hm : m < 8) : outl_w H (8 * i + (m + 1)) = outl_w H (8 * i + m) ++ [(shr64 (H.getD i 0) (8 * (8 - 1 - m))).toUInt8] := by
 show outl_w H (8 * i + m) ++ [(shr64 (H.getD ((8 * i + m) / 8) 0) (8 * (8 - 1 - (8 * i + m) % 8))).toUInt8] = _
 rw [show (8 * i + m) / 8 = i by omega, show 8 - 1 - (8 * i + m) % 8 = 8 - 1 - m by omega]
theorem rhash_w (T : List UInt8) : outl_w (blks_w k0_w h0_w (padw_w T) ((padw_w T).length / 128)) (8 * 8) = hash_w k0_w h0_w T := rfl
theorem emb_u8_w (x : UInt64) : (emb_w x).toUInt8 = x.toUInt8 := by
 apply UInt8.toNat_inj.1
 have e0 : (emb_w x).toNat = x.toNat := by first | rfl
 rw [UInt64.toNat_toUInt8, e0]
 first | exact (UInt64.toNat_toUInt8 x).symm
theorem tix_w : ∀ t : Nat, t < 16 → w64 (Int.tdiv (w64 ((t : Int) * 64)) 8) = ((8 * t : Nat) : Int) := by decide +kernel
section
attribute [local irreducible] padw_w blks_w hash_w outb_w outl_w wex_w wf_w rnds_w addw_w comp_w firstL consL down_w emb_w h0_w k0_w
theorem f133_w (T : List UInt8) (hT : T.length < 100000000000000) (f : Bool) : SCall Try.prog 133 [.sl 0 0 T.length 1 f, .i 64] [some (.ro (T.map .u8))] (.sl 1 0 64 1 false) [some (.ro (T.map .u8)), some (.row 5 ((hash_w k0_w h0_w T).map .u8))] := by
 have qp := f147 (64 - 64) (by decide)
 have hdn : UInt64.ofNat (2 ^ (64 - 64)) = down_w := by unfold down_w; rfl
 rw [hdn] at qp
 have hd1 : UInt64.ofNat (Int.toNat 1) = down_w := by unfold down_w; rfl
 have q8 := f148_w T hT f
 have hf8 := hfil_w
 have hf0 := hfil0_w
 have hfl : firstL.length = 8 := by unfold firstL; rfl
 have hcl : consL.length = 80 := by unfold consL; rfl
 refine scall_of ttOk (by kernel_rfl : Try.prog.funcs[133]? = some Try.f133) rfl rfl rfl ?_
 try simp only [List.length_cons, List.length_nil, Nat.zero_add, Nat.reduceAdd]
 refine sw_ok ttOk mixed (by kernel_rfl) ?_
 conv => whnf
 repeat (first | (refine brF rfl ?_; conv => whnf) | fail)
 refine ok1_callF [] [true] false (f145) rfl rfl ⟨⟨rfl, by first | rfl | fail⟩, trivial, by first | simp [plainHf, plainB], by first | rfl | fail, ?_⟩
 conv => whnf
 repeat (fail)
 refine ok1_callF [] [true] false (f146) rfl rfl ⟨⟨rfl, by first | rfl | fail⟩, trivial, by first | simp [plainHf, plainB], by first | rfl | fail, ?_⟩
 conv => whnf
 repeat (fail)
 refine ok1_callF [] [] true (qp) rfl rfl ⟨⟨rfl, by first | rfl | fail⟩, trivial, by first | rfl | fail, by first | rfl | fail, ?_⟩
 conv => whnf
 repeat (first | (refine brT rfl ?_; conv => whnf) | fail)
 try rw [hd1]
 refine loop_rule ttOk mixed (by kernel_rfl) (ι := { i : Nat // i ≤ 8 }) (fun i => [(0, .sl 0 0 T.length 1 f), (1, .i 64), (5, .i 80), (6, .sl 1 0 8 1 true), (7, .sl 2 0 80 1 true), (8, .u64 down_w), (9, .i (i.1 : Int))]) (fun i => [some (.ro (T.map .u8)), some (.row 25 ((fil 8 i.1 (fun j => firstL.getD j 0 / down_w) (fun j => firstL.getD j 0)).map .u64)), some (.ro (consL.map .u64))]) (fun _ => 3) (fun i => 8 - i.1) ⟨0, by omega⟩ ?_ ?_
 ·
  dsimp only
  rw [hf0]
  refine Weak.sel [0, 1, 2] rfl rfl ?_ ?_ rfl rfl
  ·
   (repeat' (first | exact trivial | refine And.intro ?_ ?_ | fail)) <;> first | rfl | fail
  ·
   (repeat' (first | exact trivial | refine And.intro ?_ ?_ | fail)) <;> first | rfl | exact ren_eq (by first | (simp; done) | fail) (by first | rfl | fail) | fail
 ·
  rintro ⟨i, hi⟩
  dsimp only
  have hfln := fil_len 8 i (fun j => firstL.getD j 0 / down_w) (fun j => firstL.getD j 0)
  by_cases hi8 : i < 8
  ·
   have hlt : decide ((i : Int) < 8) = true := by simp; omega
   have hp := rwp i (by omega)
   have hx : (fil 8 i (fun j => firstL.getD j 0 / down_w) (fun j => firstL.getD j 0)).getD i 0 / down_w = (fun j => firstL.getD j 0 / down_w) i := by
    rw [fil_getD hi8, if_neg (by omega)]
   have hs := fil_setx (f := fun j => firstL.getD j 0 / down_w) (g := fun j => firstL.getD j 0) hi8 hx
   have hdz : down_w ≠ 0 := by unfold down_w; decide
   conv => whnf
   first | refine brT (by exact hlt) ?_ | fail
   conv => whnf
   repeat (first | (refine Exists.intro _ (And.intro (sload_u64 (i := i) (by first | rfl | omega | fail) (by first | omega | fail)) ?_); conv => whnf) | (refine Exists.intro _ (And.intro (idx_i (m := i) (by first | rfl | fail)) ?_); conv => whnf) | (refine And.intro (by first | omega | fail) ?_; conv => whnf) | fail)
   refine ⟨_, sarith_quo64b hdz, ?_⟩
   conv => whnf
   repeat (first | (refine Exists.intro _ (And.intro (sput_m64 (i := i) (by first | rfl | omega | fail)) ?_); conv => whnf) | (refine Exists.intro _ (And.intro (idx_i (m := i) (by first | rfl | fail)) ?_); conv => whnf) | (refine And.intro (by first | omega | fail) ?_; conv => whnf) | (refine And.intro ⟨by first | exact @rfl Nat _ | fail, by first | (simp only [hfln, ti5_sz, ti25_sz, List.length_map, List.length_set]; omega) | fail⟩ ?_; conv => whnf) | fail)
   refine ⟨⟨i + 1, by omega⟩, by simp only; omega, ?_⟩
   dsimp only
   rw [← hs]
   refine Weak.sel [0, 1, 2] rfl rfl ?_ ?_ rfl rfl
   ·
    (repeat' (first | exact trivial | refine And.intro ?_ ?_ | fail)) <;> first | exact wk_i (by first | exact hp | exact hp.symm | fail) | rfl | fail
   ·
    (repeat' (first | exact trivial | refine And.intro ?_ ?_ | fail)) <;> first | rfl | exact ren_eq (by first | (simp; done) | fail) (by first | rfl | fail) | exact ren_m64 (by first | rfl | fail) | fail
  ·
   obtain rfl : i = 8 := by omega
   rw [hf8]
   conv => whnf
   first | refine brF (by rfl) ?_ | fail
   conv => whnf
   repeat (fail)
   refine ok1_callF [0] [false, true] false (q8) rfl rfl ⟨⟨rfl, by first | rfl | fail⟩, by (repeat' (first | exact trivial | refine And.intro ?_ ?_)) <;> first | exact ren_eq (by first | (simp; done) | fail) (by first | rfl | fail) | fail, by first | simp [plainHf, plainB], by first | rfl | fail, ?_⟩
   conv => whnf
   repeat (fail)
   have hDl := padw_len_w T
   obtain ⟨D, hD⟩ : ∃ D, D = padw_w T := ⟨_, rfl⟩
   rw [← hD] at hDl ⊢
   have hDb : D.length < 200000000000000 := by
    rw [hD]
    have h : (padw_w T).length = T.length + 1 + pz_w T.length + 16 := by
     unfold padw_w lenb_w
     rw [List.length_append, List.length_append, List.length_append, lset_len_w, List.length_replicate]; rfl
    have hpl : pz_w T.length < 128 := by unfold pz_w; exact Nat.mod_lt _ (by decide)
    omega
   refine loop_rule ttOk mixed (by kernel_rfl) (ι := { j : Nat // 128 * j ≤ D.length }) (fun j => [(1, .i 64), (5, .i 80), (6, .sl 1 0 8 1 true), (7, .sl 2 0 80 1 true), (8, .u64 down_w), (10, .sl 3 0 D.length 1 false), (11, .i ((128 * j.1 : Nat) : Int))]) (fun j => [some (.ro (T.map .u8)), some (.row 25 ((emL_w (blks_w k0_w h0_w D j.1)).map .u64)), some (.ro (consL.map .u64)), some (.ro (D.map .u8))]) (fun _ => 4) (fun j => D.length - 128 * j.1) ⟨0, by omega⟩ ?_ ?_
   ·
    have hz := blks0_w D
    dsimp only
    rw [hz]
    refine Weak.sel [0, 1, 2, 3] rfl rfl ?_ ?_ rfl rfl
    ·
     (repeat' (first | exact trivial | refine And.intro ?_ ?_ | fail)) <;> first | rfl | fail
    ·
     (repeat' (first | exact trivial | refine And.intro ?_ ?_ | fail)) <;> first | rfl | exact ren_eq (by first | (simp; done) | fail) (by first | rfl | fail) | fail
   ·
    rintro ⟨j, hj⟩
    dsimp only
    have hbs := blkss_w D j
    have hhl := blks_len_w k0_w h0_w_len D j
    obtain ⟨h, hh⟩ : ∃ h, h = blks_w k0_w h0_w D j := ⟨_, rfl⟩
    rw [← hh] at hbs hhl ⊢
    by_cases hc : 128 * (j + 1) ≤ D.length
    ·
     have hlt : decide (((128 * j : Nat) : Int) < (D.length : Int)) = true := by simp; omega
     obtain ⟨b, hb⟩ : ∃ b, b = (D.drop (128 * j)).take 128 := ⟨_, rfl⟩
     rw [← hb] at hbs
     have hbg : ∀ i, i < 128 → D.getD (128 * j + i) 0 = b.getD i 0 := fun i hi => by
      rw [hb, List.getD_eq_getElem?_getD, List.getD_eq_getElem?_getD, List.getElem?_take_of_lt hi, List.getElem?_drop]
     have hbl : b.length = 128 := by rw [hb, List.length_take, List.length_drop]; omega
     conv => whnf
     first | refine brT (by exact hlt) ?_ | fail
     conv => whnf
     repeat (fail)
     refine SWp.weak (Weak.virt 12 25 1 rfl) ?_
     refine loop_rule ttOk mixed (by kernel_rfl) (ι := { t : Nat // t ≤ 16 }) (fun t => [(1, .i 64), (5, .i 80), (6, .sl 1 0 8 1 true), (7, .sl 2 0 80 1 true), (8, .u64 down_w), (10, .sl 3 0 D.length 1 false), (11, .i ((128 * j : Nat) : Int)), (12, .sl 4 0 t.1 1 false), (13, .i (t.1 : Int))]) (fun t => [some (.ro (T.map .u8)), some (.row 25 ((emL_w h).map .u64)), some (.ro (consL.map .u64)), some (.ro (D.map .u8)), some (.row 25 (((List.range t.1).map (fun s => emb_w (wf_w b s 8))).map .u64))]) (fun _ => 5) (fun t => 16 - t.1) ⟨0, by omega⟩ ?_ ?_
     ·
      refine Weak.sel [0, 1, 2, 3, 4] rfl rfl ?_ ?_ rfl rfl
      ·
       (repeat' (first | exact trivial | refine And.intro ?_ ?_ | fail)) <;> first | rfl | fail
      ·
       (repeat' (first | exact trivial | refine And.intro ?_ ?_ | fail)) <;> first | rfl | exact ren_eq (by first | (simp; done) | fail) (by first | rfl | fail) | fail
     ·
      rintro ⟨t, ht⟩
      dsimp only
      have hws := rws_s_w b t
      by_cases ht2 : t < 16
      ·
       have hlt2 : decide ((t : Int) < 16) = true := by simp; omega
       have hp := rwp t (by omega)
       obtain ⟨Y, hY⟩ : ∃ Y, Y = (List.range t).map (fun s => emb_w (wf_w b s 8)) := ⟨_, rfl⟩
       have hYl : Y.length = t := by rw [hY]; simp
       rw [← hY] at hws ⊢
       conv => whnf
       first | refine brT (by exact hlt2) ?_ | fail
       conv => whnf
       repeat (fail)
       refine loop_rule ttOk mixed (by kernel_rfl) (ι := { m : Nat // m ≤ 8 }) (fun m => [(1, .i 64), (5, .i 80), (6, .sl 1 0 8 1 true), (7, .sl 2 0 80 1 true), (8, .u64 down_w), (10, .sl 3 0 D.length 1 false), (11, .i ((128 * j : Nat) : Int)), (12, .sl 4 0 t 1 false), (13, .i (t : Int)), (14, .u64 (emb_w (wf_w b t m.1))), (15, .i (m.1 : Int))]) (fun m => [some (.ro (T.map .u8)), some (.row 25 ((emL_w h).map .u64)), some (.ro (consL.map .u64)), some (.ro (D.map .u8)), some (.row 25 (Y.map .u64))]) (fun _ => 5) (fun m => 8 - m.1) ⟨0, by omega⟩ ?_ ?_
       ·
        have hz := wfz_w b t
        dsimp only
        rw [hz]
        refine Weak.sel [0, 1, 2, 3, 4] rfl rfl ?_ ?_ rfl rfl
        ·
         (repeat' (first | exact trivial | refine And.intro ?_ ?_ | fail)) <;> first | rfl | fail
        ·
         (repeat' (first | exact trivial | refine And.intro ?_ ?_ | fail)) <;> first | rfl | exact ren_eq (by first | (simp; done) | fail) (by first | rfl | fail) | fail
       ·
        rintro ⟨m, hm⟩
        dsimp only
        by_cases hm2 : m < 8
        ·
         have hlt3 : decide ((m : Int) < w64 (Int.tdiv 64 8)) = true := by
          rw [show w64 (Int.tdiv 64 8) = 8 from by decide]; simp; omega
         have hpm := rwp m (by omega)
         have hti : w64 (Int.tdiv (w64 ((t : Int) * 64)) 8) = ((8 * t : Nat) : Int) := tix_w t ht2
         have hix : w64 (w64 (((128 * j : Nat) : Int) + w64 (Int.tdiv (w64 ((t : Int) * 64)) 8)) + (m : Int)) = ((128 * j + (8 * t + m) : Nat) : Int) := by
          rw [hti]; exact ix3 _ _ _ (by omega)
         have hwr := wf_ref_w b t m hm2
         rw [← hbg (8 * t + m) (by omega)] at hwr
         have hin : 128 * j + (8 * t + m) < D.length := by omega
         conv => whnf
         repeat (first | (refine Exists.intro _ (And.intro rfl ?_); conv => whnf) | fail)
         first | refine brT (by exact hlt3) ?_ | fail
         conv => whnf
         repeat (first | (refine Exists.intro _ (And.intro (sload_u8 (i := 128 * j + (8 * t + m)) (by first | rfl | omega | fail) (by first | omega | fail)) ?_); conv => whnf) | (refine Exists.intro _ (And.intro (idx_i (m := 128 * j + (8 * t + m)) (by first | rfl | omega | fail)) ?_); conv => whnf) | (refine Exists.intro _ (And.intro rfl ?_); conv => whnf) | (refine And.intro (by first | omega | fail) ?_; conv => whnf) | fail)
         rw [hwr]
         refine ⟨⟨m + 1, by omega⟩, by simp only; omega, ?_⟩
         dsimp only
         refine Weak.sel [0, 1, 2, 3, 4] rfl rfl ?_ ?_ rfl rfl
         ·
          (repeat' (first | exact trivial | refine And.intro ?_ ?_ | fail)) <;> first | exact wk_i (by first | exact hpm | exact hpm.symm | fail) | rfl | fail
         ·
          (repeat' (first | exact trivial | refine And.intro ?_ ?_ | fail)) <;> first | rfl | exact ren_eq (by first | (simp; done) | fail) (by first | rfl | fail) | fail
        ·
         obtain rfl : m = 8 := by omega
         have hlt3 : decide ((8 : Int) < w64 (Int.tdiv 64 8)) = false := by decide
         obtain ⟨x, hx⟩ : ∃ x, x = emb_w (wf_w b t 8) := ⟨_, rfl⟩
         rw [← hx] at hws ⊢
         have hap : (Y ++ [x]).map SV.u64 = List.take (t * 1) (List.drop 0 (Y.map SV.u64)) ++ List.take (1 * 1) (List.drop 0 [SV.u64 x]) := by
          rw [List.drop_zero, List.take_of_length_le (l := Y.map SV.u64) (by rw [List.length_map]; omega), List.map_append]; rfl
         conv => whnf
         repeat (first | (refine brF rfl ?_; conv => whnf) | (refine Exists.intro _ (And.intro rfl ?_); conv => whnf) | fail)
         refine And.intro ⟨by show 0 + t * 1 ≤ (Y.map SV.u64).length; rw [List.length_map]; omega, Nat.le_refl 1, by show (t + 1) * 8 ≤ _; omega⟩ ?_
         conv => whnf
         repeat (fail)
         refine ⟨⟨t + 1, by omega⟩, by simp only; omega, ?_⟩
         dsimp only
         rw [hws]
         refine Weak.sel [0, 1, 2, 3, 6] rfl rfl ?_ ?_ rfl rfl
         ·
          (repeat' (first | exact trivial | refine And.intro ?_ ?_ | fail)) <;> first | exact wk_i (by first | exact hp | exact hp.symm | fail) | rfl | fail
         ·
          (repeat' (first | exact trivial | exact ren_eq (plainL_u64 _) hap | refine And.intro ?_ ?_ | fail)) <;> first | rfl | exact ren_eq (by first | (simp; done) | fail) (by first | rfl | fail) | fail
      ·
       obtain rfl : t = 16 := by omega
       rw [rws_16_w]
       conv => whnf
       first | refine brF (by rfl) ?_ | fail
       conv => whnf
       repeat (fail)
       refine loop_rule ttOk mixed (by kernel_rfl) (ι := { t : Nat // t ≤ 80 - 16 }) (fun t => [(1, .i 64), (5, .i 80), (6, .sl 1 0 8 1 true), (7, .sl 2 0 80 1 true), (8, .u64 down_w), (10, .sl 3 0 D.length 1 false), (11, .i ((128 * j : Nat) : Int)), (12, .sl 4 0 (t.1 + 16) 1 false), (16, .i ((t.1 + 16 : Nat) : Int))]) (fun t => [some (.ro (T.map .u8)), some (.row 25 ((emL_w h).map .u64)), some (.ro (consL.map .u64)), some (.ro (D.map .u8)), some (.row 25 ((emL_w ((wex_w b t.1).take (t.1 + 16))).map .u64))]) (fun _ => 5) (fun t => 80 - t.1) ⟨0, by omega⟩ ?_ ?_
       ·
        refine Weak.sel [0, 1, 2, 3, 4] rfl rfl ?_ ?_ rfl rfl
        ·
         (repeat' (first | exact trivial | refine And.intro ?_ ?_ | fail)) <;> first | rfl | fail
        ·
         (repeat' (first | exact trivial | refine And.intro ?_ ?_ | fail)) <;> first | rfl | exact ren_eq (by first | (simp; done) | fail) (by first | rfl | fail) | fail
       ·
        rintro ⟨t, ht3⟩
        dsimp only
        have hwl := wex_len_w b t
        by_cases ht4 : t < 80 - 16
        ·
         have hlt : decide (((t + 16 : Nat) : Int) < 80) = true := by simp; omega
         have h14 : w64 (((t + 16 : Nat) : Int) - 2) = ((t + 14 : Nat) : Int) := wm16 t 2 (by omega) (by omega)
         have h9 : w64 (((t + 16 : Nat) : Int) - 7) = ((t + 9 : Nat) : Int) := wm16 t 7 (by omega) (by omega)
         have h1 : w64 (((t + 16 : Nat) : Int) - 15) = ((t + 1 : Nat) : Int) := wm16 t 15 (by omega) (by omega)
         have h0 : w64 (((t + 16 : Nat) : Int) - 16) = ((t : Nat) : Int) := wm16 t 16 (by omega) (by omega)
         have hp : w64 (((t + 16 : Nat) : Int) + 1) = ((t + 1 + 16 : Nat) : Int) := by simp only [w64_eq]; omega
         have hnew := wex_new_w b t ht4
         have htk := wex_take_w b t ht4
         have hgt : ∀ i, i < t + 16 → (emL_w ((wex_w b t).take (t + 16))).getD i 0 = emb_w ((wex_w b t).getD i 0) := fun i hi => by
          rw [emL_get_w _ i (by rw [List.length_take, hwl]; omega), wex_old_w b t i (by omega) hi]
         have g14 := hgt (t + 14) (by omega)
         have g9 := hgt (t + 9) (by omega)
         have g1 := hgt (t + 1) (by omega)
         have g0 := hgt t (by omega)
         obtain ⟨a14, ha14⟩ : ∃ a, a = (wex_w b t).getD (t + 14) 0 := ⟨_, rfl⟩
         obtain ⟨a9, ha9⟩ : ∃ a, a = (wex_w b t).getD (t + 9) 0 := ⟨_, rfl⟩
         obtain ⟨a1, ha1⟩ : ∃ a, a = (wex_w b t).getD (t + 1) 0 := ⟨_, rfl⟩
         obtain ⟨a0, ha0⟩ : ∃ a, a = (wex_w b t).getD t 0 := ⟨_, rfl⟩
         rw [← ha14] at g14 hnew
         rw [← ha9] at g9 hnew
         rw [← ha1] at g1 hnew
         rw [← ha0] at g0 hnew
         obtain ⟨Y, hY⟩ : ∃ Y, Y = emL_w ((wex_w b t).take (t + 16)) := ⟨_, rfl⟩
         have hYl : Y.length = t + 16 := by rw [hY, emL_len_w, List.length_take, hwl]; omega
         obtain ⟨v, hv⟩ : ∃ v, v = (wex_w b (t + 1)).getD (t + 16) 0 := ⟨_, rfl⟩
         have hYs : emL_w ((wex_w b (t + 1)).take (t + 1 + 16)) = Y ++ [emb_w v] := by
          rw [htk, hY, ← hv]; unfold emL_w; rw [List.map_append]; rfl
         rw [← hv] at hnew
         rw [← hY] at g14 g9 g1 g0 ⊢
         have q3 := f150_w_3 a14
         have q2 := f150_w_2 a1
         obtain ⟨s3, hs3⟩ : ∃ s, s = small_w a14 19 61 6 := ⟨_, rfl⟩
         obtain ⟨s2, hs2⟩ : ∃ s, s = small_w a1 1 8 7 := ⟨_, rfl⟩
         rw [← hs3] at q3 hnew
         rw [← hs2] at q2 hnew
         have qc := f149_w (emb_w s3 + emb_w a9 + emb_w s2 + emb_w a0)
         rw [sum4_w, ← hnew] at qc
         obtain ⟨x, hx⟩ : ∃ x, x = emb_w v := ⟨_, rfl⟩
         rw [← hx] at qc hYs
         have hap : (Y ++ [x]).map SV.u64 = List.take ((t + 16) * 1) (List.drop 0 (Y.map SV.u64)) ++ List.take (1 * 1) (List.drop 0 [SV.u64 x]) := by
          rw [List.drop_zero, List.take_of_length_le (l := Y.map SV.u64) (by rw [List.length_map]; omega), List.map_append]; rfl
         clear hs3 hs2 hx hv hnew ha14 ha9 ha1 ha0 hgt htk
         conv => whnf
         first | refine brT (by exact hlt) ?_ | fail
         conv => whnf
         repeat (first | (refine Exists.intro _ (And.intro (sload_u64 (i := t + 14) (by first | rfl | omega | fail) (by first | omega | fail)) ?_); conv => whnf) | (refine Exists.intro _ (And.intro (idx_i (m := t + 14) (by first | rfl | omega | fail)) ?_); conv => whnf) | (refine And.intro (by first | omega | fail) ?_; conv => whnf) | fail)
         rw [g14]
         refine ok1_callF [] [] true (q3) rfl rfl ⟨⟨rfl, by first | rfl | fail⟩, trivial, by first | rfl | fail, by first | rfl | fail, ?_⟩
         conv => whnf
         repeat (first | (refine Exists.intro _ (And.intro (sload_u64 (i := t + 9) (by first | rfl | omega | fail) (by first | omega | fail)) ?_); conv => whnf) | (refine Exists.intro _ (And.intro (idx_i (m := t + 9) (by first | rfl | omega | fail)) ?_); conv => whnf) | (refine Exists.intro _ (And.intro (sload_u64 (i := t + 1) (by first | rfl | omega | fail) (by first | omega | fail)) ?_); conv => whnf) | (refine Exists.intro _ (And.intro (idx_i (m := t + 1) (by first | rfl | omega | fail)) ?_); conv => whnf) | (refine And.intro (by first | omega | fail) ?_; conv => whnf) | fail)
         rw [g9, g1]
         refine ok1_callF [] [] true (q2) rfl rfl ⟨⟨rfl, by first | rfl | fail⟩, trivial, by first | rfl | fail, by first | rfl | fail, ?_⟩
         conv => whnf
         repeat (first | (refine Exists.intro _ (And.intro (sload_u64 (i := t) (by first | rfl | omega | fail) (by first | omega | fail)) ?_); conv => whnf) | (refine Exists.intro _ (And.intro (idx_i (m := t) (by first | rfl | omega | fail)) ?_); conv => whnf) | (refine And.intro (by first | omega | fail) ?_; conv => whnf) | fail)
         rw [g0]
         refine ok1_callF [] [] true (qc) rfl rfl ⟨⟨rfl, by first | rfl | fail⟩, trivial, by first | rfl | fail, by first | rfl | fail, ?_⟩
         conv => whnf
         repeat (first | (refine Exists.intro _ (And.intro rfl ?_); conv => whnf) | fail)
         refine And.intro ⟨by show 0 + (t + 16) * 1 ≤ (Y.map SV.u64).length; rw [List.length_map]; omega, Nat.le_refl 1, by show (t + 16 + 1) * 8 ≤ _; omega⟩ ?_
         conv => whnf
         repeat (first | (refine And.intro (by kernel_rfl) ?_; conv => whnf) | fail)
         refine ⟨⟨t + 1, by omega⟩, by simp only; omega, ?_⟩
         dsimp only
         rw [hYs]
         refine Weak.sel [0, 1, 2, 3, 6] rfl rfl ?_ ?_ rfl rfl
         ·
          (repeat' (first | exact trivial | refine And.intro ?_ ?_ | fail)) <;> first | exact wk_i (by first | exact hp | exact hp.symm | fail) | rfl | fail
         ·
          (repeat' (first | exact trivial | exact ren_eq (plainL_u64 _) hap | refine And.intro ?_ ?_ | fail)) <;> first | rfl | exact ren_eq (by first | (simp; done) | fail) (by first | rfl | fail) | fail
        ·
         obtain rfl : t = 80 - 16 := by omega
         have hfull : (wex_w b (80 - 16)).take (80 - 16 + 16) = wex_w b (80 - 16) := List.take_of_length_le (by omega)
         rw [hfull]
         have hel := emL_len_w h
         rw [hhl] at hel
         have hvc : List.take (0 * ti25.sz) (List.drop 0 (reps 0 (SV.u64 0).cells)) ++ List.take (8 * ti25.sz) (List.drop 0 (SB.row 25 ((emL_w h).map SV.u64)).cells) = (emL_w h).map SV.u64 := by
          show ([] : List SV) ++ List.take (8 * 1) ((emL_w h).map SV.u64) = _
          rw [List.nil_append, List.take_of_length_le (by rw [List.length_map]; omega)]
         conv => whnf
         first | refine brF (by rfl) ?_ | fail
         conv => whnf
         repeat (first | (refine Exists.intro _ (And.intro rfl ?_); conv => whnf) | (refine And.intro ⟨by first | omega | fail, by first | (simp [hel]; done) | fail, by first | exact Nat.le_of_ble_eq_true rfl | fail⟩ ?_; conv => whnf) | fail)
         rw [hvc]
         refine loop_rule ttOk mixed (by kernel_rfl) (ι := { t : Nat // t ≤ 80 }) (fun t => [(1, .i 64), (5, .i 80), (6, .sl 1 0 8 1 true), (7, .sl 2 0 80 1 true), (8, .u64 down_w), (10, .sl 3 0 D.length 1 false), (11, .i ((128 * j : Nat) : Int)), (12, .sl 4 0 80 1 false), (17, .sl 5 0 8 1 (vf t.1)), (18, .i (t.1 : Int))]) (fun t => [some (.ro (T.map .u8)), some (.row 25 ((emL_w h).map .u64)), some (.ro (consL.map .u64)), some (.ro (D.map .u8)), some (.row 25 ((emL_w (wex_w b (80 - 16))).map .u64)), some (.row 25 ((emL_w (rnds_w k0_w h b t.1)).map .u64))]) (fun _ => 6) (fun t => 80 - t.1) ⟨0, by omega⟩ ?_ ?_
         ·
          have hz := rnds_w_z k0_w h b
          dsimp only
          rw [hz]
          refine Weak.sel [0, 1, 2, 3, 4, 6] rfl rfl ?_ ?_ rfl rfl
          ·
           (repeat' (first | exact trivial | refine And.intro ?_ ?_ | fail)) <;> first | rfl | fail
          ·
           (repeat' (first | exact trivial | refine And.intro ?_ ?_ | fail)) <;> first | rfl | exact ren_eq (by first | (simp; done) | fail) (by first | rfl | fail) | fail
         ·
          rintro ⟨t, ht5⟩
          dsimp only
          have hrl := rnds_len_w (k := k0_w) hhl b t
          have hrs := rnds_w_s k0_w h b t
          by_cases ht6 : t < 80
          ·
           have hlt : decide ((t : Int) < 80) = true := by simp; omega
           have hp := rwp t (by omega)
           have hke := k0e_w t (by omega)
           have hwe := emL_get_w (wex_w b (80 - 16)) t (by omega)
           have hdz : down_w ≠ 0 := by unfold down_w; decide
           have hYl := emL_len_w (wex_w b (80 - 16))
           rw [hwl] at hYl
           have q := f151_w (rnds_w k0_w h b t) hrl (k0_w.getD t 0) ((wex_w b (80 - 16)).getD t 0) (vf t)
           rw [← hrs] at q
           conv => whnf
           first | refine brT (by exact hlt) ?_ | fail
           conv => whnf
           repeat (first | (refine Exists.intro _ (And.intro (sload_u64 (i := t) (by first | rfl | omega | fail) (by first | omega | fail)) ?_); conv => whnf) | (refine Exists.intro _ (And.intro (idx_i (m := t) (by first | rfl | fail)) ?_); conv => whnf) | (refine And.intro (by first | omega | fail) ?_; conv => whnf) | fail)
           refine ⟨_, sarith_quo64b hdz, ?_⟩
           conv => whnf
           repeat (first | (refine Exists.intro _ (And.intro (sload_u64 (i := t) (by first | rfl | omega | fail) (by first | omega | fail)) ?_); conv => whnf) | (refine Exists.intro _ (And.intro (idx_i (m := t) (by first | rfl | fail)) ?_); conv => whnf) | (refine And.intro (by first | omega | fail) ?_; conv => whnf) | fail)
           rw [hke, hwe]
           refine ok1_callF [5] [false, true] false (q) rfl rfl ⟨⟨rfl, by first | rfl | fail⟩, by (repeat' (first | exact trivial | refine And.intro ?_ ?_)) <;> first | exact ren_eq (by first | (simp; done) | fail) (by first | rfl | fail) | fail, by first | simp [plainHf, plainB], by first | rfl | fail, ?_⟩
           conv => whnf
           repeat (first | (refine And.intro (by kernel_rfl) ?_; conv => whnf) | fail)
           refine ⟨⟨t + 1, by omega⟩, by simp only; omega, ?_⟩
           dsimp only
           refine Weak.sel [0, 1, 2, 3, 4, 6] rfl rfl ?_ ?_ rfl rfl
           ·
            (repeat' (first | exact trivial | refine And.intro ?_ ?_ | fail)) <;> first | exact wk_i (by first | exact hp | exact hp.symm | fail) | rfl | fail
           ·
            (repeat' (first | exact trivial | refine And.intro ?_ ?_ | fail)) <;> first | rfl | exact ren_eq (by first | (simp; done) | fail) (by first | rfl | fail) | fail
          ·
           obtain rfl : t = 80 := by omega
           obtain ⟨X, hX⟩ : ∃ X, X = rnds_w k0_w h b 80 := ⟨_, rfl⟩
           rw [← hX] at hrl ⊢
           conv => whnf
           first | refine brF (by rfl) ?_ | fail
           conv => whnf
           repeat (fail)
           refine loop_rule ttOk mixed (by kernel_rfl) (ι := { i : Nat // i ≤ 8 }) (fun i => [(1, .i 64), (5, .i 80), (6, .sl 1 0 8 1 true), (7, .sl 2 0 80 1 true), (8, .u64 down_w), (10, .sl 3 0 D.length 1 false), (11, .i ((128 * j : Nat) : Int)), (17, .sl 4 0 8 1 true), (19, .i (i.1 : Int))]) (fun i => [some (.ro (T.map .u8)), some (.row 25 ((emL_w (addw_w h X i.1)).map .u64)), some (.ro (consL.map .u64)), some (.ro (D.map .u8)), some (.ro ((emL_w X).map .u64))]) (fun _ => 5) (fun i => 8 - i.1) ⟨0, by omega⟩ ?_ ?_
           ·
            have hz := addw_w_z h X
            dsimp only
            rw [hz]
            refine Weak.sel [0, 1, 2, 3, 5] rfl rfl ?_ ?_ rfl rfl
            ·
             (repeat' (first | exact trivial | refine And.intro ?_ ?_ | fail)) <;> first | rfl | fail
            ·
             (repeat' (first | exact trivial | refine And.intro ?_ ?_ | fail)) <;> first | rfl | exact ren_eq (by first | (simp; done) | fail) (by first | rfl | fail) | fail
           ·
            rintro ⟨i, hi7⟩
            dsimp only
            have hal := addw_len_w hhl X i
            have hall := emL_len_w (addw_w h X i)
            rw [hal] at hall
            have hXl := emL_len_w X
            rw [hrl] at hXl
            have has := addw_w_s h X i
            by_cases hi6 : i < 8
            ·
             have hlt : decide ((i : Int) < 8) = true := by simp; omega
             have hp := rwp i (by omega)
             have ga := emL_get_w (addw_w h X i) i (by omega)
             have gx := emL_get_w X i (by omega)
             have qc := f149_w (emb_w ((addw_w h X i).getD i 0) + emb_w (X.getD i 0))
             rw [sum2_w] at qc
             have hse : (emL_w (addw_w h X i)).set i (emb_w ((addw_w h X i).getD i 0 + X.getD i 0)) = emL_w (addw_w h X (i + 1)) := by
              rw [has]; unfold emL_w; rw [List.map_set]
             conv => whnf
             first | refine brT (by exact hlt) ?_ | fail
             conv => whnf
             repeat (first | (refine Exists.intro _ (And.intro (sload_u64 (i := i) (by first | rfl | omega | fail) (by first | omega | fail)) ?_); conv => whnf) | (refine Exists.intro _ (And.intro (idx_i (m := i) (by first | rfl | fail)) ?_); conv => whnf) | (refine And.intro (by first | omega | fail) ?_; conv => whnf) | fail)
             rw [ga, gx]
             refine ok1_callF [] [] true (qc) rfl rfl ⟨⟨rfl, by first | rfl | fail⟩, trivial, by first | rfl | fail, by first | rfl | fail, ?_⟩
             conv => whnf
             repeat (first | (refine Exists.intro _ (And.intro (sput_m64 (i := i) (by first | rfl | omega | fail)) ?_); conv => whnf) | (refine Exists.intro _ (And.intro (idx_i (m := i) (by first | rfl | fail)) ?_); conv => whnf) | (refine And.intro (by first | omega | (simp; omega) | fail) ?_; conv => whnf) | (refine And.intro (by kernel_rfl) ?_; conv => whnf) | fail)
             rw [hse]
             refine ⟨⟨i + 1, by omega⟩, by simp only; omega, ?_⟩
             dsimp only
             refine Weak.sel [0, 1, 2, 3, 4] rfl rfl ?_ ?_ rfl rfl
             ·
              (repeat' (first | exact trivial | refine And.intro ?_ ?_ | fail)) <;> first | exact wk_i (by first | exact hp | exact hp.symm | fail) | rfl | fail
             ·
              (repeat' (first | exact trivial | refine And.intro ?_ ?_ | fail)) <;> first | rfl | exact ren_eq (by first | (simp; done) | fail) (by first | rfl | fail) | fail
            ·
             obtain rfl : i = 8 := by omega
             have hnx : w64 (((128 * j : Nat) : Int) + w64 (2 * 64)) = ((128 * (j + 1) : Nat) : Int) := by
              rw [show w64 (2 * 64) = ((128 : Nat) : Int) from by decide, w64_of (by omega) (by omega)]; omega
             have hcs : addw_w h X 8 = blks_w k0_w h0_w D (j + 1) := by rw [hbs, comp_w_e, hX]
             rw [hcs]
             conv => whnf
             first | refine brF (by rfl) ?_ | fail
             conv => whnf
             repeat (fail)
             refine ⟨⟨j + 1, hc⟩, by simp only; omega, ?_⟩
             dsimp only
             refine Weak.sel [0, 1, 2, 3] rfl rfl ?_ ?_ rfl rfl
             ·
              (repeat' (first | exact trivial | refine And.intro ?_ ?_ | fail)) <;> first | exact wk_i (by first | exact hnx | exact hnx.symm | fail) | rfl | fail
             ·
              (repeat' (first | exact trivial | refine And.intro ?_ ?_ | fail)) <;> first | rfl | exact ren_eq (by first | (simp; done) | fail) (by first | rfl | fail) | fail
    ·
     obtain rfl : j = D.length / 128 := by omega
     have hge : decide (((128 * (D.length / 128) : Nat) : Int) < (D.length : Int)) = false := by simp; omega
     have hfin : outl_w h (8 * 8) = hash_w k0_w h0_w T := by rw [hh, hD]; exact rhash_w T
     rw [← hfin]
     have hel := emL_len_w h
     rw [hhl] at hel
     conv => whnf
     first | refine brF (by exact hge) ?_ | fail
     conv => whnf
     repeat (fail)
     refine SWp.weak (Weak.virt 20 5 1 rfl) ?_
     refine loop_rule ttOk mixed (by kernel_rfl) (ι := { i : Nat // i ≤ 8 }) (fun i => [(1, .i 64), (6, .sl 1 0 8 1 true), (20, .sl 4 0 (8 * i.1) 1 false), (21, .i (i.1 : Int))]) (fun i => [some (.ro (T.map .u8)), some (.row 25 ((emL_w h).map .u64)), some (.ro (consL.map .u64)), some (.ro (D.map .u8)), some (.row 5 ((outl_w h (8 * i.1)).map .u8))]) (fun _ => 5) (fun i => 8 - i.1) ⟨0, by omega⟩ ?_ ?_
     ·
      have hz := rout_z_w h
      dsimp only
      rw [hz]
      refine Weak.sel [0, 1, 2, 3, 4] rfl rfl ?_ ?_ rfl rfl
      ·
       (repeat' (first | exact trivial | refine And.intro ?_ ?_ | fail)) <;> first | rfl | fail
      ·
       (repeat' (first | exact trivial | refine And.intro ?_ ?_ | fail)) <;> first | rfl | exact ren_eq (by first | (simp; done) | fail) (by first | rfl | fail) | fail
     ·
      rintro ⟨i, hi7⟩
      dsimp only
      by_cases hi6 : i < 8
      ·
       have hlt : decide ((i : Int) < 8) = true := by simp; omega
       have hp := rwp i (by omega)
       conv => whnf
       first | refine brT (by exact hlt) ?_ | fail
       conv => whnf
       repeat (first | (refine Exists.intro _ (And.intro rfl ?_); conv => whnf) | fail)
       refine loop_rule ttOk mixed (by kernel_rfl) (ι := { m : Nat // m ≤ 8 }) (fun m => [(1, .i 64), (6, .sl 1 0 8 1 true), (20, .sl 4 0 (8 * i + m.1) 1 false), (21, .i (i : Int)), (22, .i (8 - 1 - (m.1 : Int)))]) (fun m => [some (.ro (T.map .u8)), some (.row 25 ((emL_w h).map .u64)), some (.ro (consL.map .u64)), some (.ro (D.map .u8)), some (.row 5 ((outl_w h (8 * i + m.1)).map .u8))]) (fun _ => 5) (fun m => 8 - m.1) ⟨0, by omega⟩ ?_ ?_
       ·
        refine Weak.sel [0, 1, 2, 3, 4] rfl rfl ?_ ?_ rfl rfl
        ·
         (repeat' (first | exact trivial | refine And.intro ?_ ?_ | fail)) <;> first | rfl | fail
        ·
         (repeat' (first | exact trivial | refine And.intro ?_ ?_ | fail)) <;> first | rfl | exact ren_eq (by first | (simp; done) | fail) (by first | rfl | fail) | fail
       ·
        rintro ⟨m, hm⟩
        dsimp only
        have hol := outl_len_w h (8 * i + m)
        by_cases hm4 : m < 8
        ·
         have hge2 : decide ((8 - 1 - (m : Int)) ≥ 0) = true := by simp; omega
         have h8 : w64 (8 * (8 - 1 - (m : Int))) = ((8 * (8 - 1 - m) : Nat) : Int) := by simp only [w64_eq]; omega
         have hp2 : w64 (8 - 1 - (m : Int) - 1) = 8 - 1 - ((m + 1 : Nat) : Int) := by simp only [w64_eq]; omega
         have hs := rout_s_w h i m hm4
         have gx := emL_get_w h i (by omega)
         have qp := f147 (8 * (8 - 1 - m)) (by omega)
         have hnz := pow_nz (n := 8 * (8 - 1 - m)) (by omega)
         have hsh := shr_w_eq (h.getD i 0) (8 * (8 - 1 - m)) (by omega)
         have hm2 := mod256 (emb_w (shr64 (h.getD i 0) (8 * (8 - 1 - m))))
         rw [emb_u8_w] at hm2
         rw [← h8] at qp
         obtain ⟨Z, hZ⟩ : ∃ Z, Z = outl_w h (8 * i + m) := ⟨_, rfl⟩
         rw [← hZ] at hol hs ⊢
         obtain ⟨c, hc2⟩ : ∃ c, c = (shr64 (h.getD i 0) (8 * (8 - 1 - m))).toUInt8 := ⟨_, rfl⟩
         rw [← hc2] at hs hm2
         have hap4 : (Z ++ [c]).map SV.u8 = List.take ((8 * i + m) * 1) (List.drop 0 (Z.map SV.u8)) ++ List.take (1 * 1) (List.drop 0 [SV.u8 c]) := (rcat8 (o := 0) (n := 8 * i + m) (E := Z) (b := [c]) (by omega) rfl).symm
         conv => whnf
         first | refine brT (by exact hge2) ?_ | fail
         conv => whnf
         repeat (first | (refine Exists.intro _ (And.intro (sload_u64 (i := i) (by first | rfl | omega | fail) (by first | omega | fail)) ?_); conv => whnf) | (refine Exists.intro _ (And.intro (idx_i (m := i) (by first | rfl | fail)) ?_); conv => whnf) | (refine And.intro (by first | omega | fail) ?_; conv => whnf) | fail)
         refine ok1_callF [] [] true (qp) rfl rfl ⟨⟨rfl, by first | rfl | fail⟩, trivial, by first | rfl | fail, by first | rfl | fail, ?_⟩
         conv => whnf
         repeat (fail)
         refine ⟨_, sarith_quo64b hnz, ?_⟩
         conv => whnf
         rw [gx, hsh]
         repeat (first | (refine Exists.intro _ (And.intro rfl ?_); conv => whnf) | (refine And.intro (by first | omega | (simp [ti5]; omega)) ?_; conv => whnf) | (refine And.intro (by kernel_rfl) ?_; conv => whnf) | fail)
         rw [hm2]
         repeat (fail)
         refine ⟨⟨m + 1, by omega⟩, by simp only; omega, ?_⟩
         dsimp only
         rw [hs]
         refine Weak.sel [0, 1, 2, 3, 6] rfl rfl ?_ ?_ rfl rfl
         ·
          (repeat' (first | exact trivial | refine And.intro ?_ ?_ | fail)) <;> first | exact wk_i (by first | exact hp2 | exact hp2.symm | fail) | rfl | fail
         ·
          (repeat' (first | exact trivial | exact ren_eq (plainL_u8 _) hap4 | refine And.intro ?_ ?_ | fail)) <;> first | rfl | exact ren_eq (by first | (simp; done) | fail) (by first | rfl | fail) | fail
        ·
         obtain rfl : m = 8 := by omega
         conv => whnf
         first | refine brF (by rfl) ?_ | fail
         conv => whnf
         repeat (fail)
         refine ⟨⟨i + 1, by omega⟩, by simp only; omega, ?_⟩
         dsimp only
         rw [show 8 * (i + 1) = 8 * i + 8 by omega]
         refine Weak.sel [0, 1, 2, 3, 4] rfl rfl ?_ ?_ rfl rfl
         ·
          (repeat' (first | exact trivial | refine And.intro ?_ ?_ | fail)) <;> first | exact wk_i (by first | exact hp | exact hp.symm | fail) | rfl | fail
         ·
          (repeat' (first | exact trivial | refine And.intro ?_ ?_ | fail)) <;> first | rfl | exact ren_eq (by first | (simp; done) | fail) (by first | rfl | fail) | fail
      ·
       obtain rfl : i = 8 := by omega
       conv => whnf
       first | refine brF (by rfl) ?_ | fail
       conv => whnf
       refine ⟨[0, 4], ?_, rfl, rfl, ?_, rfl⟩
       ·
        (repeat' (fail)) <;> first | rfl | fail
       ·
        (repeat' (first | exact trivial | refine And.intro ?_ ?_ | fail)) <;> first | rfl | exact ren_eq (by first | (simp; done) | fail) (by first | rfl | fail) | fail
end
end Go.Sh
/- append of so many noughts ('append(x, make(..)...)'), onto nothing or onto a row of one's own. -/
namespace Go.Sh
section
variable {P : Program} {ρ : Ren} {H : Heap} {w : World}

theorem wrap_ok (m : Nat) (h : m ≤ 140737488355328) : IntKind.i64.wrap (m : Int) = (m : Int) := by
 have := w64_eq (m : Int); unfold w64 at this; rw [this]; omega
theorem app_roomZ {t xT ty el sz n m c : Nat} {a : Option Addr} {z : Value} {i : TypeInfo} (hT : P.underlying t = some (.slice el)) (hX : P.underlying xT = some (.int .i64))
  (hi : P.info? el = some i) (hz : i.zero = some z) (hsz : i.size = sz) (hzs : z.cells.size = sz) (h0 : 0 < sz) (hb : m * i.bytes ≤ 140737488355328) (hm : m ≤ 140737488355328) (hroom : n + m ≤ c) :
  (Builtin.append_ #[t, xT] ty #[.slice a n c, .int .i64 (m : Int)]).run P w = (match a with | some a => (storeCells (a.add (n * sz)) (Builtin.zeroCells z.cells m).toList).run P w | none => .ok () w).andThen fun _ w' => .ok (.slice a (n + m) c) w' := by
 have e1 : (underlying xT).run P w = .ok (.int .i64) w := run_und hX
 have e2 : ∀ w : World, (typeInfo el).run P w = .ok i w := fun w => by simp [typeInfo, hi]
 have e3 : ∀ w : World, (zeroValue el).run P w = .ok z w := fun w => by simp [zeroValue, typeInfo, hi, hz]
 have e4 : (sizeOf el).run P w = .ok sz w := by simp [sizeOf, typeInfo, hi, hsz]
 have e5 : ∀ w : World, (asInt (Value.int .i64 (m : Int))).run P w = .ok (m : Int) w := fun w => by simp [asInt, asIntOf]
 have hw := wrap_ok m hm
 have hbig : ¬ ((m : Int) * (i.bytes : Int) > 2 ^ 48) := by
  have : ((m * i.bytes : Nat) : Int) ≤ 140737488355328 := by omega
  rw [Int.natCast_mul] at this; omega
 have hneg : ¬ ((m : Int) < 0) := by omega
 unfold Builtin.append_
 simp only [List.getElem?_toArray, List.getElem?_cons_zero, List.getElem?_cons_succ, Sem.run_bind, run_und hT, Result.andThen_ok, e4, e1, Sem.run_pure, if_true, e5, hw, hneg, if_false, e2, hbig, Int.toNat_natCast, hroom, Bool.not_true, Bool.false_eq_true]
 by_cases hms : m * sz = 0
 ·
  have hm0 : m = 0 := by rcases Nat.mul_eq_zero.1 hms with h | h; exact h; omega
  subst hm0
  simp only [Nat.zero_mul, if_true, Sem.run_pure, Result.andThen_ok]
  cases a <;> simp [Sem.run_pure, Result.andThen, Builtin.zeroCells]
 ·
  simp only [hms, if_false, Sem.run_bind, e3, Result.andThen_ok, Sem.run_pure]
  cases a <;> simp [Sem.run_pure, Result.andThen]
theorem app_growZ {t xT ty el sz n m c : Nat} {a : Option Addr} {z : Value} {olds : List Value} {i : TypeInfo} (hT : P.underlying t = some (.slice el)) (hX : P.underlying xT = some (.int .i64))
  (hi : P.info? el = some i) (hz : i.zero = some z) (hsz : i.size = sz) (h0 : 0 < sz) (hb : m * i.bytes ≤ 140737488355328) (hm : m ≤ 140737488355328) (hnm : n + m ≤ 140737488355328)
  (ho : (Builtin.firstCells sz n (.slice a n c)).run P w.drew = .ok ⟨olds⟩ w.drew) (hg : c < n + m) (hby : 0 < i.bytes) (h48 : Builtin.nextslicecap (n + m) c * i.bytes ≤ 281474976710656) :
  (Builtin.append_ #[t, xT] ty #[.slice a n c, .int .i64 (m : Int)]).run P w = .ok (.slice (some ⟨w.heap.size, 0, none⟩) (n + m) (grownCap w (n + m) c el))
   (w.drew.alloc (.cells ((⟨olds⟩ : Array Value) ++ ⟨(Builtin.zeroCells z.cells m).toList⟩ ++ Builtin.zeroCells z.cells (grownCap w (n + m) c el - (n + m))) el)) := by
 have hn : ¬ (n + m ≤ c) := by omega
 have h48' : ¬ (281474976710656 < Builtin.nextslicecap (n + m) c * i.bytes) := by omega
 have hb0 : ¬ (i.bytes = 0) := by omega
 have e1 : (underlying xT).run P w = .ok (.int .i64) w := run_und hX
 have e2 : ∀ w : World, (typeInfo el).run P w = .ok i w := fun w => by simp [typeInfo, hi]
 have e3 : ∀ w : World, (zeroValue el).run P w = .ok z w := fun w => by simp [zeroValue, typeInfo, hi, hz]
 have e4 : (sizeOf el).run P w = .ok sz w := by simp [sizeOf, typeInfo, hi, hsz]
 have e5 : ∀ w : World, (asInt (Value.int .i64 (m : Int))).run P w = .ok (m : Int) w := fun w => by simp [asInt, asIntOf]
 have hch : (choose (.appendCap (n + m) c el)).run P w = .ok (grownCap w (n + m) c el) w.drew := by
  rw [run_choose]; rfl
 have hbig : (2 : Nat) ^ 48 = 281474976710656 := by decide
 have hw := wrap_ok m hm
 have hbig2 : ¬ ((m : Int) * (i.bytes : Int) > 2 ^ 48) := by
  have : ((m * i.bytes : Nat) : Int) ≤ 140737488355328 := by omega
  rw [Int.natCast_mul] at this; omega
 have hneg : ¬ ((m : Int) < 0) := by omega
 have hmax : ¬ (((n + m : Nat) : Int) > IntKind.i64.max) := by
  have : IntKind.i64.max = 9223372036854775807 := by decide
  rw [this]; omega
 unfold Builtin.append_
 simp only [List.getElem?_toArray, List.getElem?_cons_zero, List.getElem?_cons_succ, Sem.run_bind, run_und hT, Result.andThen_ok, e4, e1, Sem.run_pure, if_true, e5, hw, hneg, if_false, e2, hbig2, Int.toNat_natCast, hn, hmax, false_and, Bool.not_true, Bool.false_eq_true, gt_iff_lt, hbig, h48', hch, run_askRoom, ho]
 by_cases hms : m * sz = 0
 ·
  have hm0 : m = 0 := by rcases Nat.mul_eq_zero.1 hms with h | h; exact h; omega
  subst hm0
  simp only [Nat.zero_mul, if_true, Sem.run_pure, Result.andThen_ok, Sem.run_bind, e3, newRow, run_newObj]
  simp [Builtin.zeroCells]
  rfl
 ·
  simp only [hms, if_false, Sem.run_bind, e3, Result.andThen_ok, Sem.run_pure, newRow, run_newObj]
  rfl

theorem app_row_gen {o : Oper} {x y : Operand} {t xT el sz by_ id nid k n m : Nat} {full : Bool} {l ys : List SV} {rb : RB} {e : Operand → Value} (ho : o.op = .call { callee := .builtin .append, args := #[x, y], argTypes := #[t, xT] })
  {v : Value} (hvs : v.cells.size = sz) (hx : Rel ρ (.sl id k n sz full) (e x)) (hid : H id = some (.row el l)) (hr : ρ id = some rb) (hb : BRel ρ w rb (.row el l)) (hin : k + n * sz ≤ l.length) {news : List Value} (hrn : Rels ρ ys news) (ha : atoms ys = true) (hlen : ys.length = m * sz)
  (hrr : ∀ (a : Option Addr) (c : Nat), n + m ≤ c → (Builtin.append_ #[t, xT] o.type #[.slice a n c, e y]).run P w = (match a with | some a => (storeCells (a.add (n * sz)) news).run P w | none => .ok () w).andThen fun _ w' => .ok (.slice a (n + m) c) w')
  (hgr : ∀ (a : Option Addr) (c : Nat) (olds : List Value), (Builtin.firstCells sz n (.slice a n c)).run P w.drew = .ok ⟨olds⟩ w.drew → c < n + m → Builtin.nextslicecap (n + m) c * by_ ≤ 281474976710656 →
   (Builtin.append_ #[t, xT] o.type #[.slice a n c, e y]).run P w = .ok (.slice (some ⟨w.heap.size, 0, none⟩) (n + m) (grownCap w (n + m) c el)) (w.drew.alloc (.cells ((⟨olds⟩ : Array Value) ++ ⟨news⟩ ++ Builtin.zeroCells v.cells (grownCap w (n + m) c el - (n + m))) el)))
  (hm : (n + m) * by_ ≤ 140737488355328) (hne : id ≠ nid) (hn : ρ nid = none) :
  ∃ v w' ρ', (execOp e o).run P w = .ok (.value v) w' ∧ Chg ρ H w [(id, none), (nid, some (.row el ((l.drop k).take (n * sz) ++ ys)))] ρ' w' ∧ Rel ρ' (.sl nid 0 (n + m) sz false) v := by
 have hsrcx : Src P ρ w (e x) sz n ((l.drop k).take (n * sz)) := src_sl hx hr hb hin
 obtain ⟨olds, _, hfo, hro, hao, hleno, _⟩ := hsrcx
 have hfo1 := hfo (w.drawn + 1)
 have hnl := hrn.length
 have hx0 := hx
 simp only [Rel] at hx
 obtain ⟨rb', a, c, hr', he, hnc, hfull, hdis⟩ := hx
 rw [hr] at hr'; cases hr'
 by_cases hroom : n + m ≤ c
 ·
  by_cases hc0 : c = 0
  ·
   -- nothing there, nothing comes
   subst hc0
   obtain rfl : n = 0 := by omega
   obtain rfl : m = 0 := by omega
   have hy0 : ys = [] := List.eq_nil_of_length_eq_zero (by rw [hlen]; simp)
   subst hy0
   rw [Rels.nil_iff] at hrn; subst hrn
   refine ⟨.slice a 0 0, w, setR ρ nid ⟨0, 0, 0, true⟩, app_run ho ?_, ?_, ?_⟩
   ·
    rw [he, hrr _ _ hroom]
    cases a <;> rfl
   ·
    exact Chg.move hne hid hr rfl hn (fun i o hh => by simp [foot] at hh) (.inl ⟨rfl, by simp⟩) (Fr.refl _ _)
   ·
    simp only [Rel]
    exact ⟨_, a, 0, setR_same _ _ _, rfl, by omega, fun h => (by cases h), .inl rfl⟩
  ·
   obtain ⟨hvirt, ha2, hcap⟩ := hdis.resolve_left hc0
   rcases hb with ⟨hv1, _⟩ | ⟨_, ca, fz, hca, hz, hcs, hla, hlr, hll⟩
   ·
    rw [hvirt] at hv1; cases hv1
   have hcm : (n + m) * sz ≤ c * sz := Nat.mul_le_mul_right _ hroom
   rw [Nat.add_mul] at hcm
   have hst := run_puts (P := P) (o := rb.off + k + n * sz) news 0 hca hz (by omega) (hrn.oneCell ha)
   have hps : (putAt ca (rb.off + k + n * sz) news).size = ca.size := putAt_size _ _ _ (by omega)
   refine ⟨.slice a (n + m) c, World.putCells w rb.blk (rb.off + k + n * sz) news, setR ρ nid ⟨rb.blk, rb.off + k, rb.cap - k, false⟩, app_run ho ?_, ?_, ?_⟩
   ·
    rw [he, hrr _ _ hroom, ha2]
    simp only [add_addr, hst, Nat.add_zero]
    rfl
   ·
    refine Chg.move hne hid hr rfl hn ?_ (.inr ⟨rfl, _, fz, World.putCells_heap w rb.blk _ news hca, hz.put _ _ (by omega), ?_, ?_, ?_, ?_⟩) ?_
    ·
     rintro i o2 ⟨h1, h2, h3⟩
     exact .inl ⟨hvirt, h2, by simp only at h3; omega⟩
    ·
     rw [hps]; simp only; omega
    ·
     simp [atoms] at hao ha ⊢; exact ⟨hao, ha⟩
    ·
     have e1 : ((putAt ca (rb.off + k + n * sz) news).toList.drop (rb.off + k)).take (((l.drop k).take (n * sz) ++ ys)).length = List.take (n * sz) (List.drop k ((ca.toList.drop rb.off).take l.length)) ++ news := by
      have h1 : ((l.drop k).take (n * sz) ++ ys).length = n * sz + news.length := by rw [List.length_append, hleno, hnl]
      rw [h1]
      apply List.ext_getElem?
      intro j
      by_cases hj : j < n * sz + news.length
      ·
       rw [drop_take_get hj, Array.getElem?_toList, putAt_getElem? _ _ _ (by omega)]
       by_cases h2 : j < n * sz
       ·
        rw [if_neg (by omega)]
        rw [List.getElem?_append_left (by simp; omega), List.getElem?_take_of_lt h2, List.getElem?_drop, drop_take_get (by omega), Array.getElem?_toList, Nat.add_assoc]
       ·
        rw [if_pos (by omega)]
        rw [List.getElem?_append_right (by simp; omega)]
        congr 1
        simp; omega
      ·
       rw [List.getElem?_eq_none (by simp; omega)]
       rw [List.getElem?_eq_none (by simp; omega)]
     rw [e1]
     exact ((hlr.drop k).take (n * sz)).append hrn
    ·
     simp only [List.length_append, hleno, hlen]; omega
    ·
     exact Fr.putCells _ _ _ _ _ hca (by omega) (fun o2 h1 h2 => ⟨hvirt, rfl, by omega⟩)
   ·
    simp only [Rel]
    refine ⟨_, a, c, setR_same _ _ _, rfl, hroom, fun h => (by cases h), .inr ⟨rfl, by rw [ha2]; simp, by simp only; omega⟩⟩
 ·
  rw [he] at hfo1
  have hg := hgr a c _ hfo1 (by omega) (growslice_fits (by omega) hm)
  have hge := grownCap_ge w (n + m) c el
  obtain ⟨g1, g2⟩ := grown_row (ρ := ρ) (w := w) (nid := nid) (el := el) hro hao hrn ha hleno hlen hvs hge
  refine ⟨_, _, _, app_run ho (by rw [he]; exact hg), Chg.move hne hid hr rfl hn (fun i o2 hh => .inr (by rw [hh.2.1]; exact Nat.le_refl _)) g1 ?_, g2⟩
  exact (Fr.refl _ w).drew.trans (Fr.alloc (fun i o2 => foot rb (.row el l) i o2) w.drew _) (fun _ _ _ h => h)

theorem zfacts {el by_ : Nat} {z : SV} (hz : pzero P el = some z) (hza : z.atom = true) (hs : psz P el = some 1) (hb : pbytes P el = some by_) :
  ∃ i v, P.info? el = some i ∧ i.zero = some v ∧ v.cells = #[v] ∧ i.size = 1 ∧ i.bytes = by_ ∧ ∀ ρ, Rel ρ z v := by
 obtain ⟨i, v, hi, hv, hr, ht⟩ := zero_of hz
 unfold psz at hs
 unfold pbytes at hb
 rw [hi] at hs hb
 simp only [Option.map_some, Option.some.injEq] at hs hb
 exact ⟨i, v, hi, hv, (hr (fun _ => none)).cells hza, hs, hb, hr⟩
theorem zero_rels {z : SV} {v : Value} (h : Rel ρ z v) (hv : v.cells = #[v]) (m : Nat) : Rels ρ (List.replicate m z) (Builtin.zeroCells v.cells m).toList := by
 rw [hv, zeroCells_one]; exact Rels.replicate h m
theorem zero_atoms {z : SV} (hza : z.atom = true) (m : Nat) : atoms (List.replicate m z) = true := by
 simp only [atoms, List.all_eq_true]; intro y hy; rw [(List.mem_replicate.1 hy).2]; exact hza

theorem lt_append_rowZ {o : Oper} {R : Env} {x y : Operand} {t xT el by_ nid n m id k : Nat} {full : Bool} {z : SV} {l : List SV} (ho : o.op = .call { callee := .builtin .append, args := #[x, y], argTypes := #[t, xT] })
  (hT : P.underlying t = some (.slice el)) (hX : P.underlying xT = some (.int .i64)) (hz : pzero P el = some z) (hza : z.atom = true) (hs : psz P el = some 1) (hb : pbytes P el = some by_) (hb0 : 0 < by_)
  (hx : evO R x = some (.sl id k n 1 full)) (hid : H id = some (.row el l)) (hin1 : k + n * 1 ≤ l.length) (hy : evO R y = some (.i (m : Int))) (hm : (n + m) * by_ ≤ 140737488355328) (hne : nid ≠ id) :
  LT P o R H [id] [(id, none), (nid, some (.row el ((l.drop k).take (n * 1) ++ List.replicate m z)))] (some (.sl nid 0 (n + m) 1 false)) := by
 refine LT.of_run (by simp [ho]) fun e w ρ h1 h2 _ hfresh => ?_
 have hx2 := h1 x (by simp [ho, Op.operands, Call.operands]) _ hx
 have hy2 := h1 y (by simp [ho, Op.operands, Call.operands]) _ hy
 simp only [Rel] at hy2
 obtain ⟨rb, hr, hbr⟩ := h2 id (by simp) _ hid
 obtain ⟨i, v, hi, hv, hvc, his, hib, hvr⟩ := zfacts hz hza hs hb
 have hnm : n + m ≤ 140737488355328 := Nat.le_trans (Nat.le_mul_of_pos_right _ hb0) hm
 have hmb : m * i.bytes ≤ 140737488355328 := by rw [hib]; exact Nat.le_trans (Nat.mul_le_mul_right _ (by omega)) hm
 obtain ⟨v2, w', ρ', a1, a2, a3⟩ := app_row_gen (w := w) (H := H) (nid := nid) (t := t) (xT := xT) (by_ := by_) (v := v) ho (by rw [hvc]; rfl) hx2 hid hr hbr hin1 (zero_rels (hvr ρ) hvc m) (zero_atoms hza m) (by simp)
  (fun a c hroom => by rw [hy2]; exact app_roomZ hT hX hi hv his (by rw [hvc]; rfl) (by decide) hmb (by omega) hroom)
  (fun a c olds hol hg h48 => by rw [hy2]; exact app_growZ hT hX hi hv his (by decide) hmb (by omega) hnm hol hg (by rw [hib]; exact hb0) (by rw [hib]; exact h48))
  hm (fun e => hne e.symm) (hfresh nid (some (.row el ((l.drop k).take (n * 1) ++ List.replicate m z))) (by simp) (by simpa using hne))
 exact ⟨_, w', ρ', a1, a2, .inl ⟨v2, rfl, fun u hu => by cases hu; exact a3⟩⟩
end

theorem ok1_appZ {P : Program} {o : Oper} {R : RL} {H : HL} {L : Nat} {k : K1} {x y : Operand} {t xT : Nat} (el by_ id off n m : Nat) (full : Bool) (l : List SV) (z : SV) (ho : o.op = .call { callee := .builtin .append, args := #[x, y], argTypes := #[t, xT] })
  (hT : P.underlying t = some (.slice el)) (hX : P.underlying xT = some (.int .i64)) (hz : pzero P el = some z) (hza : z.atom = true) (hs : psz P el = some 1) (hb : pbytes P el = some by_) (hb0 : 0 < by_)
  (hx : ev R x = some (.sl id off n 1 full)) (hid : hk H id = some (.row el l)) (hin : off + n * 1 ≤ l.length) {v : Int} (hy : ev R y = some (.i v)) (hv : v = (m : Int)) (hm : (n + m) * by_ ≤ 140737488355328) (hl : H.length ≤ L)
  (h : k (some (.sl L 0 (n + m) 1 false)) [(id, none), (L, some (.row el ((l.drop off).take (n * 1) ++ List.replicate m z)))] [id] (L + 1)) : Ok1 P o R H L k := by
 subst hv
 have hid2 := hk_lt hl hid
 exact ok1_move hid2 (by simp) (lt_append_rowZ ho hT hX hz hza hs hb hb0 (ev_some hx) (hk_some hid) hin (ev_some hy) hm (by omega)) h
end Go.Sh
/- Mul64 (f86), for what needs no field. -/
namespace Go.Sh
open Go.Proofs
set_option maxHeartbeats 4000000

theorem m32M_n (x : UInt64) : (x &&& 4294967295).toNat = x.toNat % 4294967296 := by
 rw [UInt64.toNat_and]
 exact Nat.and_two_pow_sub_one_eq_mod x.toNat 32
theorem mulM_n (x y : UInt64) (h : x.toNat * y.toNat < 18446744073709551616) : (x * y).toNat = x.toNat * y.toNat := by
 rw [UInt64.toNat_mul]; exact Nat.mod_eq_of_lt h
theorem addM_n (x y : UInt64) (h : x.toNat + y.toNat < 18446744073709551616) : (x + y).toNat = x.toNat + y.toNat := by
 rw [UInt64.toNat_add]; exact Nat.mod_eq_of_lt h
theorem shrM_n (x : UInt64) (n : Nat) (h : n < 64) : (shr64 x n).toNat = x.toNat / 2 ^ n := by
 unfold shr64
 rw [if_pos h, UInt64.toNat_shiftRight, UInt64.toNat_ofNat', show n % 2 ^ 64 % 64 = n by omega, Nat.shiftRight_eq_div_pow]
def mhiM (x y : UInt64) : UInt64 := UInt64.ofNat (x.toNat * y.toNat / 18446744073709551616)
theorem mhiM_n (x y : UInt64) : (mhiM x y).toNat = x.toNat * y.toNat / 18446744073709551616 := by
 have h1 := UInt64.toNat_lt x
 have h2 := UInt64.toNat_lt y
 have : x.toNat * y.toNat < 18446744073709551616 * 18446744073709551616 := Nat.mul_lt_mul'' h1 h2
 unfold mhiM; rw [UInt64.toNat_ofNat', Nat.mod_eq_of_lt]; omega
theorem mul64M_eq (a b : UInt64) : shr64 a 32 * shr64 b 32 + shr64 (shr64 a 32 * (b &&& 4294967295) + shr64 ((a &&& 4294967295) * (b &&& 4294967295)) 32) 32 + shr64 ((shr64 a 32 * (b &&& 4294967295) + shr64 ((a &&& 4294967295) * (b &&& 4294967295)) 32 &&& 4294967295) + (a &&& 4294967295) * shr64 b 32) 32 = mhiM a b := by
 have ha := UInt64.toNat_lt a
 have hb := UInt64.toNat_lt b
 have a1 := shrM_n a 32 (by decide)
 have a0 := m32M_n a
 have b1 := shrM_n b 32 (by decide)
 have b0 := m32M_n b
 have eA : a.toNat = a.toNat / 4294967296 * 4294967296 + a.toNat % 4294967296 := by omega
 have eB : b.toNat = b.toNat / 4294967296 * 4294967296 + b.toNat % 4294967296 := by omega
 rw [show (2 : Nat) ^ 32 = 4294967296 from rfl] at a1 b1
 have lA : a.toNat / 4294967296 ≤ 4294967295 := by omega
 have lB : b.toNat / 4294967296 ≤ 4294967295 := by omega
 have kA : a.toNat % 4294967296 ≤ 4294967295 := by omega
 have kB : b.toNat % 4294967296 ≤ 4294967295 := by omega
 apply UInt64.toNat_inj.mp
 rw [mhiM_n]
 generalize shr64 a 32 = A1 at *
 generalize a &&& 4294967295 = A0 at *
 generalize shr64 b 32 = B1 at *
 generalize b &&& 4294967295 = B0 at *
 generalize a.toNat / 4294967296 = x1 at *
 generalize a.toNat % 4294967296 = x0 at *
 generalize b.toNat / 4294967296 = y1 at *
 generalize b.toNat % 4294967296 = y0 at *
 have p11 : x1 * y1 ≤ 4294967295 * 4294967295 := Nat.mul_le_mul lA lB
 have p10 : x1 * y0 ≤ 4294967295 * 4294967295 := Nat.mul_le_mul lA kB
 have p01 : x0 * y1 ≤ 4294967295 * 4294967295 := Nat.mul_le_mul kA lB
 have p00 : x0 * y0 ≤ 4294967295 * 4294967295 := Nat.mul_le_mul kA kB
 have n11 := mulM_n A1 B1 (by rw [a1, b1]; omega)
 have n10 := mulM_n A1 B0 (by rw [a1, b0]; omega)
 have n01 := mulM_n A0 B1 (by rw [a0, b1]; omega)
 have n00 := mulM_n A0 B0 (by rw [a0, b0]; omega)
 rw [a1, b1] at n11
 rw [a1, b0] at n10
 rw [a0, b1] at n01
 rw [a0, b0] at n00
 have s0 := shrM_n (A0 * B0) 32 (by decide)
 rw [show (2 : Nat) ^ 32 = 4294967296 from rfl, n00] at s0
 have nt := addM_n (A1 * B0) (shr64 (A0 * B0) 32) (by rw [n10, s0]; omega)
 rw [n10, s0] at nt
 generalize A1 * B0 + shr64 (A0 * B0) 32 = t at *
 have st := shrM_n t 32 (by decide)
 have mt := m32M_n t
 rw [show (2 : Nat) ^ 32 = 4294967296 from rfl, nt] at st
 rw [nt] at mt
 have nw := addM_n (t &&& 4294967295) (A0 * B1) (by rw [mt, n01]; omega)
 rw [mt, n01] at nw
 generalize (t &&& 4294967295) + A0 * B1 = w at *
 have sw := shrM_n w 32 (by decide)
 rw [show (2 : Nat) ^ 32 = 4294967296 from rfl, nw] at sw
 have prod : a.toNat * b.toNat = x1 * y1 * 18446744073709551616 + (x1 * y0 + x0 * y1) * 4294967296 + x0 * y0 := by rw [eA, eB]; grind
 rw [prod]
 have r1 := addM_n (A1 * B1) (shr64 t 32) (by rw [n11, st]; omega)
 rw [n11, st] at r1
 rw [addM_n _ _ (by rw [r1, sw]; omega), r1, sw]
 generalize x1 * y1 = P at *
 generalize x1 * y0 = Q at *
 generalize x0 * y1 = U at *
 generalize x0 * y0 = V at *
 omega
theorem f86M (a b : UInt64) : SCall Try.prog 86 [.u64 a, .u64 b] [] (.tup [.u64 (mhiM a b), .u64 (a * b)]) [] := by
 have hm := mul64M_eq a b
 refine scall_of ttOk (by kernel_rfl : Try.prog.funcs[86]? = some Try.f86) rfl rfl rfl ?_
 try simp only [List.length_cons, List.length_nil, Nat.zero_add, Nat.reduceAdd]
 refine sw_ok ttOk mixed (by kernel_rfl) ?_
 conv => whnf
 repeat (fail)
 refine ⟨[], ?_, rfl, rfl, ?_, rfl⟩
 ·
  (repeat' (first | (refine wk_tup ?_) | (refine wk_cons ?_ ?_))) <;> first | exact wk_u64 (by first | exact hm | exact hm.symm | fail) | rfl | fail
 ·
  (repeat' (first | exact trivial | fail)) <;> fail
end Go.Sh
/- Calls of what the model stands in for: bits.Add64. -/
namespace Go.Sh
open Go.Proofs

theorem lt_ext {P : Program} {H : Heap} {o : Oper} {R : Env} {x : Operand} {args : Array Operand} {tys : Array TypeId} {f : Nat} {zs : List SV} {z : SV} (ho : o.op = .call ⟨.value x, args, tys⟩)
  (hx : evO R x = some (.fn f [])) (hargs : args.toList.map (evO R) = zs.map some)
  (hrun : ∀ (ρ : Ren) (w : World) (vs : List Value), Rels ρ zs vs → ∃ rv, (callFunc f ⟨vs⟩).run P w = .ok (.value rv) w ∧ Rel ρ z rv) : LT P o R H [] [] (some z) := by
 refine LT.pure (by simp [ho]) fun e w ρ h1 _ => ?_
 have hxr := h1 x (by simp [ho, Op.operands, Call.operands]) _ hx
 simp only [Rel] at hxr
 obtain ⟨cs, he, hcs⟩ := hxr
 rw [Rels.nil_iff] at hcs; subst hcs
 have hv : Rels ρ zs (args.toList.map e) := by
  have : ∀ (l : List Operand) (zs : List SV), (∀ y ∈ l, y ∈ args.toList) → l.map (evO R) = zs.map some → Rels ρ zs (l.map e) := by
   intro l
   induction l with
   | nil => intro zs _ h; cases zs with
    | nil => exact Rels.nil_iff.2 rfl
    | cons _ _ => simp at h
   | cons y l ih =>
    intro zs hm h
    cases zs with
    | nil => simp at h
    | cons z zs =>
     simp only [List.map_cons, List.cons.injEq] at h
     exact Rels.cons (h1 y (by have := hm y (by simp); simp [ho, Op.operands, Call.operands]; exact .inr (by simpa using this)) _ h.1) (ih zs (fun y hy => hm y (by simp [hy])) h.2)
  exact this _ _ (fun _ h => h) hargs
 obtain ⟨rv, hr, hz⟩ := hrun ρ w _ hv
 refine ⟨rv, ?_, hz⟩
 have ea : (⟨args.toList.map e⟩ : Array Value) = args.map e := by
  apply Array.ext'; simp
 rw [ea] at hr
 unfold execOp
 simp only [ho, resolve, he, Deferred.ofValue, Sem.run_bind, Sem.run_pure, Result.andThen, invoke]
 simpa [Result.andThen] using hr

theorem run_add64F {P : Program} {f : FuncId} {fn : Func} (hf : P.funcs[f]? = some fn) (hname : (fn.name == "runtime.NumGoroutine") = false)
  (hb : fn.body.isNone = true) (hn : Extern.findNext fn = none) (he : Extern.find fn = some add64Entry) (x y c : UInt64) (hc : c.toNat ≤ 1) (w : World) :
  (callFunc f #[.int .u64 (x.toNat : Int), .int .u64 (y.toNat : Int), .int .u64 (c.toNat : Int)]).run P w =
   .ok (.value (.tuple #[.int .u64 (((x.toNat + y.toNat + c.toNat) % 18446744073709551616 : Nat) : Int), .int .u64 (((x.toNat + y.toNat + c.toNat) / 18446744073709551616 : Nat) : Int)])) w := by
 rw [run_callFunc_extern hf hname hb hn he, run_add64 _ _ _ (by omega) (by omega) (by omega) (by omega)]
 simp only [Result.andThen]
 congr 5 <;> omega

theorem ok1_add64 {P : Program} {o : Oper} {R : RL} {H : HL} {L : Nat} {k : K1} {x : Operand} {args : Array Operand} {tys : Array TypeId} {f : Nat} (fn : Func) (a b c s t : UInt64)
  (hf : P.funcs[f]? = some fn) (hname : (fn.name == "runtime.NumGoroutine") = false) (hb : fn.body.isNone = true) (hn : Extern.findNext fn = none) (he : Extern.find fn = some add64Entry)
  (ho : o.op = .call ⟨.value x, args, tys⟩) (hx : ev R x = some (.fn f [])) (hargs : evs R args.toList = some [.u64 a, .u64 b, .u64 c]) (hc : c.toNat ≤ 1)
  (hs : s.toNat = (a.toNat + b.toNat + c.toNat) % 18446744073709551616) (ht : t.toNat = (a.toNat + b.toNat + c.toNat) / 18446744073709551616)
  (h : k (some (.tup [.u64 s, .u64 t])) [] [] L) : Ok1 P o R H L k := by
 refine ⟨_, [], [], L, lt_ext (z := .tup [.u64 s, .u64 t]) ho (ev_some hx) (evs_eq hargs) ?_, Nat.le_refl _, by simp, h⟩
 intro ρ w vs hv
 have hv2 : vs = [.int .u64 (a.toNat : Int), .int .u64 (b.toNat : Int), .int .u64 (c.toNat : Int)] := by
  simp only [Rels, Rel] at hv
  obtain ⟨_, _, rfl, rfl, _, _, rfl, rfl, _, _, rfl, rfl, rfl⟩ := hv
  rfl
 subst hv2
 refine ⟨_, run_add64F hf hname hb hn he a b c hc w, ?_⟩
 rw [← hs, ← ht]
 simp only [Rel]
 exact ⟨_, rfl, Rels.cons (by simp only [Rel]) (Rels.cons (by simp only [Rel]) (Rels.nil_iff.2 rfl))⟩
end Go.Sh
/- A call of the library's bytealg.MakeNoZero: a new row of bytes that nobody knows. -/
namespace Go.Sh
open Go.Proofs

theorem digits_u8 : ∀ (n t : Nat) (acc : Array Value), ∃ l : List UInt8, (Extern.BytealgMakeNoZero.digits n t acc).toList = acc.toList ++ l.map (fun x => Value.int .u8 (x.toNat : Int)) ∧ l.length = n
 | 0, t, acc => ⟨[], by simp [Extern.BytealgMakeNoZero.digits], rfl⟩
 | n + 1, t, acc => by
  obtain ⟨l, h1, h2⟩ := digits_u8 n (t / 256) (acc.push (.int .u8 (Int.ofNat (t % 256))))
  refine ⟨(UInt8.ofNat (t % 256)) :: l, ?_, by simp [h2]⟩
  rw [Extern.BytealgMakeNoZero.digits, h1]
  have : (UInt8.ofNat (t % 256)).toNat = t % 256 := by
   rw [UInt8.toNat_ofNat']; omega
  simp [this]

theorem rels_u8 (ρ : Ren) : ∀ l : List UInt8, Rels ρ (l.map .u8) (l.map (fun x => Value.int .u8 (x.toNat : Int)))
 | [] => Rels.nil_iff.2 rfl
 | x :: l => Rels.cons (by simp only [Rel]) (rels_u8 ρ l)
theorem atoms_u8m (l : List UInt8) : atoms (l.map SV.u8) = true := by simp [atoms, SV.atom]

theorem run_mnz0 {P : Program} {ps : Array TypeId} {t e : TypeId} (ht : P.underlying t = some (.slice e)) (n : Nat) (hn2 : n ≤ 281474976710656) (w : World) :
  ∃ b : Nat, (Extern.BytealgMakeNoZero.makeNoZero ps #[t] #[.int .i64 n]).run P w = .ok (.slice (some ⟨w.heap.size, 0, none⟩) n (Extern.BytealgMakeNoZero.digits (grownCap w n 0 e) b #[]).size) (w.drew.drew.alloc (.cells (Extern.BytealgMakeNoZero.digits (grownCap w n 0 e) b #[]) e)) := by
 have hdef : ∃ q : Question, q.forced = false ∧ Extern.BytealgMakeNoZero.makeNoZero ps #[t] #[.int .i64 n] =
   (do
    let .slice elem ← underlying t | stuck "bytealg.MakeNoZero: slice type expected"
    if (n : Int) < 0 || (n : Int) > 2 ^ 48 then runtimePanic (.error "makeslice: len out of range")
    let cap ← choose (.appendCap (n : Int).toNat 0 elem)
    askRoom cap
    let bytes ← choose q
    let a ← newRow elem (Extern.BytealgMakeNoZero.digits cap bytes #[])
    pure (.slice (some a) (n : Int).toNat cap)) := by
  refine ⟨_, ?_, rfl⟩
  rfl
 obtain ⟨q, hqf, hdef⟩ := hdef
 refine ⟨q.cut (w.tape (w.drawn + 1) q), ?_⟩
 rw [hdef]
 have h1 : ¬ (n : Int) < 0 := by omega
 have h2 : ¬ (281474976710656 : Int) < (n : Int) := by omega
 have hq2 : (Question.appendCap n 0 e).forced = false := rfl
 simp [run_underlying ht, h1, h2, hqf, hq2, newRow, Lib.size_digits, grownCap]
theorem run_mnz {P : Program} {f : FuncId} {fn : Func} {t e : TypeId} (hf : P.funcs[f]? = some fn) (hname : (fn.name == "runtime.NumGoroutine") = false) (hb : fn.body.isNone = true) (hn : Extern.findNext fn = none)
  (he : Extern.find fn = some (Extern.BytealgMakeNoZero.makeNoZero fn.params #[t])) (ht : P.underlying t = some (.slice e)) (n : Nat) (hn2 : n ≤ 281474976710656) (w : World) :
  ∃ (cs : Array Value) (l : List UInt8), (callFunc f #[.int .i64 (n : Int)]).run P w = .ok (.value (.slice (some ⟨w.heap.size, 0, none⟩) n cs.size)) (w.drew.drew.alloc (.cells cs e)) ∧ n ≤ cs.size ∧ l.length = n ∧ cs.toList.take n = l.map (fun x => Value.int .u8 (x.toNat : Int)) := by
 obtain ⟨b, hr⟩ := run_mnz0 (ps := fn.params) ht n hn2 w
 obtain ⟨l, hl1, hl2⟩ := digits_u8 (grownCap w n 0 e) b #[]
 have hge : n ≤ grownCap w n 0 e := by simpa using grownCap_ge w n 0 e
 refine ⟨Extern.BytealgMakeNoZero.digits (grownCap w n 0 e) b #[], l.take n, ?_, ?_, ?_, ?_⟩
 ·
  rw [run_callFunc_extern hf hname hb hn he, hr]; rfl
 ·
  rw [Lib.size_digits]; simpa using hge
 ·
  rw [List.length_take, hl2]; omega
 ·
  rw [hl1]; simp [List.map_take]

section
variable {P : Program} {ops : Array Oper} {N B : Nat}
theorem good_step_at {o : Oper} {i : Nat} {R Ri : Env} {H Hi : Heap} {e : En} {L L' n : Nat} {r : Option Nat} {ρ : Ren} {a : Act} {w : World} {K : Act → World → Prop} {Q : Exit → Act → World → Prop}
  (hi : ops[i]? = some o) (hd : e.lg.dst = o.dst) (hWi : e.lg.Wi = e.W.map (·.1)) (hgd : o.guard = none) (hN : ∀ d, o.dst = some d → d < N)
  (hlt : (∀ t ∈ readsOf o, ∀ v, Ri t = some v → Rel ρ v (a.tmps.getD t undef)) → ∀ next : Act → World → Prop, (∀ rv w' ρ', Chg ρ Hi w e.W ρ' w' → (∀ v, e.out = some v → Rel ρ' v rv) → next (a.put o.dst rv) w') → o.wpIn (Fw r) n P a w next Q)
  (hR : ∀ t, R t = Ri t) (hH : ∀ id, (id ∈ e.lg.F ∨ id ∈ e.lg.Wi) → H id = Hi id) (hs : Sim N B L ρ R H a w)
  (hfresh : ∀ id ob, (id, ob) ∈ e.W → id ∉ e.lg.F → ρ id = none) (hL : L ≤ L') (hW : ∀ id ob, (id, ob) ∈ e.W → id < L')
  (hk : ∀ a' w' ρ', Sim N B L' ρ' (appL R (wr e)) (appL H e.W) a' w' → Ev ρ H w ρ' (appL H e.W) w' → (∀ id rb, ρ' id = some rb → ρ id = some rb ∨ ∃ ob, (id, ob) ∈ e.W) → K a' w') :
  wpOpIn (Fw r) n P ops Q i K a w := by
 have put : ∀ (rv : Value) (w' : World) (ρ' : Ren), Chg ρ Hi w e.W ρ' w' → (∀ v, e.out = some v → Rel ρ' v rv) → K (a.put o.dst rv) w' := by
  intro rv w' ρ' hc hv
  have hev := hc.evo (H := H) (fun id ob hm => (hH id (.inr (by rw [hWi]; exact List.mem_map.2 ⟨_, hm, rfl⟩))).symm) hs.heap hs.sep
  rw [updW_app] at hev
  refine hk _ _ ρ' ⟨?_, ?_, hev.heap, hev.sep, ?_, ?_⟩ hev.ev hc.dom
  ·
   cases hdst : o.dst <;> simp [Act.put, hdst, hs.size]
  ·
   intro t v ht
   cases hdst : o.dst with
   | none =>
    rw [hdst] at hd
    simp only [wr, hd, appL, List.lookup_nil] at ht
    simp only [Act.put]
    exact (hs.regs t v ht).ext hev.ext
   | some d =>
    rw [hdst] at hd
    have hdN : d < a.tmps.size := by rw [hs.size]; exact hN d hdst
    simp only [wr, hd, appL, List.lookup_cons, List.lookup_nil] at ht
    simp only [Act.put]
    by_cases htd : t = d
    ·
     subst htd
     simp at ht
     rw [Array.getD_eq_getD_getElem?, Array.getElem?_setIfInBounds_self_of_lt hdN]
     exact hv v ht
    ·
     have : (t == d) = false := by simpa using htd
     simp only [this] at ht
     rw [Array.getD_eq_getD_getElem?, Array.getElem?_setIfInBounds_ne (fun e => htd e.symm), ← Array.getD_eq_getD_getElem?]
     exact (hs.regs t v ht).ext hev.ext
  ·
   intro id hid
   cases hr : ρ' id with
   | none => rfl
   | some rb =>
    rcases hc.dom id rb hr with h | ⟨ob, hm⟩
    ·
     rw [hs.fresh id (by omega)] at h; cases h
    ·
     have := hW id ob hm; omega
  ·
   have : (a.put o.dst rv).defers = a.defers := by cases hdst : o.dst <;> simp [Act.put]
   rw [this]
   exact hs.dfr.fr hev.fr
 unfold wpOpIn
 simp only [hi]
 have hw : Region.wanted o (yielded ops a.tmps) = true := by unfold Region.wanted; simp only [hgd]
 simp only [hw, if_true]
 exact hlt (fun t ht v hv => hs.regs t v ((hR t).trans hv)) K put

end

def swx (j : Nat) (T : TT) (P : Program) (M : Option Nat → Prop) (N A : Nat) (c : Code) : (Exit → RL → HL → Nat → Prop) → RL → HL → Nat → Prop :=
 @Code.rec (fun _ => (Exit → RL → HL → Nat → Prop) → RL → HL → Nat → Prop)
  (fun Q => Q .normal)
  (fun id ops draw Q R H L => match Nat.beq id j with
   | true => SWp P M N A (.region id ops draw) Q R H L
   | false => sw T P M N A (.region id ops draw) Q R H L)
  (fun _ _ iha ihb Q => iha fun e => match e with | .normal => ihb Q | e => Q e)
  (fun c _ _ ihx ihy Q R H L => match ev R c with
   | some (.b t) => (t = true → ihx Q R H L) ∧ (t = false → ihy Q R H L)
   | _ => False)
  (fun id _ ih Q => ih fun e => match e with
   | .exit i => match Nat.beq i id with | true => Q .normal | false => Q (.exit i)
   | e => Q e)
  (fun c _ Q => SWp P M N A (.loop c) Q)
  (fun f ps x y _ _ Q => SWp P M N A (.rangeFunc f ps x y) Q)
  (fun id Q => Q (.exit id))
  (fun c _ Q => SWp P M N A (.scope c) Q)
  (fun l Q => SWp P M N A (.label l) Q)
  (fun l Q => SWp P M N A (.goto l) Q)
  (fun Q => Q .ret)
  (fun s Q => SWp P M N A (.refuse s) Q) c

theorem swx_ok {j : Nat} {T : TT} {P : Program} {M : Option Nat → Prop} {N A : Nat} (hT : TOk P T) (hm : P.follows .mixedOrders = true) : ∀ {c : Code} {Q : Exit → RL → HL → Nat → Prop} {R : RL} {H : HL} {L : Nat}, codeOk N c = true →
  swx j T P M N A c Q R H L → SWp P M N A c Q R H L
 | .skip, Q, R, H, L, _, h => ⟨fun r n B ρ a w hM hs hl => wpIn_skip ⟨R, H, L, ρ, h, hl, hs, EvA.refl _ _ _ _⟩⟩
 | .exit id, Q, R, H, L, _, h => ⟨fun r n B ρ a w hM hs hl => wpIn_exit ⟨R, H, L, ρ, h, hl, hs, EvA.refl _ _ _ _⟩⟩
 | .ret, Q, R, H, L, _, h => ⟨fun r n B ρ a w hM hs hl => wpIn_ret ⟨R, H, L, ρ, h, hl, hs, EvA.refl _ _ _ _⟩⟩
 | .region id ops draw, Q, R, H, L, hc, h => by
  have h : (match Nat.beq id j with
   | true => SWp P M N A (.region id ops draw) Q R H L
   | false => sw T P M N A (.region id ops draw) Q R H L) := h
  cases hb : Nat.beq id j with
  | true => rw [hb] at h; exact h
  | false => rw [hb] at h; exact sw_ok hT hm hc h
 | .seq x y, Q, R, H, L, hc, h => by
  simp only [codeOk, Bool.and_eq_true] at hc
  have h : swx j T P M N A x (fun e => match e with | .normal => swx j T P M N A y Q | e => Q e) R H L := h
  exact (swx_ok hT hm hc.1 h).seq (fun R H L h => swx_ok hT hm hc.2 h) (fun e R H L hne h => by cases e <;> first | exact absurd rfl hne | exact h)
 | .cond c x y, Q, R, H, L, hc, h => by
  simp only [codeOk, Bool.and_eq_true] at hc
  have h : (match ev R c with
   | some (.b t) => (t = true → swx j T P M N A x Q R H L) ∧ (t = false → swx j T P M N A y Q R H L)
   | _ => False) := h
  split at h
  ·
   rename_i t ht
   refine ⟨fun r n B ρ a w hM hs hl => ?_⟩
   have hcv : a.eval c = .bool t := by
    cases c with
    | tmp k =>
     have h1 := hs.regs k (.b t) (by rw [rg, ← lk_eq]; exact ht)
     simp only [Rel] at h1
     exact h1
    | const v =>
     have h1 := (ofVal_rel (ρ := ρ) ht).1
     simp only [Rel] at h1
     exact h1
    | func f => cases ht
    | global g => cases ht
   refine wpIn_cond_split hcv (fun ht => (swx_ok hT hm hc.1 (h.1 ht)).run r n B ρ a w hM hs hl) (fun ht => (swx_ok hT hm hc.2 (h.2 ht)).run r n B ρ a w hM hs hl)
  ·
   exact h.elim
 | .block id c, Q, R, H, L, hc, h => by
  refine ⟨fun r n B ρ a w hM hs hl => ?_⟩
  have h : swx j T P M N A c (fun e => match e with
   | .exit i => match Nat.beq i id with | true => Q .normal | false => Q (.exit i)
   | e => Q e) R H L := h
  simp only [codeOk] at hc
  refine wpIn_block (wpIn_mono ((swx_ok hT hm hc h).run r n B ρ a w hM hs hl) ?_)
  rintro e a2 w2 ⟨R2, H2, L2, ρ2, hq2, rest⟩
  cases e with
  | exit i =>
   simp only [Exit.inBlock]
   cases hb : Nat.beq i id with
   | true => simp only [hb] at hq2; rw [if_pos (beqE hb)]; exact ⟨R2, H2, L2, ρ2, hq2, rest⟩
   | false => simp only [hb] at hq2; rw [if_neg (fun e => by subst e; simp at hb)]; exact ⟨R2, H2, L2, ρ2, hq2, rest⟩
  | _ => exact ⟨R2, H2, L2, ρ2, hq2, rest⟩
 | .loop c, Q, R, H, L, _, h => h
 | .rangeFunc f ps x y, Q, R, H, L, _, h => h
 | .scope c, Q, R, H, L, _, h => h
 | .label l, Q, R, H, L, _, h => h
 | .goto l, Q, R, H, L, _, h => h
 | .refuse s, Q, R, H, L, _, h => h


theorem swp_mnz {T : TT} {P : Program} {M : Option Nat → Prop} {N A : Nat} {id : Nat} {ops : Array Oper} {o1 o2 : Oper} {post : List Oper} {Q : Exit → RL → HL → Nat → Prop} {R R1 : RL} {H H1 : HL} {L L1 n f : Nat} {x : Operand} {tys : Array TypeId} {fn : Func} {t e d : TypeId}
  (hT : TOk P T) (hd : dstOk N ops = true) (hops : ops.toList = o1 :: o2 :: post)
  (h1 : rops T P ops [o1] R H L [] fun R' H' L' _ => R' = R1 ∧ H' = H1 ∧ L' = L1)
  (ho : o2.op = .call ⟨.value (.func f), #[x], tys⟩) (hgd : o2.guard = none) (hdst : o2.dst = some d) (hx : evO (rg R1) x = some (.i (n : Int))) (hn2 : n ≤ 281474976710656)
  (hf : P.funcs[f]? = some fn) (hname : (fn.name == "runtime.NumGoroutine") = false) (hb : fn.body.isNone = true) (hn : Extern.findNext fn = none)
  (he : Extern.find fn = some (Extern.BytealgMakeNoZero.makeNoZero fn.params #[t])) (ht : P.underlying t = some (.slice e))
  (h2 : ∀ l : List UInt8, l.length = n → rops T P ops post ((d, .sl L1 0 n 1 false) :: R1) (hupd H1 [(L1, some (.row e (l.map .u8)))]) (L1 + 1) [] fun R' H' L' _ => Q .normal R' H' L') :
  SWp P M N A (.region id ops false) Q R H L := by
 refine ⟨fun r nn B ρ a w hM hs hl => ?_⟩
 have hN : ∀ (i : Nat) (o : Oper) (d : Nat), ops[i]? = some o → o.dst = some d → d < N := by
  intro i o d ho hdst
  simp only [dstOk, List.all_eq_true] at hd
  have := hd o (by simpa using Array.mem_of_getElem? ho)
  simpa [hdst] using this
 have hget : ∀ j, ops[j]? = (o1 :: o2 :: post)[j]? := fun j => by rw [← hops, Array.getElem?_toList]
 obtain ⟨es, R', H', L', hr, hl', hq1, hq2, hq3⟩ := rops_ok hT h1 hl
 subst hq1 hq2 hq3
 obtain ⟨e1, es1, L0, rfl, hg1, hL1, hW1, hr0⟩ := hr
 obtain ⟨rfl, hR1, hH1, hLL⟩ := hr0
 subst hLL
 refine wpIn_region ?_
 have hsz : ops.size = post.length + 1 + 1 := by rw [← Array.length_toList, hops]; simp
 rw [List.range_eq_range', hsz, List.range'_succ, List.range'_succ, wpOpsIn_cons]
 refine good_step (L' := L0) (hget 0) hg1 (fun d hd => hN 0 o1 d (hget 0) hd) (fun _ _ => rfl) (fun _ _ => rfl) hs (fun id ob hm hF => hs.fresh id ((hW1 id ob hm).2 hF)) hL1 (fun id ob hm => (hW1 id ob hm).1) ?_
 intro a1 w1 ρ1 hs1 hev1 _
 rw [wpOpsIn_cons]
 rw [hR1, hH1] at hs1
 rw [hH1] at hev1
 obtain ⟨cs, l, hrun, hcs, hll, hlt⟩ := run_mnz hf hname hb hn he ht n hn2 w1
 have hch : ∀ Hx : Heap, Chg ρ1 Hx w1 [(L0, some (.row e (l.map .u8)))] (setR ρ1 L0 ⟨w1.heap.size, 0, cs.size, false⟩) (w1.drew.drew.alloc (.cells cs e)) := fun Hx =>
  Chg.row (H := Hx) (w := w1) (fz := (0, 0)) (t := e) (w1.drawn + 2) (hs1.fresh L0 (Nat.le_refl _)) (atoms_u8m l) (by rw [List.length_map, hll, hlt]; exact rels_u8 ρ1 l) (by rw [List.length_map, hll]; exact hcs) (.inl rfl)
 refine good_step_at (L' := L0 + 1) (Ri := rg R') (Hi := hg H') (e := ⟨⟨o2.dst, [], [], [L0]⟩, some (.sl L0 0 n 1 false), [(L0, some (.row e (l.map .u8)))]⟩) (hget 1) rfl rfl hgd (fun d hd => hN 1 o2 d (hget 1) hd) ?_ (fun _ => rfl) (fun _ _ => rfl) hs1 ?_ (by omega) ?_ ?_
 ·
  intro hreg next hnext
  refine ⟨fun _ _ => trivial, ?_⟩
  rw [Oper.semAt_eq _ _ _ (by simp [ho])]
  have hxv : a1.eval x = .int .i64 (n : Int) := by
   have hrel : Rel ρ1 (.i (n : Int)) (a1.eval x) := by
    cases x with
    | tmp t => exact hreg t (by simp only [readsOf, List.mem_filterMap]; exact ⟨.tmp t, by simp [ho, Op.operands, Call.operands], rfl⟩) _ hx
    | const u => exact (ofVal_rel hx).1
    | func f => simp only [evO, Option.some.injEq] at hx; cases hx
    | global g => cases hx
   simpa only [Rel] using hrel
  have hexe : (execOp a1.eval o2).run P w1 = .ok (.value (.slice (some ⟨w1.heap.size, 0, none⟩) n cs.size)) (w1.drew.drew.alloc (.cells cs e)) := by
   unfold execOp
   have hr := hrun
   rw [← hxv] at hr
   have hfe : a1.eval (.func f) = .func (.func f) #[] #[] := rfl
   simp only [ho, resolve, hfe, Deferred.ofValue, Sem.run_bind, Sem.run_pure, Result.andThen, invoke]
   simpa [Result.andThen] using hr
  rw [hexe]
  refine hnext _ _ _ (hch _) ?_
  intro v hv
  cases hv
  simp only [Rel]
  refine ⟨⟨w1.heap.size, 0, cs.size, false⟩, some ⟨w1.heap.size, 0, none⟩, cs.size, by simp [setR], rfl, hcs, by simp, .inr ⟨rfl, by simp, by simp⟩⟩
 ·
  intro id ob hm hF
  simp at hm
  rw [hm.1]; exact hs1.fresh L0 (Nat.le_refl _)
 ·
  intro id ob hm
  simp at hm
  rw [hm.1]; omega
 ·
  intro a2 w2 ρ2 hs2 hev2 _
  rw [appL_wr rfl, ← updW_app, ← hg_hupd] at hs2
  rw [← updW_app, ← hg_hupd] at hev2
  have hrp : rput R' o2.dst (some (.sl L0 0 n 1 false)) = (d, .sl L0 0 n 1 false) :: R' := by rw [hdst]; rfl
  rw [hrp] at hs2
  obtain ⟨es, R2, H2, L2, hr2, hl2, hq2⟩ := rops_ok hT (h2 l hll) (hupd_le (by omega) (fun id ob hm => by simp at hm; rw [hm.1]; omega))
  have hfin := region_text (r := r) (n := nn) (Q := fun e a' w' => ∃ R' H' L' ρ', Q e R' H' L' ∧ H'.length ≤ L' ∧ Sim N B L' ρ' (rg R') (hg H') a' w' ∧ EvA A ρ (hg H) w ρ' (hg H') w') hN post 2 _ _ _ es ρ2 a2 w2 (fun j => by rw [hget]; simp [Nat.add_comm 2 j]) hr2 hs2
   (fun a' w' ρ' hs' hev => ⟨R2, H2, L2, ρ', hq2, hl2, hs', ((hev1.trans hev2).trans hev).toA⟩)
  exact hfin
end Go.Sh
/- mac: bits.Mul (f152), bytes.Repeat of one byte (f135), walked. -/
namespace Go.Sh
open Go.Proofs
set_option maxHeartbeats 4000000

theorem f152 (a b : UInt64) : SCall Try.prog 152 [.u64 a, .u64 b] [] (.tup [.u64 (mhiM a b), .u64 (a * b)]) [] := by
 have q86 := f86M a b
 refine scall_of ttOk (by kernel_rfl : Try.prog.funcs[152]? = some Try.f152) rfl rfl rfl ?_
 try simp only [List.length_cons, List.length_nil, Nat.zero_add, Nat.reduceAdd]
 refine sw_ok ttOk mixed (by kernel_rfl) ?_
 conv => whnf
 repeat (first | (refine brF rfl ?_; conv => whnf) | fail)
 refine ok1_callF [] [] true (q86) rfl rfl ⟨⟨rfl, by first | rfl | fail⟩, trivial, by first | rfl | fail, by first | rfl | fail, ?_⟩
 conv => whnf
 repeat (fail)
 refine ⟨[], ?_, rfl, rfl, ?_, rfl⟩
 ·
  (repeat' (first | (refine wk_tup ?_) | (refine wk_cons ?_ ?_))) <;> first | rfl | fail
 ·
  (repeat' (first | exact trivial | fail)) <;> fail
theorem rep_step {c : UInt8} {l : List UInt8} {b n m : Nat} (hl : l.length = n) (hb : b ≤ n) (hm : m ≤ b) (hbm : b + m ≤ n) :
  (List.replicate (b + m) c ++ l.drop (b + m)).map SV.u8 = sput ((List.replicate b c ++ l.drop b).map SV.u8) (0 + b * 1) (.agg (List.take (m * 1) (List.take ((b - 0) * 1) (List.drop (0 + 0 * 1) ((List.replicate b c ++ l.drop b).map SV.u8))))) := by
 have h1 : List.take (m * 1) (List.take ((b - 0) * 1) (List.drop (0 + 0 * 1) ((List.replicate b c ++ l.drop b).map SV.u8))) = (List.replicate m c).map SV.u8 := by
  rw [Nat.mul_one, Nat.sub_zero, Nat.mul_one, Nat.zero_mul, Nat.zero_add, List.drop_zero, List.take_take, Nat.min_eq_left hm, ← List.map_take, List.take_append_of_le_length (by rw [List.length_replicate]; exact hm), List.take_replicate, Nat.min_eq_left hm]
 have h2 : List.drop (b + m) (List.replicate b c) = [] := by rw [List.drop_eq_nil_iff, List.length_replicate]; omega
 rw [h1]
 show _ = List.take (0 + b * 1) ((List.replicate b c ++ l.drop b).map SV.u8) ++ (List.replicate m c).map SV.u8 ++ List.drop (0 + b * 1 + ((List.replicate m c).map SV.u8).length) ((List.replicate b c ++ l.drop b).map SV.u8)
 rw [List.length_map, List.length_replicate, Nat.zero_add, Nat.mul_one, ← List.map_take, ← List.map_drop, List.take_left' (by simp), List.drop_append, List.length_replicate, h2, List.nil_append, show b + m - b = m by omega, List.drop_drop, ← List.map_append, ← List.map_append, List.replicate_append_replicate]
theorem f135 (c : UInt8) (n : Nat) (hn1 : 1 ≤ n) (hn : n ≤ 8192) (f : Bool) : SCall Try.prog 135 [.sl 0 0 1 1 f, .i (n : Int)] [some (.ro [.u8 c])] (.sl 1 0 n 1 true) [some (.ro [.u8 c]), some (.row 5 ((List.replicate n c).map .u8))] := by
 have e0 : ((n : Int) == 0) = false := by simp; omega
 have e1 : decide ((n : Int) < 0) = false := by simp
 have hun : u64i (n : Int) = UInt64.ofNat n := by unfold u64i; congr 1; omega
 have hnn : (u64i (n : Int)).toNat = n := by rw [hun, UInt64.toNat_ofNat']; omega
 have hu1 : u64i ((1 : Nat) : Int) = 1 := rfl
 have q152 := f152 (u64i ((1 : Nat) : Int)) (u64i (n : Int))
 have hm0 : mhiM (u64i ((1 : Nat) : Int)) (u64i (n : Int)) = 0 := by
  apply UInt64.toNat_inj.1
  rw [mhiM_n, hnn, hu1]; show 1 * n / 18446744073709551616 = 0; omega
 have hm1 : u64i ((1 : Nat) : Int) * u64i (n : Int) = u64i (n : Int) := by rw [hu1, UInt64.one_mul]
 rw [hm0, hm1] at q152
 have e2 : decide (u64i (n : Int) > UInt64.ofNat (Int.toNat 9223372036854775807)) = false := by
  rw [decide_eq_false_iff_not]
  intro hgt
  have h := UInt64.lt_iff_toNat_lt.1 hgt
  rw [hnn] at h
  have h9 : (UInt64.ofNat (Int.toNat 9223372036854775807)).toNat = 9223372036854775807 := by decide
  omega
 refine scall_of ttOk (by kernel_rfl : Try.prog.funcs[135]? = some Try.f135) rfl rfl rfl ?_
 try simp only [List.length_cons, List.length_nil, Nat.zero_add, Nat.reduceAdd]
 refine swx_ok (j := 16) ttOk mixed (by kernel_rfl) ?_
 conv => whnf
 repeat (first | (refine And.intro (by first | omega | (simp; omega) | fail) ?_; conv => whnf) | fail)
 first | intro _
 conv => whnf
 repeat (first | (refine brF rfl ?_; conv => whnf) | fail)
 refine ok1_callF [] [] true (q152) rfl rfl ⟨⟨rfl, by first | rfl | fail⟩, trivial, by first | rfl | fail, by first | rfl | fail, ?_⟩
 conv => whnf
 repeat (first | (refine gdT rfl ?_; conv => whnf) | (refine Exists.intro _ (And.intro rfl ?_); conv => whnf) | fail)
 first | refine brF (by exact e2) ?_ | fail
 conv => whnf
 repeat (first | (refine brF rfl ?_; conv => whnf) | fail)
 have hwn : w64 ((u64i (n : Int)).toNat : Int) = (n : Int) := by rw [hnn]; simp only [w64_eq]; omega
 have e3 : decide ((n : Int) > 8192) = false := by simp; omega
 rw [hwn]
 first | refine brF (by exact e3) ?_ | fail
 conv => whnf
 refine swp_mnz (n := n) (T := tt) (fn := Try.f153) (t := 34) (e := 5) ttOk (by kernel_rfl) rfl ⟨rfl, rfl, rfl⟩ rfl rfl rfl rfl (by omega) (by kernel_rfl : Try.prog.funcs[153]? = some Try.f153) (by kernel_rfl) (by kernel_rfl) (by kernel_rfl) (by kernel_rfl) (by kernel_rfl) ?_
 intro l hl
 conv => whnf
 repeat (first | (refine Exists.intro _ (And.intro rfl ?_); conv => whnf) | (refine And.intro (by first | omega | (simp; omega) | fail) ?_; conv => whnf) | fail)
 have hnt : ((n : Int)).toNat = n := Int.toNat_natCast n
 refine loop_rule ttOk mixed (by kernel_rfl) (ι := { b : Nat // 1 ≤ b ∧ b ≤ n }) (fun b => [(7, .i n), (8, .i n), (9, .sl 1 0 n 1 true), (10, .i (b.1 : Int))]) (fun b => [some (.ro [.u8 c]), some (.row 5 ((List.replicate b.1 c ++ l.drop b.1).map .u8))]) (fun _ => 2) (fun b => n - b.1) ⟨1, by omega, by omega⟩ ?_ ?_
 ·
  dsimp only
  have hmin : min 1 (n - 0) = 1 := by omega
  have hdn : decide (n = n) = true := by simp
  rw [hnt, hmin, hdn]
  have hr0 : (List.replicate 1 c ++ l.drop 1).map SV.u8 = sput (l.map SV.u8) (0 + 0 * 1) (.agg (List.take (1 * 1) (List.take (1 * 1) (List.drop 0 [SV.u8 c])))) := by
   show _ = List.take 0 (l.map SV.u8) ++ [SV.u8 c] ++ List.drop 1 (l.map SV.u8)
   rw [List.take_zero, List.map_append, List.map_drop]; rfl
  refine Weak.sel [0, 1] rfl rfl ?_ ?_ rfl rfl
  ·
   (repeat' (first | exact trivial | refine And.intro ?_ ?_ | fail)) <;> first | rfl | fail
  ·
   (repeat' (first | exact trivial | exact ren_eq (plainL_u8 _) hr0 | refine And.intro ?_ ?_ | (refine wk_cons ?_ ?_))) <;> first | rfl | fail
 ·
  rintro ⟨b, hb1, hb⟩
  dsimp only
  by_cases hbn : b < n
  ·
   have hlt : decide ((b : Int) < (n : Int)) = true := by simp; omega
   conv => whnf
   first | refine brT (by exact hlt) ?_ | fail
   conv => whnf
   repeat (first | (refine Exists.intro _ (And.intro rfl ?_); conv => whnf) | (refine And.intro (by first | omega | fail) ?_; conv => whnf) | fail)
   have hif : ¬ ((n : Int) < (b : Int)) := by omega
   rw [if_neg hif]
   repeat (first | (refine Exists.intro _ (And.intro (evb_i (m := b) rfl (by first | rfl | fail)) ?_); conv => whnf) | (refine And.intro (by first | omega | (simp; omega) | fail) ?_; conv => whnf) | (refine And.intro (by kernel_rfl) ?_; conv => whnf) | fail)
   rw [Int.toNat_natCast]
   obtain ⟨m, hm⟩ : ∃ m, m = min (b - 0) (n - b) := ⟨_, rfl⟩
   have hst := rep_step (c := c) (l := l) (b := b) (n := n) (m := m) hl hb (by omega) (by omega)
   rw [← hm]
   have hp : w64 ((b : Int) + (m : Int)) = ((b + m : Nat) : Int) := by simp only [w64_eq]; omega
   refine ⟨⟨b + m, by omega, by omega⟩, by simp only; omega, ?_⟩
   dsimp only
   refine Weak.sel [0, 1] rfl rfl ?_ ?_ rfl rfl
   ·
    (repeat' (first | exact trivial | refine And.intro ?_ ?_ | fail)) <;> first | exact wk_i (by first | exact hp | exact hp.symm | fail) | rfl | fail
   ·
    (repeat' (first | exact trivial | exact ren_eq (plainL_u8 _) hst | refine And.intro ?_ ?_ | (refine wk_cons ?_ ?_))) <;> first | rfl | fail
  ·
   obtain rfl : b = n := by omega
   have hlt : decide ((b : Int) < (b : Int)) = false := by simp
   conv => whnf
   first | refine brF (by exact hlt) ?_ | fail
   conv => whnf
   repeat (fail)
   have hd : l.drop b = [] := by rw [List.drop_eq_nil_iff]; omega
   rw [hd, List.append_nil]
   refine ⟨[0, 1], ?_, rfl, rfl, ?_, rfl⟩
   ·
    (repeat' (fail)) <;> first | rfl | fail
   ·
    (repeat' (first | exact trivial | refine And.intro ?_ ?_ | (refine wk_cons ?_ ?_))) <;> first | rfl | exact ren_m8 (by first | rfl | fail) | fail
end Go.Sh
/- sha: the narrow machine's sum (f102), walked, of texts in parts. -/
namespace Go.Sh
open Go.Proofs
set_option maxHeartbeats 1000000

attribute [local irreducible] comp_n
theorem f139D (h k : List UInt32) (D : List UInt8) (o : Nat) (hh : h.length = 8) (hk : k.length = 64) (ho : o + 64 ≤ D.length) (fl : Bool) : SCall Try.prog 139 [.p 0 0, .sl 3 o 64 1 fl] [some (.ro (mach_n 1 2)), some (.row 23 (h.map .u32)), some (.ro (k.map .u32)), some (.ro (D.map .u8))] (.tup []) [some (.ro (mach_n 1 2)), some (.row 23 ((comp_n k h ((D.drop o).take 64)).map .u32)), some (.ro (k.map .u32)), some (.ro (D.map .u8))] :=
 have hl : ((D.drop o).take 64).length = 64 := (by rw [List.length_take, List.length_drop]; omega)
 (f139 h k ((D.drop o).take 64) hh hk hl fl).sub 3 o (D.map .u8) (((D.drop o).take 64).map .u8) 4 rfl rfl (by rw [List.length_map, hl, ← List.map_drop, ← List.map_take]) (plainL_u8 _) (plainL_u8 _) (by decide) ⟨.inr ⟨rfl, rfl⟩, .inl rfl, trivial⟩ rfl
  ⟨.inr (.inr rfl), .inr (.inl (by simp [plainB])), .inr (.inl (by simp [plainB])), .inl rfl, trivial⟩ ⟨.inr (.inr rfl), .inr (.inl (by simp [plainB])), .inr (.inl (by simp [plainB])), .inl rfl, trivial⟩
theorem blks_s_n (k h : List UInt32) (D : List UInt8) (j : Nat) : blks_n k h D (j + 1) = comp_n k (blks_n k h D j) ((D.drop (64 * j)).take 64) := rfl
theorem blks_z_n (k h : List UInt32) (D : List UInt8) : blks_n k h D 0 = h := rfl
theorem cat8 {E b : List UInt8} {o n m : Nat} (hn : n = E.length - o) (hm : m = b.length) : List.take (n * 1) (List.drop o (E.map SV.u8)) ++ List.take (m * 1) (List.drop 0 (b.map SV.u8)) = (E.drop o ++ b).map SV.u8 := by
 subst hn; subst hm
 rw [Nat.mul_one, Nat.mul_one, List.drop_zero, List.take_of_length_le (l := b.map SV.u8) (by rw [List.length_map]; exact Nat.le_refl _), List.take_of_length_le (by rw [List.length_drop, List.length_map]; exact Nat.le_refl _), List.map_append, List.map_drop]
theorem outl_z_n (H : List UInt32) : outl_n H (4 * 0) = [] := rfl
theorem outl_s_n (H : List UInt32) (i m : Nat) (hm : m < 4) : outl_n H (4 * i + (m + 1)) = outl_n H (4 * i + m) ++ [(shr32 (H.getD i 0) (8 * (3 - m))).toUInt8] := by
 show outl_n H (4 * i + m) ++ [(shr32 (H.getD ((4 * i + m) / 4) 0) (8 * (4 - 1 - (4 * i + m) % 4))).toUInt8] = _
 rw [show (4 * i + m) / 4 = i by omega, show 4 - 1 - (4 * i + m) % 4 = 3 - m by omega]
theorem outb_e_n (H : List UInt32) : outb_n H = outl_n H (4 * 8) := rfl
theorem lset_z_n (N : Nat) : lset_n N 0 = List.replicate 8 0 := rfl
theorem lset_s_n (N i : Nat) : lset_n N (i + 1) = (lset_n N i).set (7 - i) (shr64 (shl64 (UInt64.ofNat N) (UInt64.ofNat (Int.toNat 3)).toNat) (8 * i)).toUInt8 := rfl
theorem last_e_n (T : List UInt8) : rest_n T ++ [128] ++ List.replicate (pz_n T.length) 0 ++ lset_n T.length 8 = last_n T := rfl
attribute [local irreducible] blks_n st_n rest_n hash_n pz_n outl_n outb_n lset_n last_n
theorem f102_1 (h k : List UInt32) (hh : h.length = 8) (hk : k.length = 64) (b0 : List UInt8) (hb0 : b0.length < 100000000000000) (f0 fl : Bool) : SCall Try.prog 102 [.p 0 0, .sl 3 0 1 1 fl] [some (.ro (mach_n 1 2)), some (.row 23 (h.map .u32)), some (.ro (k.map .u32)), some (.ro [.sl 4 0 b0.length 1 f0]), some (.ro (b0.map .u8))] (.sl 5 0 32 1 false) [some (.ro (mach_n 1 2)), none, some (.ro (k.map .u32)), some (.ro [.sl 4 0 b0.length 1 f0]), some (.ro (b0.map .u8)), some (.row 5 ((hash_n k h b0).map .u8))] := by
 obtain ⟨tx, htx⟩ : ∃ tx : Nat → List UInt8, tx = fun i => ([b0].take i).flatten := ⟨_, rfl⟩
 have tx0 : tx 0 = [] := by rw [htx]; rfl
 have tx1 : tx 1 = tx 0 ++ b0 := by rw [htx]; simp
 have htp : tx 1 = b0 := by rw [tx1, tx0]; rfl
 have he : hash_n k h b0 = hash_n k h (tx 1) := by rw [htp]
 rw [he]
 have hl0 : (tx 0).length = 0 := by rw [tx0]; rfl
 have hl1 : (tx 1).length = b0.length := by rw [tx1, List.length_append, hl0, Nat.zero_add]
 clear htx
 refine scall_of ttOk (by kernel_rfl : Try.prog.funcs[102]? = some Try.f102) rfl rfl rfl ?_
 try simp only [List.length_cons, List.length_nil, Nat.zero_add, Nat.reduceAdd]
 refine sw_ok ttOk mixed (by kernel_rfl) ?_
 conv => whnf
 repeat (first | (refine Exists.intro _ (And.intro rfl ?_); conv => whnf) | fail)
 refine SWp.weak (Weak.virt 6 5 1 rfl) ?_
 refine loop_rule ttOk mixed (by kernel_rfl) (ι := { x : Nat × List UInt8 × Nat // x.1 ≤ 1 ∧ x.2.2 ≤ x.2.1.length ∧ x.2.1.drop x.2.2 = rest_n (tx x.1) }) (fun x => [(0, .p 0 0), (5, .i 64), (6, .sl 5 x.1.2.2 (x.1.2.1.length - x.1.2.2) 1 false), (7, .u64 (UInt64.ofNat (tx x.1.1).length)), (21, .sl 3 0 1 1 fl), (22, .i 1), (23, .i (x.1.1 : Int))]) (fun x => [some (.ro (mach_n 1 2)), some (.row 23 ((st_n k h (tx x.1.1)).map .u32)), some (.ro (k.map .u32)), some (.ro [.sl 4 0 b0.length 1 f0]), some (.ro (b0.map .u8)), some (.row 5 (x.1.2.1.map .u8))]) (fun _ => 6) (fun x => 1 - x.1.1) ⟨(0, [], 0), by omega, by simp, by rw [tx0]; exact rest_nil_n.symm⟩ ?_ ?_
 ·
  dsimp only
  rw [tx0, st_nil_n]
  refine Weak.sel [0, 1, 2, 3, 4, 5] rfl rfl ?_ ?_ rfl rfl
  ·
   (repeat' (first | exact trivial | refine And.intro ?_ ?_ | fail)) <;> first | rfl | fail
  ·
   (repeat' (first | exact trivial | refine And.intro ?_ ?_ | (refine wk_cons ?_ ?_))) <;> first | rfl | exact ren_eq (by first | (simp; done) | fail) (by first | rfl | fail) | fail
 ·
  rintro ⟨⟨i, E, o⟩, hi, ho, hE⟩
  dsimp only at hi ho hE ⊢
  have hsl := st_len_n k hh (tx i)
  have hrl := rest_len_n (tx i)
  obtain ⟨S, hS⟩ : ∃ S, S = st_n k h (tx i) := ⟨_, rfl⟩
  rw [← hS] at hsl ⊢
  have hEl : E.length - o = (rest_n (tx i)).length := by rw [← hE, List.length_drop]
  by_cases hi2 : i < 1
  ·
   obtain rfl : i = 0 := by omega
   have hq := feed_st_n k h (tx 0) b0
   have hq2 := feed_rest_n (tx 0) b0
   rw [← hS] at hq
   rw [← tx1] at hq hq2
   rw [← hE] at hq hq2 hEl
   have hap : (E.drop o ++ b0).map SV.u8 = List.take ((E.length - o) * 1) (List.drop o (E.map SV.u8)) ++ List.take (b0.length * 1) (List.drop 0 (b0.map SV.u8)) := (cat8 rfl rfl).symm
   have hDl : (E.drop o ++ b0).length = E.length - o + b0.length := by rw [List.length_append, List.length_drop]
   have hel : E.length - o < 64 := by rw [← List.length_drop, hE, hrl]; omega
   have hul : UInt64.ofNat (tx 0).length + u64i (b0.length : Int) = UInt64.ofNat (tx 1).length := by rw [u64_add_i _ _ (by omega), tx1, List.length_append]
   clear hS hrl
   conv => whnf
   first | refine brT (by rfl) ?_ | fail
   conv => whnf
   repeat (first | (refine Exists.intro _ (And.intro rfl ?_); conv => whnf) | (refine And.intro (by first | omega | (simp [ti5]; omega)) ?_; conv => whnf) | fail)
   obtain ⟨D, hD⟩ : ∃ D, D = E.drop o ++ b0 := ⟨_, rfl⟩
   rw [← hD] at hq hq2 hap hDl
   refine loop_rule ttOk mixed (by kernel_rfl) (ι := { j : Nat // 64 * j ≤ D.length }) (fun j => [(0, .p 0 0), (5, .i 64), (6, .sl 5 (64 * j.1) (D.length - 64 * j.1) 1 false), (7, .u64 (UInt64.ofNat (tx 1).length)), (21, .sl 3 0 1 1 fl), (22, .i 1), (23, .i 0)]) (fun j => [some (.ro (mach_n 1 2)), some (.row 23 ((blks_n k S D j.1).map .u32)), some (.ro (k.map .u32)), some (.ro [.sl 4 0 b0.length 1 f0]), some (.ro (b0.map .u8)), some (.row 5 (D.map .u8))]) (fun _ => 5 + 1) (fun j => D.length - 64 * j.1) ⟨0, by omega⟩ ?_ ?_
   ·
    have hz := blks_z_n k S D
    have hDn : E.length - o + b0.length = D.length - 64 * 0 := by omega
    dsimp only
    rw [hz]
    refine Weak.sel [0, 1, 2, 3, 4, 6] rfl rfl ?_ ?_ rfl rfl
    ·
     (repeat' (first | exact trivial | refine And.intro ?_ ?_ | fail)) <;> first | exact wk_u64 (by first | exact hul | exact hul.symm | fail) | rfl | exact wk_sl rfl (by first | rfl | fail) (by first | exact hDn.symm | fail) | fail
    ·
     (repeat' (first | exact trivial | exact ren_eq (plainL_u8 _) hap | refine And.intro ?_ ?_ | (refine wk_cons ?_ ?_))) <;> first | rfl | exact ren_eq (by first | (simp; done) | fail) (by first | rfl | fail) | fail
   ·
    rintro ⟨j, hj⟩
    dsimp only
    have hbl := blks_len_n k hsl D j
    by_cases hc : 64 * (j + 1) ≤ D.length
    ·
     have hge : decide (((D.length - 64 * j : Nat) : Int) ≥ 64) = true := by simp; omega
     have hs := blks_s_n k S D j
     have q139 := f139D (blks_n k S D j) k D (64 * j) hbl hk (by omega) false
     rw [← hs] at q139
     conv => whnf
     first | refine brT (by exact hge) ?_ | fail
     conv => whnf
     repeat (first | (refine Exists.intro _ (And.intro rfl ?_); conv => whnf) | (refine And.intro (by first | omega | fail) ?_; conv => whnf) | fail)
     refine ok1_callF [0, 1, 2, 5] [false, true, false, false] true (q139) rfl rfl ⟨⟨rfl, by first | rfl | fail⟩, by (repeat' (first | exact trivial | refine And.intro ?_ ?_)) <;> first | rfl | exact ren_eq (by first | (simp; done) | fail) (by first | rfl | fail) | fail, by first | simp [plainHf, plainB], by first | rfl | fail, ?_⟩
     conv => whnf
     repeat (first | (refine Exists.intro _ (And.intro rfl ?_); conv => whnf) | (refine And.intro (by first | omega | fail) ?_; conv => whnf) | fail)
     refine ⟨⟨j + 1, hc⟩, by simp only; omega, ?_⟩
     dsimp only
     refine Weak.sel [0, 1, 2, 3, 4, 5] rfl rfl ?_ ?_ rfl rfl
     ·
      (repeat' (first | exact trivial | refine And.intro ?_ ?_ | fail)) <;> first | rfl | fail
     ·
      (repeat' (first | exact trivial | refine And.intro ?_ ?_ | (refine wk_cons ?_ ?_))) <;> first | rfl | exact ren_eq (by first | (simp; done) | fail) (by first | rfl | fail) | fail
    ·
     obtain rfl : j = D.length / 64 := by omega
     have hge : decide (((D.length - 64 * (D.length / 64) : Nat) : Int) ≥ 64) = false := by simp; omega
     rw [hq]
     conv => whnf
     first | refine brF (by exact hge) ?_ | fail
     conv => whnf
     repeat (fail)
     refine ⟨⟨(1, D, 64 * (D.length / 64)), by omega, by simp only; omega, hq2⟩, by simp only; omega, ?_⟩
     dsimp only
     refine Weak.sel [0, 1, 2, 3, 4, 5] rfl rfl ?_ ?_ rfl rfl
     ·
      (repeat' (first | exact trivial | refine And.intro ?_ ?_ | fail)) <;> first | rfl | fail
     ·
      (repeat' (first | exact trivial | refine And.intro ?_ ?_ | (refine wk_cons ?_ ?_))) <;> first | rfl | exact ren_eq (by first | (simp; done) | fail) (by first | rfl | fail) | fail
  ·
   obtain rfl : i = 1 := by omega
   obtain ⟨n, hn⟩ : ∃ n, n = E.length - o := ⟨_, rfl⟩
   have hnE : o + n = E.length := by omega
   rw [← hn]
   have hcat : (rest_n (tx 1) ++ [128]).map SV.u8 = List.take (n * 1) (List.drop o (E.map SV.u8)) ++ List.take (1 * 1) (List.drop 0 [SV.u8 128]) := by rw [← hE]; exact (cat8 (b := [128]) hn rfl).symm
   have hdd : decide (((n : Nat) : Int).toNat = ((n : Nat) : Int).toNat) = true := by simp
   conv => whnf
   first | refine brF (by rfl) ?_ | fail
   conv => whnf
   repeat (first | (refine Exists.intro _ (And.intro rfl ?_); conv => whnf) | (refine And.intro (by first | omega | fail) ?_; conv => whnf) | fail)
   rw [hdd]
   rw [Int.toNat_natCast]
   have hnl : n = (rest_n (tx 1)).length := by rw [hn, ← hE, List.length_drop]
   have hn64 : n < 64 := by rw [hnl, hrl]; omega
   have hpz := pz_rest_n (tx 1)
   rw [← hnl] at hpz
   have hpl : pz_n n < 64 := by unfold pz_n; exact Nat.mod_lt _ (by decide)
   conv => whnf
   refine And.intro ⟨by show _ ≤ (E.map SV.u8).length; rw [List.length_map]; omega, by decide, by show _ * 1 ≤ _; omega, by decide⟩ ?_
   conv => whnf
   repeat (fail)
   refine loop_rule ttOk mixed (by kernel_rfl) (ι := { j : Nat // j ≤ pz_n n }) (fun j => [(0, .p 0 0), (5, .i 64), (6, .sl 5 0 (n + 1 + j.1) 1 false), (7, .u64 (UInt64.ofNat (tx 1).length))]) (fun j => [some (.ro (mach_n 1 2)), some (.row 23 (S.map .u32)), some (.ro (k.map .u32)), some (.ro [.sl 4 0 b0.length 1 f0]), some (.ro (b0.map .u8)), some (.row 5 ((rest_n (tx 1) ++ [128] ++ List.replicate j.1 0).map .u8))]) (fun _ => 5 + 1) (fun j => pz_n n - j.1) ⟨0, by omega⟩ ?_ ?_
   ·
    have hz : rest_n (tx 1) ++ [128] ++ List.replicate 0 0 = rest_n (tx 1) ++ [128] := List.append_nil _
    dsimp only
    rw [hz]
    refine Weak.sel [0, 1, 2, 3, 4, 5 + 2] rfl rfl ?_ ?_ rfl rfl
    ·
     (repeat' (first | exact trivial | refine And.intro ?_ ?_ | fail)) <;> first | rfl | fail
    ·
     (repeat' (first | exact trivial | exact ren_eq (plainL_u8 _) hcat | refine And.intro ?_ ?_ | (refine wk_cons ?_ ?_))) <;> first | rfl | exact ren_eq (by first | (simp; done) | fail) (by first | rfl | fail) | fail
   ·
    rintro ⟨j, hj⟩
    dsimp only
    obtain ⟨Y, hY⟩ : ∃ Y, Y = rest_n (tx 1) ++ [128] ++ List.replicate j 0 := ⟨_, rfl⟩
    have hYl : Y.length = n + 1 + j := by rw [hY, List.length_append, List.length_append, ← hnl, List.length_replicate]; rfl
    have hYs : rest_n (tx 1) ++ [128] ++ List.replicate (j + 1) 0 = Y ++ [0] := by rw [hY, List.replicate_succ', List.append_assoc]; simp
    by_cases hj2 : j < pz_n n
    ·
     have hno := padz_no_n hj2
     have hcd : (((w64 (((n + 1 + j : Nat) : Int) + w64 (2 * 4))).tmod 64) != 0) = true := by
      have e : w64 (((n + 1 + j : Nat) : Int) + w64 (2 * 4)) = ((n + 1 + j + 8 : Nat) : Int) := by simp only [w64_eq]; omega
      rw [e, show (((n + 1 + j + 8 : Nat) : Int)).tmod 64 = (((n + 1 + j + 8) % 64 : Nat) : Int) from rfl]
      simp; omega
     rw [← hY]
     conv => whnf
     repeat (first | (refine Exists.intro _ (And.intro rfl ?_); conv => whnf) | fail)
     first | refine brT (by exact hcd) ?_ | fail
     conv => whnf
     repeat (first | (refine Exists.intro _ (And.intro rfl ?_); conv => whnf) | (refine And.intro (by first | omega | (simp [ti5]; omega)) ?_; conv => whnf) | fail)
     have hap2 : (Y ++ [0]).map SV.u8 = List.take ((n + 1 + j) * 1) (List.drop 0 (Y.map SV.u8)) ++ List.take (1 * 1) (List.drop 0 [SV.u8 0]) := (cat8 (o := 0) (n := n + 1 + j) (E := Y) (b := [0]) (by omega) rfl).symm
     refine ⟨⟨j + 1, by omega⟩, by simp only; omega, ?_⟩
     dsimp only
     rw [hYs]
     refine Weak.sel [0, 1, 2, 3, 4, 5 + 2] rfl rfl ?_ ?_ rfl rfl
     ·
      (repeat' (first | exact trivial | refine And.intro ?_ ?_ | fail)) <;> first | rfl | fail
     ·
      (repeat' (first | exact trivial | exact ren_eq (plainL_u8 _) hap2 | refine And.intro ?_ ?_ | (refine wk_cons ?_ ?_))) <;> first | rfl | exact ren_eq (by first | (simp; done) | fail) (by first | rfl | fail) | fail
    ·
     obtain rfl : j = pz_n n := by omega
     have hyes := padz_yes_n n
     have hcd : (((w64 (((n + 1 + pz_n n : Nat) : Int) + w64 (2 * 4))).tmod 64) != 0) = false := by
      have e : w64 (((n + 1 + pz_n n : Nat) : Int) + w64 (2 * 4)) = ((n + 1 + pz_n n + 8 : Nat) : Int) := by simp only [w64_eq]; omega
      rw [e, show (((n + 1 + pz_n n + 8 : Nat) : Int)).tmod 64 = (((n + 1 + pz_n n + 8) % 64 : Nat) : Int) from rfl, hyes]
      rfl
     rw [← hY]
     conv => whnf
     repeat (first | (refine Exists.intro _ (And.intro rfl ?_); conv => whnf) | fail)
     first | refine brF (by exact hcd) ?_ | fail
     conv => whnf
     repeat (first | (refine Exists.intro _ (And.intro rfl ?_); conv => whnf) | (refine And.intro ⟨by first | decide | fail, by first | decide | fail⟩ ?_; conv => whnf) | fail)
     obtain ⟨N, hN⟩ : ∃ N, N = (tx 1).length := ⟨_, rfl⟩
     rw [← hN]
     refine loop_rule ttOk mixed (by kernel_rfl) (ι := { i : Nat // i ≤ 8 }) (fun i => [(0, .p 0 0), (5, .i 64), (6, .sl 5 0 (n + 1 + pz_n n) 1 false), (7, .u64 (UInt64.ofNat N)), (10, .sl (5 + 1) 0 8 1 true), (76, .i (i.1 : Int))]) (fun i => [some (.ro (mach_n 1 2)), some (.row 23 (S.map .u32)), some (.ro (k.map .u32)), some (.ro [.sl 4 0 b0.length 1 f0]), some (.ro (b0.map .u8)), some (.row 5 (Y.map .u8)), some (.row 5 ((lset_n N i.1).map .u8))]) (fun _ => 5 + 2) (fun i => 8 - i.1) ⟨0, by omega⟩ ?_ ?_
     ·
      have hz := lset_z_n N
      dsimp only
      rw [hz]
      refine Weak.sel [0, 1, 2, 3, 4, 5, 5 + 1] rfl rfl ?_ ?_ rfl rfl
      ·
       (repeat' (first | exact trivial | refine And.intro ?_ ?_ | fail)) <;> first | rfl | fail
      ·
       (repeat' (first | exact trivial | exact ren_z8 | refine And.intro ?_ ?_ | (refine wk_cons ?_ ?_))) <;> first | rfl | exact ren_eq (by first | (simp; done) | fail) (by first | rfl | fail) | fail
     ·
      rintro ⟨i, hi⟩
      dsimp only
      have hll := lset_len_n N i
      by_cases hi8 : i < 8
      ·
       have hlt : decide ((i : Int) < 8) = true := by simp; omega
       have hp := wp1i i (by omega)
       have h8 : w64 (8 * (i : Int)) = ((8 * i : Nat) : Int) := by simp only [w64_eq]; omega
       have h7 : w64 (w64 (8 - 1) - (i : Int)) = ((7 - i : Nat) : Int) := by simp only [w64_eq]; omega
       have hs := lset_s_n N i
       conv => whnf
       first | refine brT (by exact hlt) ?_ | fail
       conv => whnf
       repeat (fail)
       refine ⟨_, mshr_64 h8, ?_⟩
       conv => whnf
       repeat (first | (refine Exists.intro _ (And.intro (sput_m8 (i := 7 - i) (by first | rfl | omega | fail)) ?_); conv => whnf) | (refine Exists.intro _ (And.intro (idx_i (m := 7 - i) (by first | rfl | omega | fail)) ?_); conv => whnf) | (refine And.intro (by first | omega | (simp; omega) | fail) ?_; conv => whnf) | fail)
       refine ⟨⟨i + 1, by omega⟩, by simp only; omega, ?_⟩
       dsimp only
       rw [hs]
       refine Weak.sel [0, 1, 2, 3, 4, 5, 5 + 1] rfl rfl ?_ ?_ rfl rfl
       ·
        (repeat' (first | exact trivial | refine And.intro ?_ ?_ | fail)) <;> first | exact wk_i (by first | exact hp | exact hp.symm | fail) | rfl | fail
       ·
        (repeat' (first | exact trivial | refine And.intro ?_ ?_ | (refine wk_cons ?_ ?_))) <;> first | rfl | exact ren_eq (by first | (simp; done) | fail) (by first | rfl | fail) | exact ren_m8 (by first | rfl | fail) | fail
      ·
       obtain rfl : i = 8 := by omega
       have hap3 : (Y ++ lset_n N 8).map SV.u8 = List.take ((n + 1 + pz_n n) * 1) (List.drop 0 (Y.map SV.u8)) ++ List.take (8 * 1) (List.drop 0 ((lset_n N 8).map SV.u8)) := (cat8 (o := 0) (n := n + 1 + pz_n n) (E := Y) (b := lset_n N 8) (by omega) hll.symm).symm
       obtain ⟨D, hD⟩ : ∃ D, D = Y ++ lset_n N 8 := ⟨_, rfl⟩
       have hDl : D.length = n + 1 + pz_n n + 8 := by rw [hD, List.length_append, hYl, hll]
       have hDe : D = last_n (tx 1) := by rw [hD, hY, hpz, hN]; exact last_e_n _
       have hD64 := last_len_n (tx 1)
       have hfin := last_st_n k h (tx 1)
       rw [← hDe] at hD64 hfin
       rw [← hS] at hfin
       rw [← hD] at hap3
       conv => whnf
       first | refine brF (by rfl) ?_ | fail
       conv => whnf
       repeat (first | (refine And.intro (by first | omega | (simp [ti5]; omega)) ?_; conv => whnf) | fail)
       refine loop_rule ttOk mixed (by kernel_rfl) (ι := { j : Nat // 64 * j ≤ D.length }) (fun j => [(0, .p 0 0), (5, .i 64), (6, .sl 5 (64 * j.1) (D.length - 64 * j.1) 1 false)]) (fun j => [some (.ro (mach_n 1 2)), some (.row 23 ((blks_n k S D j.1).map .u32)), some (.ro (k.map .u32)), some (.ro [.sl 4 0 b0.length 1 f0]), some (.ro (b0.map .u8)), some (.row 5 (D.map .u8))]) (fun _ => 5 + 1) (fun j => D.length - 64 * j.1) ⟨0, by omega⟩ ?_ ?_
       ·
        have hz := blks_z_n k S D
        have hDn : n + 1 + pz_n n + 8 = D.length - 64 * 0 := by omega
        dsimp only
        rw [hz]
        refine Weak.sel [0, 1, 2, 3, 4, 5 + 2] rfl rfl ?_ ?_ rfl rfl
        ·
         (repeat' (first | exact trivial | refine And.intro ?_ ?_ | fail)) <;> first | rfl | exact wk_sl rfl (by first | rfl | fail) (by first | exact hDn.symm | fail) | fail
        ·
         (repeat' (first | exact trivial | exact ren_eq (plainL_u8 _) hap3 | refine And.intro ?_ ?_ | (refine wk_cons ?_ ?_))) <;> first | rfl | exact ren_eq (by first | (simp; done) | fail) (by first | rfl | fail) | fail
       ·
        rintro ⟨j, hj⟩
        dsimp only
        have hbl := blks_len_n k hsl D j
        by_cases hc : 64 * (j + 1) ≤ D.length
        ·
         have hge : decide (((D.length - 64 * j : Nat) : Int) > 0) = true := by simp; omega
         have hs := blks_s_n k S D j
         have q139 := f139D (blks_n k S D j) k D (64 * j) hbl hk (by omega) false
         rw [← hs] at q139
         conv => whnf
         first | refine brT (by exact hge) ?_ | fail
         conv => whnf
         repeat (first | (refine Exists.intro _ (And.intro rfl ?_); conv => whnf) | (refine And.intro (by first | omega | fail) ?_; conv => whnf) | fail)
         refine ok1_callF [0, 1, 2, 5] [false, true, false, false] true (q139) rfl rfl ⟨⟨rfl, by first | rfl | fail⟩, by (repeat' (first | exact trivial | refine And.intro ?_ ?_)) <;> first | rfl | exact ren_eq (by first | (simp; done) | fail) (by first | rfl | fail) | fail, by first | simp [plainHf, plainB], by first | rfl | fail, ?_⟩
         conv => whnf
         repeat (first | (refine Exists.intro _ (And.intro rfl ?_); conv => whnf) | (refine And.intro (by first | omega | fail) ?_; conv => whnf) | fail)
         refine ⟨⟨j + 1, hc⟩, by simp only; omega, ?_⟩
         dsimp only
         refine Weak.sel [0, 1, 2, 3, 4, 5] rfl rfl ?_ ?_ rfl rfl
         ·
          (repeat' (first | exact trivial | refine And.intro ?_ ?_ | fail)) <;> first | rfl | fail
         ·
          (repeat' (first | exact trivial | refine And.intro ?_ ?_ | (refine wk_cons ?_ ?_))) <;> first | rfl | exact ren_eq (by first | (simp; done) | fail) (by first | rfl | fail) | fail
        ·
         obtain rfl : j = D.length / 64 := by omega
         have hge : decide (((D.length - 64 * (D.length / 64) : Nat) : Int) > 0) = false := by simp; omega
         obtain ⟨H, hH⟩ : ∃ H, H = blks_n k S D (D.length / 64) := ⟨_, rfl⟩
         rw [← hH] at hbl hfin ⊢
         conv => whnf
         first | refine brF (by exact hge) ?_ | fail
         conv => whnf
         repeat (first | (refine Exists.intro _ (And.intro rfl ?_); conv => whnf) | fail)
         refine SWp.weak (Weak.virt 12 5 1 rfl) ?_
         refine loop_rule ttOk mixed (by kernel_rfl) (ι := { i : Nat // i ≤ 8 }) (fun i => [(0, .p 0 0), (12, .sl 5 0 (4 * i.1) 1 false), (110, .sl 1 0 8 1 false), (111, .i 8), (112, .i (i.1 : Int))]) (fun i => [some (.ro (mach_n 1 2)), some (.row 23 (H.map .u32)), some (.ro (k.map .u32)), some (.ro [.sl 4 0 b0.length 1 f0]), some (.ro (b0.map .u8)), some (.row 5 ((outl_n H (4 * i.1)).map .u8))]) (fun _ => 5 + 1) (fun i => 8 - i.1) ⟨0, by omega⟩ ?_ ?_
         ·
          have hz := outl_z_n H
          dsimp only
          rw [hz]
          refine Weak.sel [0, 1, 2, 3, 4, 5 + 1] rfl rfl ?_ ?_ rfl rfl
          ·
           (repeat' (first | exact trivial | refine And.intro ?_ ?_ | fail)) <;> first | rfl | fail
          ·
           (repeat' (first | exact trivial | refine And.intro ?_ ?_ | (refine wk_cons ?_ ?_))) <;> first | rfl | exact ren_eq (by first | (simp; done) | fail) (by first | rfl | fail) | fail
         ·
          rintro ⟨i, hi⟩
          dsimp only
          by_cases hi8 : i < 8
          ·
           have hlt : decide ((i : Int) < 8) = true := by simp; omega
           have hp := wp1i i (by omega)
           conv => whnf
           first | refine brT (by exact hlt) ?_ | fail
           conv => whnf
           repeat (first | (refine Exists.intro _ (And.intro (sload_u32 (i := i) (by first | rfl | omega | fail) (by first | omega | fail)) ?_); conv => whnf) | (refine Exists.intro _ (And.intro (idx_i (m := i) (by first | rfl | fail)) ?_); conv => whnf) | (refine Exists.intro _ (And.intro rfl ?_); conv => whnf) | (refine And.intro (by first | omega | fail) ?_; conv => whnf) | fail)
           refine loop_rule ttOk mixed (by kernel_rfl) (ι := { m : Nat // m ≤ 4 }) (fun m => [(0, .p 0 0), (12, .sl 5 0 (4 * i + m.1) 1 false), (14, .u32 (H.getD i 0)), (15, .i (3 - (m.1 : Int))), (110, .sl 1 0 8 1 false), (111, .i 8), (112, .i (i : Int))]) (fun m => [some (.ro (mach_n 1 2)), some (.row 23 (H.map .u32)), some (.ro (k.map .u32)), some (.ro [.sl 4 0 b0.length 1 f0]), some (.ro (b0.map .u8)), some (.row 5 ((outl_n H (4 * i + m.1)).map .u8))]) (fun _ => 5 + 1) (fun m => 4 - m.1) ⟨0, by omega⟩ ?_ ?_
           ·
            refine Weak.sel [0, 1, 2, 3, 4, 5] rfl rfl ?_ ?_ rfl rfl
            ·
             (repeat' (first | exact trivial | refine And.intro ?_ ?_ | fail)) <;> first | rfl | fail
            ·
             (repeat' (first | exact trivial | refine And.intro ?_ ?_ | (refine wk_cons ?_ ?_))) <;> first | rfl | exact ren_eq (by first | (simp; done) | fail) (by first | rfl | fail) | fail
           ·
            rintro ⟨m, hm⟩
            dsimp only
            have hol := outl_len_n H (4 * i + m)
            by_cases hm4 : m < 4
            ·
             have hge : decide ((3 - (m : Int)) ≥ 0) = true := by simp; omega
             have h8 : w64 (8 * (3 - (m : Int))) = ((8 * (3 - m) : Nat) : Int) := by simp only [w64_eq]; omega
             have hp2 : w64 (3 - (m : Int) - 1) = 3 - ((m + 1 : Nat) : Int) := by simp only [w64_eq]; omega
             have hs := outl_s_n H i m hm4
             obtain ⟨Z, hZ⟩ : ∃ Z, Z = outl_n H (4 * i + m) := ⟨_, rfl⟩
             rw [← hZ] at hol hs ⊢
             have hap4 : (Z ++ [(shr32 (H.getD i 0) (8 * (3 - m))).toUInt8]).map SV.u8 = List.take ((4 * i + m) * 1) (List.drop 0 (Z.map SV.u8)) ++ List.take (1 * 1) (List.drop 0 [SV.u8 (shr32 (H.getD i 0) (8 * (3 - m))).toUInt8]) := (cat8 (o := 0) (n := 4 * i + m) (E := Z) (b := [(shr32 (H.getD i 0) (8 * (3 - m))).toUInt8]) (by omega) rfl).symm
             conv => whnf
             first | refine brT (by exact hge) ?_ | fail
             conv => whnf
             repeat (fail)
             refine ⟨_, mshr_32 h8, ?_⟩
             conv => whnf
             repeat (first | (refine Exists.intro _ (And.intro rfl ?_); conv => whnf) | (refine And.intro (by first | omega | (simp [ti5]; omega)) ?_; conv => whnf) | fail)
             refine ⟨⟨m + 1, by omega⟩, by simp only; omega, ?_⟩
             dsimp only
             rw [hs]
             refine Weak.sel [0, 1, 2, 3, 4, 5 + 2] rfl rfl ?_ ?_ rfl rfl
             ·
              (repeat' (first | exact trivial | refine And.intro ?_ ?_ | fail)) <;> first | exact wk_i (by first | exact hp2 | exact hp2.symm | fail) | rfl | fail
             ·
              (repeat' (first | exact trivial | exact ren_eq (plainL_u8 _) hap4 | refine And.intro ?_ ?_ | (refine wk_cons ?_ ?_))) <;> first | rfl | exact ren_eq (by first | (simp; done) | fail) (by first | rfl | fail) | fail
            ·
             obtain rfl : m = 4 := by omega
             conv => whnf
             first | refine brF (by rfl) ?_ | fail
             conv => whnf
             repeat (fail)
             refine ⟨⟨i + 1, by omega⟩, by simp only; omega, ?_⟩
             dsimp only
             rw [show 4 * (i + 1) = 4 * i + 4 by omega]
             refine Weak.sel [0, 1, 2, 3, 4, 5] rfl rfl ?_ ?_ rfl rfl
             ·
              (repeat' (first | exact trivial | refine And.intro ?_ ?_ | fail)) <;> first | exact wk_i (by first | exact hp | exact hp.symm | fail) | rfl | fail
             ·
              (repeat' (first | exact trivial | refine And.intro ?_ ?_ | (refine wk_cons ?_ ?_))) <;> first | rfl | exact ren_eq (by first | (simp; done) | fail) (by first | rfl | fail) | fail
          ·
           obtain rfl : i = 8 := by omega
           rw [outb_e_n] at hfin
           rw [← hfin]
           conv => whnf
           first | refine brF (by rfl) ?_ | fail
           conv => whnf
           refine ⟨[0, 1, 2, 3, 4, 5], ?_, rfl, rfl, ?_, rfl⟩
           ·
            (repeat' (fail)) <;> first | rfl | fail
           ·
            (repeat' (first | exact trivial | refine And.intro ?_ ?_ | (refine wk_cons ?_ ?_))) <;> first | rfl | exact ren_eq (by first | (simp; done) | fail) (by first | rfl | fail) | fail
end Go.Sh
/- sha: the narrow machine's sum (f102), walked, of texts in parts. -/
namespace Go.Sh
open Go.Proofs
set_option maxHeartbeats 4000000

attribute [local irreducible] comp_n
attribute [local irreducible] blks_n st_n rest_n hash_n pz_n outl_n outb_n lset_n last_n
theorem f102_bbb (h k : List UInt32) (hh : h.length = 8) (hk : k.length = 64) (b0 b1 b2 : List UInt8) (hb0 : b0.length < 100000000000000) (hb1 : b1.length < 100000000000000) (hb2 : b2.length < 100000000000000) (f0 f1 f2 fl : Bool) : SCall Try.prog 102 [.p 0 0, .sl 3 0 3 1 fl] [some (.ro (mach_n 1 2)), some (.row 23 (h.map .u32)), some (.ro (k.map .u32)), some (.ro [.sl 4 0 b0.length 1 f0, .sl 5 0 b1.length 1 f1, .sl 6 0 b2.length 1 f2]), some (.ro (b0.map .u8)), some (.ro (b1.map .u8)), some (.ro (b2.map .u8))] (.sl 7 0 32 1 false) [some (.ro (mach_n 1 2)), none, some (.ro (k.map .u32)), some (.ro [.sl 4 0 b0.length 1 f0, .sl 5 0 b1.length 1 f1, .sl 6 0 b2.length 1 f2]), some (.ro (b0.map .u8)), some (.ro (b1.map .u8)), some (.ro (b2.map .u8)), some (.row 5 ((hash_n k h (b0 ++ b1 ++ b2)).map .u8))] := by
 obtain ⟨tx, htx⟩ : ∃ tx : Nat → List UInt8, tx = fun i => ([b0, b1, b2].take i).flatten := ⟨_, rfl⟩
 have tx0 : tx 0 = [] := by rw [htx]; rfl
 have tx1 : tx 1 = tx 0 ++ b0 := by rw [htx]; simp
 have tx2 : tx 2 = tx 1 ++ b1 := by rw [htx]; simp
 have tx3 : tx 3 = tx 2 ++ b2 := by rw [htx]; simp
 have htp : tx 3 = b0 ++ b1 ++ b2 := by rw [htx]; simp
 have he : hash_n k h (b0 ++ b1 ++ b2) = hash_n k h (tx 3) := by rw [htp]
 rw [he]
 have hl0 : (tx 0).length = 0 := by rw [tx0]; rfl
 have hl1 : (tx 1).length = (tx 0).length + b0.length := by rw [tx1, List.length_append]
 have hl2 : (tx 2).length = (tx 1).length + b1.length := by rw [tx2, List.length_append]
 have hl3 : (tx 3).length = (tx 2).length + b2.length := by rw [tx3, List.length_append]
 clear htx
 refine scall_of ttOk (by kernel_rfl : Try.prog.funcs[102]? = some Try.f102) rfl rfl rfl ?_
 try simp only [List.length_cons, List.length_nil, Nat.zero_add, Nat.reduceAdd]
 refine sw_ok ttOk mixed (by kernel_rfl) ?_
 conv => whnf
 repeat (first | (refine Exists.intro _ (And.intro rfl ?_); conv => whnf) | fail)
 refine SWp.weak (Weak.virt 6 5 1 rfl) ?_
 refine loop_rule ttOk mixed (by kernel_rfl) (ι := { x : Nat × List UInt8 × Nat // x.1 ≤ 3 ∧ x.2.2 ≤ x.2.1.length ∧ x.2.1.drop x.2.2 = rest_n (tx x.1) }) (fun x => [(0, .p 0 0), (5, .i 64), (6, .sl 7 x.1.2.2 (x.1.2.1.length - x.1.2.2) 1 false), (7, .u64 (UInt64.ofNat (tx x.1.1).length)), (21, .sl 3 0 3 1 fl), (22, .i 3), (23, .i (x.1.1 : Int))]) (fun x => [some (.ro (mach_n 1 2)), some (.row 23 ((st_n k h (tx x.1.1)).map .u32)), some (.ro (k.map .u32)), some (.ro [.sl 4 0 b0.length 1 f0, .sl 5 0 b1.length 1 f1, .sl 6 0 b2.length 1 f2]), some (.ro (b0.map .u8)), some (.ro (b1.map .u8)), some (.ro (b2.map .u8)), some (.row 5 (x.1.2.1.map .u8))]) (fun _ => 8) (fun x => 3 - x.1.1) ⟨(0, [], 0), by omega, by simp, by rw [tx0]; exact rest_nil_n.symm⟩ ?_ ?_
 ·
  dsimp only
  rw [tx0, st_nil_n]
  refine Weak.sel [0, 1, 2, 3, 4, 5, 6, 7] rfl rfl ?_ ?_ rfl rfl
  ·
   (repeat' (first | exact trivial | refine And.intro ?_ ?_ | fail)) <;> first | rfl | fail
  ·
   (repeat' (first | exact trivial | refine And.intro ?_ ?_ | (refine wk_cons ?_ ?_))) <;> first | rfl | exact ren_eq (by first | (simp; done) | fail) (by first | rfl | fail) | fail
 ·
  rintro ⟨⟨i, E, o⟩, hi, ho, hE⟩
  dsimp only at hi ho hE ⊢
  have hsl := st_len_n k hh (tx i)
  have hrl := rest_len_n (tx i)
  obtain ⟨S, hS⟩ : ∃ S, S = st_n k h (tx i) := ⟨_, rfl⟩
  rw [← hS] at hsl ⊢
  have hEl : E.length - o = (rest_n (tx i)).length := by rw [← hE, List.length_drop]
  by_cases hi2 : i < 3
  ·
   have hic : i = 0 ∨ i = 1 ∨ i = 2 := by omega
   rcases hic with rfl | rfl | rfl
   ·
    have hq := feed_st_n k h (tx 0) b0
    have hq2 := feed_rest_n (tx 0) b0
    rw [← hS] at hq
    rw [← tx1] at hq hq2
    rw [← hE] at hq hq2 hEl
    have hap : (E.drop o ++ b0).map SV.u8 = List.take ((E.length - o) * 1) (List.drop o (E.map SV.u8)) ++ List.take (b0.length * 1) (List.drop 0 (b0.map SV.u8)) := (cat8 rfl rfl).symm
    have hDl : (E.drop o ++ b0).length = E.length - o + b0.length := by rw [List.length_append, List.length_drop]
    have hel : E.length - o < 64 := by rw [← List.length_drop, hE, hrl]; omega
    have hul : UInt64.ofNat (tx 0).length + u64i (b0.length : Int) = UInt64.ofNat (tx 1).length := by rw [u64_add_i _ _ (by omega), tx1, List.length_append]
    clear hS hrl
    conv => whnf
    first | refine brT (by rfl) ?_ | fail
    conv => whnf
    repeat (first | (refine Exists.intro _ (And.intro rfl ?_); conv => whnf) | (refine And.intro (by first | omega | (simp [ti5]; omega)) ?_; conv => whnf) | fail)
    obtain ⟨D, hD⟩ : ∃ D, D = E.drop o ++ b0 := ⟨_, rfl⟩
    rw [← hD] at hq hq2 hap hDl
    refine loop_rule ttOk mixed (by kernel_rfl) (ι := { j : Nat // 64 * j ≤ D.length }) (fun j => [(0, .p 0 0), (5, .i 64), (6, .sl 7 (64 * j.1) (D.length - 64 * j.1) 1 false), (7, .u64 (UInt64.ofNat (tx 1).length)), (21, .sl 3 0 3 1 fl), (22, .i 3), (23, .i 0)]) (fun j => [some (.ro (mach_n 1 2)), some (.row 23 ((blks_n k S D j.1).map .u32)), some (.ro (k.map .u32)), some (.ro [.sl 4 0 b0.length 1 f0, .sl 5 0 b1.length 1 f1, .sl 6 0 b2.length 1 f2]), some (.ro (b0.map .u8)), some (.ro (b1.map .u8)), some (.ro (b2.map .u8)), some (.row 5 (D.map .u8))]) (fun _ => 7 + 1) (fun j => D.length - 64 * j.1) ⟨0, by omega⟩ ?_ ?_
    ·
     have hz := blks_z_n k S D
     have hDn : E.length - o + b0.length = D.length - 64 * 0 := by omega
     dsimp only
     rw [hz]
     refine Weak.sel [0, 1, 2, 3, 4, 5, 6, 8] rfl rfl ?_ ?_ rfl rfl
     ·
      (repeat' (first | exact trivial | refine And.intro ?_ ?_ | fail)) <;> first | exact wk_u64 (by first | exact hul | exact hul.symm | fail) | rfl | exact wk_sl rfl (by first | rfl | fail) (by first | exact hDn.symm | fail) | fail
     ·
      (repeat' (first | exact trivial | exact ren_eq (plainL_u8 _) hap | refine And.intro ?_ ?_ | (refine wk_cons ?_ ?_))) <;> first | rfl | exact ren_eq (by first | (simp; done) | fail) (by first | rfl | fail) | fail
    ·
     rintro ⟨j, hj⟩
     dsimp only
     have hbl := blks_len_n k hsl D j
     by_cases hc : 64 * (j + 1) ≤ D.length
     ·
      have hge : decide (((D.length - 64 * j : Nat) : Int) ≥ 64) = true := by simp; omega
      have hs := blks_s_n k S D j
      have q139 := f139D (blks_n k S D j) k D (64 * j) hbl hk (by omega) false
      rw [← hs] at q139
      conv => whnf
      first | refine brT (by exact hge) ?_ | fail
      conv => whnf
      repeat (first | (refine Exists.intro _ (And.intro rfl ?_); conv => whnf) | (refine And.intro (by first | omega | fail) ?_; conv => whnf) | fail)
      refine ok1_callF [0, 1, 2, 7] [false, true, false, false] true (q139) rfl rfl ⟨⟨rfl, by first | rfl | fail⟩, by (repeat' (first | exact trivial | refine And.intro ?_ ?_)) <;> first | rfl | exact ren_eq (by first | (simp; done) | fail) (by first | rfl | fail) | fail, by first | simp [plainHf, plainB], by first | rfl | fail, ?_⟩
      conv => whnf
      repeat (first | (refine Exists.intro _ (And.intro rfl ?_); conv => whnf) | (refine And.intro (by first | omega | fail) ?_; conv => whnf) | fail)
      refine ⟨⟨j + 1, hc⟩, by simp only; omega, ?_⟩
      dsimp only
      refine Weak.sel [0, 1, 2, 3, 4, 5, 6, 7] rfl rfl ?_ ?_ rfl rfl
      ·
       (repeat' (first | exact trivial | refine And.intro ?_ ?_ | fail)) <;> first | rfl | fail
      ·
       (repeat' (first | exact trivial | refine And.intro ?_ ?_ | (refine wk_cons ?_ ?_))) <;> first | rfl | exact ren_eq (by first | (simp; done) | fail) (by first | rfl | fail) | fail
     ·
      obtain rfl : j = D.length / 64 := by omega
      have hge : decide (((D.length - 64 * (D.length / 64) : Nat) : Int) ≥ 64) = false := by simp; omega
      rw [hq]
      conv => whnf
      first | refine brF (by exact hge) ?_ | fail
      conv => whnf
      repeat (fail)
      refine ⟨⟨(1, D, 64 * (D.length / 64)), by omega, by simp only; omega, hq2⟩, by simp only; omega, ?_⟩
      dsimp only
      refine Weak.sel [0, 1, 2, 3, 4, 5, 6, 7] rfl rfl ?_ ?_ rfl rfl
      ·
       (repeat' (first | exact trivial | refine And.intro ?_ ?_ | fail)) <;> first | rfl | fail
      ·
       (repeat' (first | exact trivial | refine And.intro ?_ ?_ | (refine wk_cons ?_ ?_))) <;> first | rfl | exact ren_eq (by first | (simp; done) | fail) (by first | rfl | fail) | fail
   ·
    have hq := feed_st_n k h (tx 1) b1
    have hq2 := feed_rest_n (tx 1) b1
    rw [← hS] at hq
    rw [← tx2] at hq hq2
    rw [← hE] at hq hq2 hEl
    have hap : (E.drop o ++ b1).map SV.u8 = List.take ((E.length - o) * 1) (List.drop o (E.map SV.u8)) ++ List.take (b1.length * 1) (List.drop 0 (b1.map SV.u8)) := (cat8 rfl rfl).symm
    have hDl : (E.drop o ++ b1).length = E.length - o + b1.length := by rw [List.length_append, List.length_drop]
    have hel : E.length - o < 64 := by rw [← List.length_drop, hE, hrl]; omega
    have hul : UInt64.ofNat (tx 1).length + u64i (b1.length : Int) = UInt64.ofNat (tx 2).length := by rw [u64_add_i _ _ (by omega), tx2, List.length_append]
    clear hS hrl
    conv => whnf
    first | refine brT (by rfl) ?_ | fail
    conv => whnf
    repeat (first | (refine Exists.intro _ (And.intro rfl ?_); conv => whnf) | (refine And.intro (by first | omega | (simp [ti5]; omega)) ?_; conv => whnf) | fail)
    obtain ⟨D, hD⟩ : ∃ D, D = E.drop o ++ b1 := ⟨_, rfl⟩
    rw [← hD] at hq hq2 hap hDl
    refine loop_rule ttOk mixed (by kernel_rfl) (ι := { j : Nat // 64 * j ≤ D.length }) (fun j => [(0, .p 0 0), (5, .i 64), (6, .sl 7 (64 * j.1) (D.length - 64 * j.1) 1 false), (7, .u64 (UInt64.ofNat (tx 2).length)), (21, .sl 3 0 3 1 fl), (22, .i 3), (23, .i 1)]) (fun j => [some (.ro (mach_n 1 2)), some (.row 23 ((blks_n k S D j.1).map .u32)), some (.ro (k.map .u32)), some (.ro [.sl 4 0 b0.length 1 f0, .sl 5 0 b1.length 1 f1, .sl 6 0 b2.length 1 f2]), some (.ro (b0.map .u8)), some (.ro (b1.map .u8)), some (.ro (b2.map .u8)), some (.row 5 (D.map .u8))]) (fun _ => 7 + 1) (fun j => D.length - 64 * j.1) ⟨0, by omega⟩ ?_ ?_
    ·
     have hz := blks_z_n k S D
     have hDn : E.length - o + b1.length = D.length - 64 * 0 := by omega
     dsimp only
     rw [hz]
     refine Weak.sel [0, 1, 2, 3, 4, 5, 6, 8] rfl rfl ?_ ?_ rfl rfl
     ·
      (repeat' (first | exact trivial | refine And.intro ?_ ?_ | fail)) <;> first | exact wk_u64 (by first | exact hul | exact hul.symm | fail) | rfl | exact wk_sl rfl (by first | rfl | fail) (by first | exact hDn.symm | fail) | fail
     ·
      (repeat' (first | exact trivial | exact ren_eq (plainL_u8 _) hap | refine And.intro ?_ ?_ | (refine wk_cons ?_ ?_))) <;> first | rfl | exact ren_eq (by first | (simp; done) | fail) (by first | rfl | fail) | fail
    ·
     rintro ⟨j, hj⟩
     dsimp only
     have hbl := blks_len_n k hsl D j
     by_cases hc : 64 * (j + 1) ≤ D.length
     ·
      have hge : decide (((D.length - 64 * j : Nat) : Int) ≥ 64) = true := by simp; omega
      have hs := blks_s_n k S D j
      have q139 := f139D (blks_n k S D j) k D (64 * j) hbl hk (by omega) false
      rw [← hs] at q139
      conv => whnf
      first | refine brT (by exact hge) ?_ | fail
      conv => whnf
      repeat (first | (refine Exists.intro _ (And.intro rfl ?_); conv => whnf) | (refine And.intro (by first | omega | fail) ?_; conv => whnf) | fail)
      refine ok1_callF [0, 1, 2, 7] [false, true, false, false] true (q139) rfl rfl ⟨⟨rfl, by first | rfl | fail⟩, by (repeat' (first | exact trivial | refine And.intro ?_ ?_)) <;> first | rfl | exact ren_eq (by first | (simp; done) | fail) (by first | rfl | fail) | fail, by first | simp [plainHf, plainB], by first | rfl | fail, ?_⟩
      conv => whnf
      repeat (first | (refine Exists.intro _ (And.intro rfl ?_); conv => whnf) | (refine And.intro (by first | omega | fail) ?_; conv => whnf) | fail)
      refine ⟨⟨j + 1, hc⟩, by simp only; omega, ?_⟩
      dsimp only
      refine Weak.sel [0, 1, 2, 3, 4, 5, 6, 7] rfl rfl ?_ ?_ rfl rfl
      ·
       (repeat' (first | exact trivial | refine And.intro ?_ ?_ | fail)) <;> first | rfl | fail
      ·
       (repeat' (first | exact trivial | refine And.intro ?_ ?_ | (refine wk_cons ?_ ?_))) <;> first | rfl | exact ren_eq (by first | (simp; done) | fail) (by first | rfl | fail) | fail
     ·
      obtain rfl : j = D.length / 64 := by omega
      have hge : decide (((D.length - 64 * (D.length / 64) : Nat) : Int) ≥ 64) = false := by simp; omega
      rw [hq]
      conv => whnf
      first | refine brF (by exact hge) ?_ | fail
      conv => whnf
      repeat (fail)
      refine ⟨⟨(2, D, 64 * (D.length / 64)), by omega, by simp only; omega, hq2⟩, by simp only; omega, ?_⟩
      dsimp only
      refine Weak.sel [0, 1, 2, 3, 4, 5, 6, 7] rfl rfl ?_ ?_ rfl rfl
      ·
       (repeat' (first | exact trivial | refine And.intro ?_ ?_ | fail)) <;> first | rfl | fail
      ·
       (repeat' (first | exact trivial | refine And.intro ?_ ?_ | (refine wk_cons ?_ ?_))) <;> first | rfl | exact ren_eq (by first | (simp; done) | fail) (by first | rfl | fail) | fail
   ·
    have hq := feed_st_n k h (tx 2) b2
    have hq2 := feed_rest_n (tx 2) b2
    rw [← hS] at hq
    rw [← tx3] at hq hq2
    rw [← hE] at hq hq2 hEl
    have hap : (E.drop o ++ b2).map SV.u8 = List.take ((E.length - o) * 1) (List.drop o (E.map SV.u8)) ++ List.take (b2.length * 1) (List.drop 0 (b2.map SV.u8)) := (cat8 rfl rfl).symm
    have hDl : (E.drop o ++ b2).length = E.length - o + b2.length := by rw [List.length_append, List.length_drop]
    have hel : E.length - o < 64 := by rw [← List.length_drop, hE, hrl]; omega
    have hul : UInt64.ofNat (tx 2).length + u64i (b2.length : Int) = UInt64.ofNat (tx 3).length := by rw [u64_add_i _ _ (by omega), tx3, List.length_append]
    clear hS hrl
    conv => whnf
    first | refine brT (by rfl) ?_ | fail
    conv => whnf
    repeat (first | (refine Exists.intro _ (And.intro rfl ?_); conv => whnf) | (refine And.intro (by first | omega | (simp [ti5]; omega)) ?_; conv => whnf) | fail)
    obtain ⟨D, hD⟩ : ∃ D, D = E.drop o ++ b2 := ⟨_, rfl⟩
    rw [← hD] at hq hq2 hap hDl
    refine loop_rule ttOk mixed (by kernel_rfl) (ι := { j : Nat // 64 * j ≤ D.length }) (fun j => [(0, .p 0 0), (5, .i 64), (6, .sl 7 (64 * j.1) (D.length - 64 * j.1) 1 false), (7, .u64 (UInt64.ofNat (tx 3).length)), (21, .sl 3 0 3 1 fl), (22, .i 3), (23, .i 2)]) (fun j => [some (.ro (mach_n 1 2)), some (.row 23 ((blks_n k S D j.1).map .u32)), some (.ro (k.map .u32)), some (.ro [.sl 4 0 b0.length 1 f0, .sl 5 0 b1.length 1 f1, .sl 6 0 b2.length 1 f2]), some (.ro (b0.map .u8)), some (.ro (b1.map .u8)), some (.ro (b2.map .u8)), some (.row 5 (D.map .u8))]) (fun _ => 7 + 1) (fun j => D.length - 64 * j.1) ⟨0, by omega⟩ ?_ ?_
    ·
     have hz := blks_z_n k S D
     have hDn : E.length - o + b2.length = D.length - 64 * 0 := by omega
     dsimp only
     rw [hz]
     refine Weak.sel [0, 1, 2, 3, 4, 5, 6, 8] rfl rfl ?_ ?_ rfl rfl
     ·
      (repeat' (first | exact trivial | refine And.intro ?_ ?_ | fail)) <;> first | exact wk_u64 (by first | exact hul | exact hul.symm | fail) | rfl | exact wk_sl rfl (by first | rfl | fail) (by first | exact hDn.symm | fail) | fail
     ·
      (repeat' (first | exact trivial | exact ren_eq (plainL_u8 _) hap | refine And.intro ?_ ?_ | (refine wk_cons ?_ ?_))) <;> first | rfl | exact ren_eq (by first | (simp; done) | fail) (by first | rfl | fail) | fail
    ·
     rintro ⟨j, hj⟩
     dsimp only
     have hbl := blks_len_n k hsl D j
     by_cases hc : 64 * (j + 1) ≤ D.length
     ·
      have hge : decide (((D.length - 64 * j : Nat) : Int) ≥ 64) = true := by simp; omega
      have hs := blks_s_n k S D j
      have q139 := f139D (blks_n k S D j) k D (64 * j) hbl hk (by omega) false
      rw [← hs] at q139
      conv => whnf
      first | refine brT (by exact hge) ?_ | fail
      conv => whnf
      repeat (first | (refine Exists.intro _ (And.intro rfl ?_); conv => whnf) | (refine And.intro (by first | omega | fail) ?_; conv => whnf) | fail)
      refine ok1_callF [0, 1, 2, 7] [false, true, false, false] true (q139) rfl rfl ⟨⟨rfl, by first | rfl | fail⟩, by (repeat' (first | exact trivial | refine And.intro ?_ ?_)) <;> first | rfl | exact ren_eq (by first | (simp; done) | fail) (by first | rfl | fail) | fail, by first | simp [plainHf, plainB], by first | rfl | fail, ?_⟩
      conv => whnf
      repeat (first | (refine Exists.intro _ (And.intro rfl ?_); conv => whnf) | (refine And.intro (by first | omega | fail) ?_; conv => whnf) | fail)
      refine ⟨⟨j + 1, hc⟩, by simp only; omega, ?_⟩
      dsimp only
      refine Weak.sel [0, 1, 2, 3, 4, 5, 6, 7] rfl rfl ?_ ?_ rfl rfl
      ·
       (repeat' (first | exact trivial | refine And.intro ?_ ?_ | fail)) <;> first | rfl | fail
      ·
       (repeat' (first | exact trivial | refine And.intro ?_ ?_ | (refine wk_cons ?_ ?_))) <;> first | rfl | exact ren_eq (by first | (simp; done) | fail) (by first | rfl | fail) | fail
     ·
      obtain rfl : j = D.length / 64 := by omega
      have hge : decide (((D.length - 64 * (D.length / 64) : Nat) : Int) ≥ 64) = false := by simp; omega
      rw [hq]
      conv => whnf
      first | refine brF (by exact hge) ?_ | fail
      conv => whnf
      repeat (fail)
      refine ⟨⟨(3, D, 64 * (D.length / 64)), by omega, by simp only; omega, hq2⟩, by simp only; omega, ?_⟩
      dsimp only
      refine Weak.sel [0, 1, 2, 3, 4, 5, 6, 7] rfl rfl ?_ ?_ rfl rfl
      ·
       (repeat' (first | exact trivial | refine And.intro ?_ ?_ | fail)) <;> first | rfl | fail
      ·
       (repeat' (first | exact trivial | refine And.intro ?_ ?_ | (refine wk_cons ?_ ?_))) <;> first | rfl | exact ren_eq (by first | (simp; done) | fail) (by first | rfl | fail) | fail
  ·
   obtain rfl : i = 3 := by omega
   obtain ⟨n, hn⟩ : ∃ n, n = E.length - o := ⟨_, rfl⟩
   have hnE : o + n = E.length := by omega
   rw [← hn]
   have hcat : (rest_n (tx 3) ++ [128]).map SV.u8 = List.take (n * 1) (List.drop o (E.map SV.u8)) ++ List.take (1 * 1) (List.drop 0 [SV.u8 128]) := by rw [← hE]; exact (cat8 (b := [128]) hn rfl).symm
   have hdd : decide (((n : Nat) : Int).toNat = ((n : Nat) : Int).toNat) = true := by simp
   conv => whnf
   first | refine brF (by rfl) ?_ | fail
   conv => whnf
   repeat (first | (refine Exists.intro _ (And.intro rfl ?_); conv => whnf) | (refine And.intro (by first | omega | fail) ?_; conv => whnf) | fail)
   rw [hdd]
   rw [Int.toNat_natCast]
   have hnl : n = (rest_n (tx 3)).length := by rw [hn, ← hE, List.length_drop]
   have hn64 : n < 64 := by rw [hnl, hrl]; omega
   have hpz := pz_rest_n (tx 3)
   rw [← hnl] at hpz
   have hpl : pz_n n < 64 := by unfold pz_n; exact Nat.mod_lt _ (by decide)
   conv => whnf
   refine And.intro ⟨by show _ ≤ (E.map SV.u8).length; rw [List.length_map]; omega, by decide, by show _ * 1 ≤ _; omega, by decide⟩ ?_
   conv => whnf
   repeat (fail)
   refine loop_rule ttOk mixed (by kernel_rfl) (ι := { j : Nat // j ≤ pz_n n }) (fun j => [(0, .p 0 0), (5, .i 64), (6, .sl 7 0 (n + 1 + j.1) 1 false), (7, .u64 (UInt64.ofNat (tx 3).length))]) (fun j => [some (.ro (mach_n 1 2)), some (.row 23 (S.map .u32)), some (.ro (k.map .u32)), some (.ro [.sl 4 0 b0.length 1 f0, .sl 5 0 b1.length 1 f1, .sl 6 0 b2.length 1 f2]), some (.ro (b0.map .u8)), some (.ro (b1.map .u8)), some (.ro (b2.map .u8)), some (.row 5 ((rest_n (tx 3) ++ [128] ++ List.replicate j.1 0).map .u8))]) (fun _ => 7 + 1) (fun j => pz_n n - j.1) ⟨0, by omega⟩ ?_ ?_
   ·
    have hz : rest_n (tx 3) ++ [128] ++ List.replicate 0 0 = rest_n (tx 3) ++ [128] := List.append_nil _
    dsimp only
    rw [hz]
    refine Weak.sel [0, 1, 2, 3, 4, 5, 6, 7 + 2] rfl rfl ?_ ?_ rfl rfl
    ·
     (repeat' (first | exact trivial | refine And.intro ?_ ?_ | fail)) <;> first | rfl | fail
    ·
     (repeat' (first | exact trivial | exact ren_eq (plainL_u8 _) hcat | refine And.intro ?_ ?_ | (refine wk_cons ?_ ?_))) <;> first | rfl | exact ren_eq (by first | (simp; done) | fail) (by first | rfl | fail) | fail
   ·
    rintro ⟨j, hj⟩
    dsimp only
    obtain ⟨Y, hY⟩ : ∃ Y, Y = rest_n (tx 3) ++ [128] ++ List.replicate j 0 := ⟨_, rfl⟩
    have hYl : Y.length = n + 1 + j := by rw [hY, List.length_append, List.length_append, ← hnl, List.length_replicate]; rfl
    have hYs : rest_n (tx 3) ++ [128] ++ List.replicate (j + 1) 0 = Y ++ [0] := by rw [hY, List.replicate_succ', List.append_assoc]; simp
    by_cases hj2 : j < pz_n n
    ·
     have hno := padz_no_n hj2
     have hcd : (((w64 (((n + 1 + j : Nat) : Int) + w64 (2 * 4))).tmod 64) != 0) = true := by
      have e : w64 (((n + 1 + j : Nat) : Int) + w64 (2 * 4)) = ((n + 1 + j + 8 : Nat) : Int) := by simp only [w64_eq]; omega
      rw [e, show (((n + 1 + j + 8 : Nat) : Int)).tmod 64 = (((n + 1 + j + 8) % 64 : Nat) : Int) from rfl]
      simp; omega
     rw [← hY]
     conv => whnf
     repeat (first | (refine Exists.intro _ (And.intro rfl ?_); conv => whnf) | fail)
     first | refine brT (by exact hcd) ?_ | fail
     conv => whnf
     repeat (first | (refine Exists.intro _ (And.intro rfl ?_); conv => whnf) | (refine And.intro (by first | omega | (simp [ti5]; omega)) ?_; conv => whnf) | fail)
     have hap2 : (Y ++ [0]).map SV.u8 = List.take ((n + 1 + j) * 1) (List.drop 0 (Y.map SV.u8)) ++ List.take (1 * 1) (List.drop 0 [SV.u8 0]) := (cat8 (o := 0) (n := n + 1 + j) (E := Y) (b := [0]) (by omega) rfl).symm
     refine ⟨⟨j + 1, by omega⟩, by simp only; omega, ?_⟩
     dsimp only
     rw [hYs]
     refine Weak.sel [0, 1, 2, 3, 4, 5, 6, 7 + 2] rfl rfl ?_ ?_ rfl rfl
     ·
      (repeat' (first | exact trivial | refine And.intro ?_ ?_ | fail)) <;> first | rfl | fail
     ·
      (repeat' (first | exact trivial | exact ren_eq (plainL_u8 _) hap2 | refine And.intro ?_ ?_ | (refine wk_cons ?_ ?_))) <;> first | rfl | exact ren_eq (by first | (simp; done) | fail) (by first | rfl | fail) | fail
    ·
     obtain rfl : j = pz_n n := by omega
     have hyes := padz_yes_n n
     have hcd : (((w64 (((n + 1 + pz_n n : Nat) : Int) + w64 (2 * 4))).tmod 64) != 0) = false := by
      have e : w64 (((n + 1 + pz_n n : Nat) : Int) + w64 (2 * 4)) = ((n + 1 + pz_n n + 8 : Nat) : Int) := by simp only [w64_eq]; omega
      rw [e, show (((n + 1 + pz_n n + 8 : Nat) : Int)).tmod 64 = (((n + 1 + pz_n n + 8) % 64 : Nat) : Int) from rfl, hyes]
      rfl
     rw [← hY]
     conv => whnf
     repeat (first | (refine Exists.intro _ (And.intro rfl ?_); conv => whnf) | fail)
     first | refine brF (by exact hcd) ?_ | fail
     conv => whnf
     repeat (first | (refine Exists.intro _ (And.intro rfl ?_); conv => whnf) | (refine And.intro ⟨by first | decide | fail, by first | decide | fail⟩ ?_; conv => whnf) | fail)
     obtain ⟨N, hN⟩ : ∃ N, N = (tx 3).length := ⟨_, rfl⟩
     rw [← hN]
     refine loop_rule ttOk mixed (by kernel_rfl) (ι := { i : Nat // i ≤ 8 }) (fun i => [(0, .p 0 0), (5, .i 64), (6, .sl 7 0 (n + 1 + pz_n n) 1 false), (7, .u64 (UInt64.ofNat N)), (10, .sl (7 + 1) 0 8 1 true), (76, .i (i.1 : Int))]) (fun i => [some (.ro (mach_n 1 2)), some (.row 23 (S.map .u32)), some (.ro (k.map .u32)), some (.ro [.sl 4 0 b0.length 1 f0, .sl 5 0 b1.length 1 f1, .sl 6 0 b2.length 1 f2]), some (.ro (b0.map .u8)), some (.ro (b1.map .u8)), some (.ro (b2.map .u8)), some (.row 5 (Y.map .u8)), some (.row 5 ((lset_n N i.1).map .u8))]) (fun _ => 7 + 2) (fun i => 8 - i.1) ⟨0, by omega⟩ ?_ ?_
     ·
      have hz := lset_z_n N
      dsimp only
      rw [hz]
      refine Weak.sel [0, 1, 2, 3, 4, 5, 6, 7, 7 + 1] rfl rfl ?_ ?_ rfl rfl
      ·
       (repeat' (first | exact trivial | refine And.intro ?_ ?_ | fail)) <;> first | rfl | fail
      ·
       (repeat' (first | exact trivial | exact ren_z8 | refine And.intro ?_ ?_ | (refine wk_cons ?_ ?_))) <;> first | rfl | exact ren_eq (by first | (simp; done) | fail) (by first | rfl | fail) | fail
     ·
      rintro ⟨i, hi⟩
      dsimp only
      have hll := lset_len_n N i
      by_cases hi8 : i < 8
      ·
       have hlt : decide ((i : Int) < 8) = true := by simp; omega
       have hp := wp1i i (by omega)
       have h8 : w64 (8 * (i : Int)) = ((8 * i : Nat) : Int) := by simp only [w64_eq]; omega
       have h7 : w64 (w64 (8 - 1) - (i : Int)) = ((7 - i : Nat) : Int) := by simp only [w64_eq]; omega
       have hs := lset_s_n N i
       conv => whnf
       first | refine brT (by exact hlt) ?_ | fail
       conv => whnf
       repeat (fail)
       refine ⟨_, mshr_64 h8, ?_⟩
       conv => whnf
       repeat (first | (refine Exists.intro _ (And.intro (sput_m8 (i := 7 - i) (by first | rfl | omega | fail)) ?_); conv => whnf) | (refine Exists.intro _ (And.intro (idx_i (m := 7 - i) (by first | rfl | omega | fail)) ?_); conv => whnf) | (refine And.intro (by first | omega | (simp; omega) | fail) ?_; conv => whnf) | fail)
       refine ⟨⟨i + 1, by omega⟩, by simp only; omega, ?_⟩
       dsimp only
       rw [hs]
       refine Weak.sel [0, 1, 2, 3, 4, 5, 6, 7, 7 + 1] rfl rfl ?_ ?_ rfl rfl
       ·
        (repeat' (first | exact trivial | refine And.intro ?_ ?_ | fail)) <;> first | exact wk_i (by first | exact hp | exact hp.symm | fail) | rfl | fail
       ·
        (repeat' (first | exact trivial | refine And.intro ?_ ?_ | (refine wk_cons ?_ ?_))) <;> first | rfl | exact ren_eq (by first | (simp; done) | fail) (by first | rfl | fail) | exact ren_m8 (by first | rfl | fail) | fail
      ·
       obtain rfl : i = 8 := by omega
       have hap3 : (Y ++ lset_n N 8).map SV.u8 = List.take ((n + 1 + pz_n n) * 1) (List.drop 0 (Y.map SV.u8)) ++ List.take (8 * 1) (List.drop 0 ((lset_n N 8).map SV.u8)) := (cat8 (o := 0) (n := n + 1 + pz_n n) (E := Y) (b := lset_n N 8) (by omega) hll.symm).symm
       obtain ⟨D, hD⟩ : ∃ D, D = Y ++ lset_n N 8 := ⟨_, rfl⟩
       have hDl : D.length = n + 1 + pz_n n + 8 := by rw [hD, List.length_append, hYl, hll]
       have hDe : D = last_n (tx 3) := by rw [hD, hY, hpz, hN]; exact last_e_n _
       have hD64 := last_len_n (tx 3)
       have hfin := last_st_n k h (tx 3)
       rw [← hDe] at hD64 hfin
       rw [← hS] at hfin
       rw [← hD] at hap3
       conv => whnf
       first | refine brF (by rfl) ?_ | fail
       conv => whnf
       repeat (first | (refine And.intro (by first | omega | (simp [ti5]; omega)) ?_; conv => whnf) | fail)
       refine loop_rule ttOk mixed (by kernel_rfl) (ι := { j : Nat // 64 * j ≤ D.length }) (fun j => [(0, .p 0 0), (5, .i 64), (6, .sl 7 (64 * j.1) (D.length - 64 * j.1) 1 false)]) (fun j => [some (.ro (mach_n 1 2)), some (.row 23 ((blks_n k S D j.1).map .u32)), some (.ro (k.map .u32)), some (.ro [.sl 4 0 b0.length 1 f0, .sl 5 0 b1.length 1 f1, .sl 6 0 b2.length 1 f2]), some (.ro (b0.map .u8)), some (.ro (b1.map .u8)), some (.ro (b2.map .u8)), some (.row 5 (D.map .u8))]) (fun _ => 7 + 1) (fun j => D.length - 64 * j.1) ⟨0, by omega⟩ ?_ ?_
       ·
        have hz := blks_z_n k S D
        have hDn : n + 1 + pz_n n + 8 = D.length - 64 * 0 := by omega
        dsimp only
        rw [hz]
        refine Weak.sel [0, 1, 2, 3, 4, 5, 6, 7 + 2] rfl rfl ?_ ?_ rfl rfl
        ·
         (repeat' (first | exact trivial | refine And.intro ?_ ?_ | fail)) <;> first | rfl | exact wk_sl rfl (by first | rfl | fail) (by first | exact hDn.symm | fail) | fail
        ·
         (repeat' (first | exact trivial | exact ren_eq (plainL_u8 _) hap3 | refine And.intro ?_ ?_ | (refine wk_cons ?_ ?_))) <;> first | rfl | exact ren_eq (by first | (simp; done) | fail) (by first | rfl | fail) | fail
       ·
        rintro ⟨j, hj⟩
        dsimp only
        have hbl := blks_len_n k hsl D j
        by_cases hc : 64 * (j + 1) ≤ D.length
        ·
         have hge : decide (((D.length - 64 * j : Nat) : Int) > 0) = true := by simp; omega
         have hs := blks_s_n k S D j
         have q139 := f139D (blks_n k S D j) k D (64 * j) hbl hk (by omega) false
         rw [← hs] at q139
         conv => whnf
         first | refine brT (by exact hge) ?_ | fail
         conv => whnf
         repeat (first | (refine Exists.intro _ (And.intro rfl ?_); conv => whnf) | (refine And.intro (by first | omega | fail) ?_; conv => whnf) | fail)
         refine ok1_callF [0, 1, 2, 7] [false, true, false, false] true (q139) rfl rfl ⟨⟨rfl, by first | rfl | fail⟩, by (repeat' (first | exact trivial | refine And.intro ?_ ?_)) <;> first | rfl | exact ren_eq (by first | (simp; done) | fail) (by first | rfl | fail) | fail, by first | simp [plainHf, plainB], by first | rfl | fail, ?_⟩
         conv => whnf
         repeat (first | (refine Exists.intro _ (And.intro rfl ?_); conv => whnf) | (refine And.intro (by first | omega | fail) ?_; conv => whnf) | fail)
         refine ⟨⟨j + 1, hc⟩, by simp only; omega, ?_⟩
         dsimp only
         refine Weak.sel [0, 1, 2, 3, 4, 5, 6, 7] rfl rfl ?_ ?_ rfl rfl
         ·
          (repeat' (first | exact trivial | refine And.intro ?_ ?_ | fail)) <;> first | rfl | fail
         ·
          (repeat' (first | exact trivial | refine And.intro ?_ ?_ | (refine wk_cons ?_ ?_))) <;> first | rfl | exact ren_eq (by first | (simp; done) | fail) (by first | rfl | fail) | fail
        ·
         obtain rfl : j = D.length / 64 := by omega
         have hge : decide (((D.length - 64 * (D.length / 64) : Nat) : Int) > 0) = false := by simp; omega
         obtain ⟨H, hH⟩ : ∃ H, H = blks_n k S D (D.length / 64) := ⟨_, rfl⟩
         rw [← hH] at hbl hfin ⊢
         conv => whnf
         first | refine brF (by exact hge) ?_ | fail
         conv => whnf
         repeat (first | (refine Exists.intro _ (And.intro rfl ?_); conv => whnf) | fail)
         refine SWp.weak (Weak.virt 12 5 1 rfl) ?_
         refine loop_rule ttOk mixed (by kernel_rfl) (ι := { i : Nat // i ≤ 8 }) (fun i => [(0, .p 0 0), (12, .sl 7 0 (4 * i.1) 1 false), (110, .sl 1 0 8 1 false), (111, .i 8), (112, .i (i.1 : Int))]) (fun i => [some (.ro (mach_n 1 2)), some (.row 23 (H.map .u32)), some (.ro (k.map .u32)), some (.ro [.sl 4 0 b0.length 1 f0, .sl 5 0 b1.length 1 f1, .sl 6 0 b2.length 1 f2]), some (.ro (b0.map .u8)), some (.ro (b1.map .u8)), some (.ro (b2.map .u8)), some (.row 5 ((outl_n H (4 * i.1)).map .u8))]) (fun _ => 7 + 1) (fun i => 8 - i.1) ⟨0, by omega⟩ ?_ ?_
         ·
          have hz := outl_z_n H
          dsimp only
          rw [hz]
          refine Weak.sel [0, 1, 2, 3, 4, 5, 6, 7 + 1] rfl rfl ?_ ?_ rfl rfl
          ·
           (repeat' (first | exact trivial | refine And.intro ?_ ?_ | fail)) <;> first | rfl | fail
          ·
           (repeat' (first | exact trivial | refine And.intro ?_ ?_ | (refine wk_cons ?_ ?_))) <;> first | rfl | exact ren_eq (by first | (simp; done) | fail) (by first | rfl | fail) | fail
         ·
          rintro ⟨i, hi⟩
          dsimp only
          by_cases hi8 : i < 8
          ·
           have hlt : decide ((i : Int) < 8) = true := by simp; omega
           have hp := wp1i i (by omega)
           conv => whnf
           first | refine brT (by exact hlt) ?_ | fail
           conv => whnf
           repeat (first | (refine Exists.intro _ (And.intro (sload_u32 (i := i) (by first | rfl | omega | fail) (by first | omega | fail)) ?_); conv => whnf) | (refine Exists.intro _ (And.intro (idx_i (m := i) (by first | rfl | fail)) ?_); conv => whnf) | (refine Exists.intro _ (And.intro rfl ?_); conv => whnf) | (refine And.intro (by first | omega | fail) ?_; conv => whnf) | fail)
           refine loop_rule ttOk mixed (by kernel_rfl) (ι := { m : Nat // m ≤ 4 }) (fun m => [(0, .p 0 0), (12, .sl 7 0 (4 * i + m.1) 1 false), (14, .u32 (H.getD i 0)), (15, .i (3 - (m.1 : Int))), (110, .sl 1 0 8 1 false), (111, .i 8), (112, .i (i : Int))]) (fun m => [some (.ro (mach_n 1 2)), some (.row 23 (H.map .u32)), some (.ro (k.map .u32)), some (.ro [.sl 4 0 b0.length 1 f0, .sl 5 0 b1.length 1 f1, .sl 6 0 b2.length 1 f2]), some (.ro (b0.map .u8)), some (.ro (b1.map .u8)), some (.ro (b2.map .u8)), some (.row 5 ((outl_n H (4 * i + m.1)).map .u8))]) (fun _ => 7 + 1) (fun m => 4 - m.1) ⟨0, by omega⟩ ?_ ?_
           ·
            refine Weak.sel [0, 1, 2, 3, 4, 5, 6, 7] rfl rfl ?_ ?_ rfl rfl
            ·
             (repeat' (first | exact trivial | refine And.intro ?_ ?_ | fail)) <;> first | rfl | fail
            ·
             (repeat' (first | exact trivial | refine And.intro ?_ ?_ | (refine wk_cons ?_ ?_))) <;> first | rfl | exact ren_eq (by first | (simp; done) | fail) (by first | rfl | fail) | fail
           ·
            rintro ⟨m, hm⟩
            dsimp only
            have hol := outl_len_n H (4 * i + m)
            by_cases hm4 : m < 4
            ·
             have hge : decide ((3 - (m : Int)) ≥ 0) = true := by simp; omega
             have h8 : w64 (8 * (3 - (m : Int))) = ((8 * (3 - m) : Nat) : Int) := by simp only [w64_eq]; omega
             have hp2 : w64 (3 - (m : Int) - 1) = 3 - ((m + 1 : Nat) : Int) := by simp only [w64_eq]; omega
             have hs := outl_s_n H i m hm4
             obtain ⟨Z, hZ⟩ : ∃ Z, Z = outl_n H (4 * i + m) := ⟨_, rfl⟩
             rw [← hZ] at hol hs ⊢
             have hap4 : (Z ++ [(shr32 (H.getD i 0) (8 * (3 - m))).toUInt8]).map SV.u8 = List.take ((4 * i + m) * 1) (List.drop 0 (Z.map SV.u8)) ++ List.take (1 * 1) (List.drop 0 [SV.u8 (shr32 (H.getD i 0) (8 * (3 - m))).toUInt8]) := (cat8 (o := 0) (n := 4 * i + m) (E := Z) (b := [(shr32 (H.getD i 0) (8 * (3 - m))).toUInt8]) (by omega) rfl).symm
             conv => whnf
             first | refine brT (by exact hge) ?_ | fail
             conv => whnf
             repeat (fail)
             refine ⟨_, mshr_32 h8, ?_⟩
             conv => whnf
             repeat (first | (refine Exists.intro _ (And.intro rfl ?_); conv => whnf) | (refine And.intro (by first | omega | (simp [ti5]; omega)) ?_; conv => whnf) | fail)
             refine ⟨⟨m + 1, by omega⟩, by simp only; omega, ?_⟩
             dsimp only
             rw [hs]
             refine Weak.sel [0, 1, 2, 3, 4, 5, 6, 7 + 2] rfl rfl ?_ ?_ rfl rfl
             ·
              (repeat' (first | exact trivial | refine And.intro ?_ ?_ | fail)) <;> first | exact wk_i (by first | exact hp2 | exact hp2.symm | fail) | rfl | fail
             ·
              (repeat' (first | exact trivial | exact ren_eq (plainL_u8 _) hap4 | refine And.intro ?_ ?_ | (refine wk_cons ?_ ?_))) <;> first | rfl | exact ren_eq (by first | (simp; done) | fail) (by first | rfl | fail) | fail
            ·
             obtain rfl : m = 4 := by omega
             conv => whnf
             first | refine brF (by rfl) ?_ | fail
             conv => whnf
             repeat (fail)
             refine ⟨⟨i + 1, by omega⟩, by simp only; omega, ?_⟩
             dsimp only
             rw [show 4 * (i + 1) = 4 * i + 4 by omega]
             refine Weak.sel [0, 1, 2, 3, 4, 5, 6, 7] rfl rfl ?_ ?_ rfl rfl
             ·
              (repeat' (first | exact trivial | refine And.intro ?_ ?_ | fail)) <;> first | exact wk_i (by first | exact hp | exact hp.symm | fail) | rfl | fail
             ·
              (repeat' (first | exact trivial | refine And.intro ?_ ?_ | (refine wk_cons ?_ ?_))) <;> first | rfl | exact ren_eq (by first | (simp; done) | fail) (by first | rfl | fail) | fail
          ·
           obtain rfl : i = 8 := by omega
           rw [outb_e_n] at hfin
           rw [← hfin]
           conv => whnf
           first | refine brF (by rfl) ?_ | fail
           conv => whnf
           refine ⟨[0, 1, 2, 3, 4, 5, 6, 7], ?_, rfl, rfl, ?_, rfl⟩
           ·
            (repeat' (fail)) <;> first | rfl | fail
           ·
            (repeat' (first | exact trivial | refine And.intro ?_ ?_ | (refine wk_cons ?_ ?_))) <;> first | rfl | exact ren_eq (by first | (simp; done) | fail) (by first | rfl | fail) | fail
end Go.Sh
/- sha: the narrow machine's sum (f102), walked, of texts in parts. -/
namespace Go.Sh
open Go.Proofs
set_option maxHeartbeats 4000000

attribute [local irreducible] comp_n
attribute [local irreducible] blks_n st_n rest_n hash_n pz_n outl_n outb_n lset_n last_n
theorem f102_bb (h k : List UInt32) (hh : h.length = 8) (hk : k.length = 64) (b0 b1 : List UInt8) (hb0 : b0.length < 100000000000000) (hb1 : b1.length < 100000000000000) (f0 f1 fl : Bool) : SCall Try.prog 102 [.p 0 0, .sl 3 0 2 1 fl] [some (.ro (mach_n 1 2)), some (.row 23 (h.map .u32)), some (.ro (k.map .u32)), some (.ro [.sl 4 0 b0.length 1 f0, .sl 5 0 b1.length 1 f1]), some (.ro (b0.map .u8)), some (.ro (b1.map .u8))] (.sl 6 0 32 1 false) [some (.ro (mach_n 1 2)), none, some (.ro (k.map .u32)), some (.ro [.sl 4 0 b0.length 1 f0, .sl 5 0 b1.length 1 f1]), some (.ro (b0.map .u8)), some (.ro (b1.map .u8)), some (.row 5 ((hash_n k h (b0 ++ b1)).map .u8))] := by
 obtain ⟨tx, htx⟩ : ∃ tx : Nat → List UInt8, tx = fun i => ([b0, b1].take i).flatten := ⟨_, rfl⟩
 have tx0 : tx 0 = [] := by rw [htx]; rfl
 have tx1 : tx 1 = tx 0 ++ b0 := by rw [htx]; simp
 have tx2 : tx 2 = tx 1 ++ b1 := by rw [htx]; simp
 have htp : tx 2 = b0 ++ b1 := by rw [htx]; simp
 have he : hash_n k h (b0 ++ b1) = hash_n k h (tx 2) := by rw [htp]
 rw [he]
 have hl0 : (tx 0).length = 0 := by rw [tx0]; rfl
 have hl1 : (tx 1).length = (tx 0).length + b0.length := by rw [tx1, List.length_append]
 have hl2 : (tx 2).length = (tx 1).length + b1.length := by rw [tx2, List.length_append]
 clear htx
 refine scall_of ttOk (by kernel_rfl : Try.prog.funcs[102]? = some Try.f102) rfl rfl rfl ?_
 try simp only [List.length_cons, List.length_nil, Nat.zero_add, Nat.reduceAdd]
 refine sw_ok ttOk mixed (by kernel_rfl) ?_
 conv => whnf
 repeat (first | (refine Exists.intro _ (And.intro rfl ?_); conv => whnf) | fail)
 refine SWp.weak (Weak.virt 6 5 1 rfl) ?_
 refine loop_rule ttOk mixed (by kernel_rfl) (ι := { x : Nat × List UInt8 × Nat // x.1 ≤ 2 ∧ x.2.2 ≤ x.2.1.length ∧ x.2.1.drop x.2.2 = rest_n (tx x.1) }) (fun x => [(0, .p 0 0), (5, .i 64), (6, .sl 6 x.1.2.2 (x.1.2.1.length - x.1.2.2) 1 false), (7, .u64 (UInt64.ofNat (tx x.1.1).length)), (21, .sl 3 0 2 1 fl), (22, .i 2), (23, .i (x.1.1 : Int))]) (fun x => [some (.ro (mach_n 1 2)), some (.row 23 ((st_n k h (tx x.1.1)).map .u32)), some (.ro (k.map .u32)), some (.ro [.sl 4 0 b0.length 1 f0, .sl 5 0 b1.length 1 f1]), some (.ro (b0.map .u8)), some (.ro (b1.map .u8)), some (.row 5 (x.1.2.1.map .u8))]) (fun _ => 7) (fun x => 2 - x.1.1) ⟨(0, [], 0), by omega, by simp, by rw [tx0]; exact rest_nil_n.symm⟩ ?_ ?_
 ·
  dsimp only
  rw [tx0, st_nil_n]
  refine Weak.sel [0, 1, 2, 3, 4, 5, 6] rfl rfl ?_ ?_ rfl rfl
  ·
   (repeat' (first | exact trivial | refine And.intro ?_ ?_ | fail)) <;> first | rfl | fail
  ·
   (repeat' (first | exact trivial | refine And.intro ?_ ?_ | (refine wk_cons ?_ ?_))) <;> first | rfl | exact ren_eq (by first | (simp; done) | fail) (by first | rfl | fail) | fail
 ·
  rintro ⟨⟨i, E, o⟩, hi, ho, hE⟩
  dsimp only at hi ho hE ⊢
  have hsl := st_len_n k hh (tx i)
  have hrl := rest_len_n (tx i)
  obtain ⟨S, hS⟩ : ∃ S, S = st_n k h (tx i) := ⟨_, rfl⟩
  rw [← hS] at hsl ⊢
  have hEl : E.length - o = (rest_n (tx i)).length := by rw [← hE, List.length_drop]
  by_cases hi2 : i < 2
  ·
   have hic : i = 0 ∨ i = 1 := by omega
   rcases hic with rfl | rfl
   ·
    have hq := feed_st_n k h (tx 0) b0
    have hq2 := feed_rest_n (tx 0) b0
    rw [← hS] at hq
    rw [← tx1] at hq hq2
    rw [← hE] at hq hq2 hEl
    have hap : (E.drop o ++ b0).map SV.u8 = List.take ((E.length - o) * 1) (List.drop o (E.map SV.u8)) ++ List.take (b0.length * 1) (List.drop 0 (b0.map SV.u8)) := (cat8 rfl rfl).symm
    have hDl : (E.drop o ++ b0).length = E.length - o + b0.length := by rw [List.length_append, List.length_drop]
    have hel : E.length - o < 64 := by rw [← List.length_drop, hE, hrl]; omega
    have hul : UInt64.ofNat (tx 0).length + u64i (b0.length : Int) = UInt64.ofNat (tx 1).length := by rw [u64_add_i _ _ (by omega), tx1, List.length_append]
    clear hS hrl
    conv => whnf
    first | refine brT (by rfl) ?_ | fail
    conv => whnf
    repeat (first | (refine Exists.intro _ (And.intro rfl ?_); conv => whnf) | (refine And.intro (by first | omega | (simp [ti5]; omega)) ?_; conv => whnf) | fail)
    obtain ⟨D, hD⟩ : ∃ D, D = E.drop o ++ b0 := ⟨_, rfl⟩
    rw [← hD] at hq hq2 hap hDl
    refine loop_rule ttOk mixed (by kernel_rfl) (ι := { j : Nat // 64 * j ≤ D.length }) (fun j => [(0, .p 0 0), (5, .i 64), (6, .sl 6 (64 * j.1) (D.length - 64 * j.1) 1 false), (7, .u64 (UInt64.ofNat (tx 1).length)), (21, .sl 3 0 2 1 fl), (22, .i 2), (23, .i 0)]) (fun j => [some (.ro (mach_n 1 2)), some (.row 23 ((blks_n k S D j.1).map .u32)), some (.ro (k.map .u32)), some (.ro [.sl 4 0 b0.length 1 f0, .sl 5 0 b1.length 1 f1]), some (.ro (b0.map .u8)), some (.ro (b1.map .u8)), some (.row 5 (D.map .u8))]) (fun _ => 6 + 1) (fun j => D.length - 64 * j.1) ⟨0, by omega⟩ ?_ ?_
    ·
     have hz := blks_z_n k S D
     have hDn : E.length - o + b0.length = D.length - 64 * 0 := by omega
     dsimp only
     rw [hz]
     refine Weak.sel [0, 1, 2, 3, 4, 5, 7] rfl rfl ?_ ?_ rfl rfl
     ·
      (repeat' (first | exact trivial | refine And.intro ?_ ?_ | fail)) <;> first | exact wk_u64 (by first | exact hul | exact hul.symm | fail) | rfl | exact wk_sl rfl (by first | rfl | fail) (by first | exact hDn.symm | fail) | fail
     ·
      (repeat' (first | exact trivial | exact ren_eq (plainL_u8 _) hap | refine And.intro ?_ ?_ | (refine wk_cons ?_ ?_))) <;> first | rfl | exact ren_eq (by first | (simp; done) | fail) (by first | rfl | fail) | fail
    ·
     rintro ⟨j, hj⟩
     dsimp only
     have hbl := blks_len_n k hsl D j
     by_cases hc : 64 * (j + 1) ≤ D.length
     ·
      have hge : decide (((D.length - 64 * j : Nat) : Int) ≥ 64) = true := by simp; omega
      have hs := blks_s_n k S D j
      have q139 := f139D (blks_n k S D j) k D (64 * j) hbl hk (by omega) false
      rw [← hs] at q139
      conv => whnf
      first | refine brT (by exact hge) ?_ | fail
      conv => whnf
      repeat (first | (refine Exists.intro _ (And.intro rfl ?_); conv => whnf) | (refine And.intro (by first | omega | fail) ?_; conv => whnf) | fail)
      refine ok1_callF [0, 1, 2, 6] [false, true, false, false] true (q139) rfl rfl ⟨⟨rfl, by first | rfl | fail⟩, by (repeat' (first | exact trivial | refine And.intro ?_ ?_)) <;> first | rfl | exact ren_eq (by first | (simp; done) | fail) (by first | rfl | fail) | fail, by first | simp [plainHf, plainB], by first | rfl | fail, ?_⟩
      conv => whnf
      repeat (first | (refine Exists.intro _ (And.intro rfl ?_); conv => whnf) | (refine And.intro (by first | omega | fail) ?_; conv => whnf) | fail)
      refine ⟨⟨j + 1, hc⟩, by simp only; omega, ?_⟩
      dsimp only
      refine Weak.sel [0, 1, 2, 3, 4, 5, 6] rfl rfl ?_ ?_ rfl rfl
      ·
       (repeat' (first | exact trivial | refine And.intro ?_ ?_ | fail)) <;> first | rfl | fail
      ·
       (repeat' (first | exact trivial | refine And.intro ?_ ?_ | (refine wk_cons ?_ ?_))) <;> first | rfl | exact ren_eq (by first | (simp; done) | fail) (by first | rfl | fail) | fail
     ·
      obtain rfl : j = D.length / 64 := by omega
      have hge : decide (((D.length - 64 * (D.length / 64) : Nat) : Int) ≥ 64) = false := by simp; omega
      rw [hq]
      conv => whnf
      first | refine brF (by exact hge) ?_ | fail
      conv => whnf
      repeat (fail)
      refine ⟨⟨(1, D, 64 * (D.length / 64)), by omega, by simp only; omega, hq2⟩, by simp only; omega, ?_⟩
      dsimp only
      refine Weak.sel [0, 1, 2, 3, 4, 5, 6] rfl rfl ?_ ?_ rfl rfl
      ·
       (repeat' (first | exact trivial | refine And.intro ?_ ?_ | fail)) <;> first | rfl | fail
      ·
       (repeat' (first | exact trivial | refine And.intro ?_ ?_ | (refine wk_cons ?_ ?_))) <;> first | rfl | exact ren_eq (by first | (simp; done) | fail) (by first | rfl | fail) | fail
   ·
    have hq := feed_st_n k h (tx 1) b1
    have hq2 := feed_rest_n (tx 1) b1
    rw [← hS] at hq
    rw [← tx2] at hq hq2
    rw [← hE] at hq hq2 hEl
    have hap : (E.drop o ++ b1).map SV.u8 = List.take ((E.length - o) * 1) (List.drop o (E.map SV.u8)) ++ List.take (b1.length * 1) (List.drop 0 (b1.map SV.u8)) := (cat8 rfl rfl).symm
    have hDl : (E.drop o ++ b1).length = E.length - o + b1.length := by rw [List.length_append, List.length_drop]
    have hel : E.length - o < 64 := by rw [← List.length_drop, hE, hrl]; omega
    have hul : UInt64.ofNat (tx 1).length + u64i (b1.length : Int) = UInt64.ofNat (tx 2).length := by rw [u64_add_i _ _ (by omega), tx2, List.length_append]
    clear hS hrl
    conv => whnf
    first | refine brT (by rfl) ?_ | fail
    conv => whnf
    repeat (first | (refine Exists.intro _ (And.intro rfl ?_); conv => whnf) | (refine And.intro (by first | omega | (simp [ti5]; omega)) ?_; conv => whnf) | fail)
    obtain ⟨D, hD⟩ : ∃ D, D = E.drop o ++ b1 := ⟨_, rfl⟩
    rw [← hD] at hq hq2 hap hDl
    refine loop_rule ttOk mixed (by kernel_rfl) (ι := { j : Nat // 64 * j ≤ D.length }) (fun j => [(0, .p 0 0), (5, .i 64), (6, .sl 6 (64 * j.1) (D.length - 64 * j.1) 1 false), (7, .u64 (UInt64.ofNat (tx 2).length)), (21, .sl 3 0 2 1 fl), (22, .i 2), (23, .i 1)]) (fun j => [some (.ro (mach_n 1 2)), some (.row 23 ((blks_n k S D j.1).map .u32)), some (.ro (k.map .u32)), some (.ro [.sl 4 0 b0.length 1 f0, .sl 5 0 b1.length 1 f1]), some (.ro (b0.map .u8)), some (.ro (b1.map .u8)), some (.row 5 (D.map .u8))]) (fun _ => 6 + 1) (fun j => D.length - 64 * j.1) ⟨0, by omega⟩ ?_ ?_
    ·
     have hz := blks_z_n k S D
     have hDn : E.length - o + b1.length = D.length - 64 * 0 := by omega
     dsimp only
     rw [hz]
     refine Weak.sel [0, 1, 2, 3, 4, 5, 7] rfl rfl ?_ ?_ rfl rfl
     ·
      (repeat' (first | exact trivial | refine And.intro ?_ ?_ | fail)) <;> first | exact wk_u64 (by first | exact hul | exact hul.symm | fail) | rfl | exact wk_sl rfl (by first | rfl | fail) (by first | exact hDn.symm | fail) | fail
     ·
      (repeat' (first | exact trivial | exact ren_eq (plainL_u8 _) hap | refine And.intro ?_ ?_ | (refine wk_cons ?_ ?_))) <;> first | rfl | exact ren_eq (by first | (simp; done) | fail) (by first | rfl | fail) | fail
    ·
     rintro ⟨j, hj⟩
     dsimp only
     have hbl := blks_len_n k hsl D j
     by_cases hc : 64 * (j + 1) ≤ D.length
     ·
      have hge : decide (((D.length - 64 * j : Nat) : Int) ≥ 64) = true := by simp; omega
      have hs := blks_s_n k S D j
      have q139 := f139D (blks_n k S D j) k D (64 * j) hbl hk (by omega) false
      rw [← hs] at q139
      conv => whnf
      first | refine brT (by exact hge) ?_ | fail
      conv => whnf
      repeat (first | (refine Exists.intro _ (And.intro rfl ?_); conv => whnf) | (refine And.intro (by first | omega | fail) ?_; conv => whnf) | fail)
      refine ok1_callF [0, 1, 2, 6] [false, true, false, false] true (q139) rfl rfl ⟨⟨rfl, by first | rfl | fail⟩, by (repeat' (first | exact trivial | refine And.intro ?_ ?_)) <;> first | rfl | exact ren_eq (by first | (simp; done) | fail) (by first | rfl | fail) | fail, by first | simp [plainHf, plainB], by first | rfl | fail, ?_⟩
      conv => whnf
      repeat (first | (refine Exists.intro _ (And.intro rfl ?_); conv => whnf) | (refine And.intro (by first | omega | fail) ?_; conv => whnf) | fail)
      refine ⟨⟨j + 1, hc⟩, by simp only; omega, ?_⟩
      dsimp only
      refine Weak.sel [0, 1, 2, 3, 4, 5, 6] rfl rfl ?_ ?_ rfl rfl
      ·
       (repeat' (first | exact trivial | refine And.intro ?_ ?_ | fail)) <;> first | rfl | fail
      ·
       (repeat' (first | exact trivial | refine And.intro ?_ ?_ | (refine wk_cons ?_ ?_))) <;> first | rfl | exact ren_eq (by first | (simp; done) | fail) (by first | rfl | fail) | fail
     ·
      obtain rfl : j = D.length / 64 := by omega
      have hge : decide (((D.length - 64 * (D.length / 64) : Nat) : Int) ≥ 64) = false := by simp; omega
      rw [hq]
      conv => whnf
      first | refine brF (by exact hge) ?_ | fail
      conv => whnf
      repeat (fail)
      refine ⟨⟨(2, D, 64 * (D.length / 64)), by omega, by simp only; omega, hq2⟩, by simp only; omega, ?_⟩
      dsimp only
      refine Weak.sel [0, 1, 2, 3, 4, 5, 6] rfl rfl ?_ ?_ rfl rfl
      ·
       (repeat' (first | exact trivial | refine And.intro ?_ ?_ | fail)) <;> first | rfl | fail
      ·
       (repeat' (first | exact trivial | refine And.intro ?_ ?_ | (refine wk_cons ?_ ?_))) <;> first | rfl | exact ren_eq (by first | (simp; done) | fail) (by first | rfl | fail) | fail
  ·
   obtain rfl : i = 2 := by omega
   obtain ⟨n, hn⟩ : ∃ n, n = E.length - o := ⟨_, rfl⟩
   have hnE : o + n = E.length := by omega
   rw [← hn]
   have hcat : (rest_n (tx 2) ++ [128]).map SV.u8 = List.take (n * 1) (List.drop o (E.map SV.u8)) ++ List.take (1 * 1) (List.drop 0 [SV.u8 128]) := by rw [← hE]; exact (cat8 (b := [128]) hn rfl).symm
   have hdd : decide (((n : Nat) : Int).toNat = ((n : Nat) : Int).toNat) = true := by simp
   conv => whnf
   first | refine brF (by rfl) ?_ | fail
   conv => whnf
   repeat (first | (refine Exists.intro _ (And.intro rfl ?_); conv => whnf) | (refine And.intro (by first | omega | fail) ?_; conv => whnf) | fail)
   rw [hdd]
   rw [Int.toNat_natCast]
   have hnl : n = (rest_n (tx 2)).length := by rw [hn, ← hE, List.length_drop]
   have hn64 : n < 64 := by rw [hnl, hrl]; omega
   have hpz := pz_rest_n (tx 2)
   rw [← hnl] at hpz
   have hpl : pz_n n < 64 := by unfold pz_n; exact Nat.mod_lt _ (by decide)
   conv => whnf
   refine And.intro ⟨by show _ ≤ (E.map SV.u8).length; rw [List.length_map]; omega, by decide, by show _ * 1 ≤ _; omega, by decide⟩ ?_
   conv => whnf
   repeat (fail)
   refine loop_rule ttOk mixed (by kernel_rfl) (ι := { j : Nat // j ≤ pz_n n }) (fun j => [(0, .p 0 0), (5, .i 64), (6, .sl 6 0 (n + 1 + j.1) 1 false), (7, .u64 (UInt64.ofNat (tx 2).length))]) (fun j => [some (.ro (mach_n 1 2)), some (.row 23 (S.map .u32)), some (.ro (k.map .u32)), some (.ro [.sl 4 0 b0.length 1 f0, .sl 5 0 b1.length 1 f1]), some (.ro (b0.map .u8)), some (.ro (b1.map .u8)), some (.row 5 ((rest_n (tx 2) ++ [128] ++ List.replicate j.1 0).map .u8))]) (fun _ => 6 + 1) (fun j => pz_n n - j.1) ⟨0, by omega⟩ ?_ ?_
   ·
    have hz : rest_n (tx 2) ++ [128] ++ List.replicate 0 0 = rest_n (tx 2) ++ [128] := List.append_nil _
    dsimp only
    rw [hz]
    refine Weak.sel [0, 1, 2, 3, 4, 5, 6 + 2] rfl rfl ?_ ?_ rfl rfl
    ·
     (repeat' (first | exact trivial | refine And.intro ?_ ?_ | fail)) <;> first | rfl | fail
    ·
     (repeat' (first | exact trivial | exact ren_eq (plainL_u8 _) hcat | refine And.intro ?_ ?_ | (refine wk_cons ?_ ?_))) <;> first | rfl | exact ren_eq (by first | (simp; done) | fail) (by first | rfl | fail) | fail
   ·
    rintro ⟨j, hj⟩
    dsimp only
    obtain ⟨Y, hY⟩ : ∃ Y, Y = rest_n (tx 2) ++ [128] ++ List.replicate j 0 := ⟨_, rfl⟩
    have hYl : Y.length = n + 1 + j := by rw [hY, List.length_append, List.length_append, ← hnl, List.length_replicate]; rfl
    have hYs : rest_n (tx 2) ++ [128] ++ List.replicate (j + 1) 0 = Y ++ [0] := by rw [hY, List.replicate_succ', List.append_assoc]; simp
    by_cases hj2 : j < pz_n n
    ·
     have hno := padz_no_n hj2
     have hcd : (((w64 (((n + 1 + j : Nat) : Int) + w64 (2 * 4))).tmod 64) != 0) = true := by
      have e : w64 (((n + 1 + j : Nat) : Int) + w64 (2 * 4)) = ((n + 1 + j + 8 : Nat) : Int) := by simp only [w64_eq]; omega
      rw [e, show (((n + 1 + j + 8 : Nat) : Int)).tmod 64 = (((n + 1 + j + 8) % 64 : Nat) : Int) from rfl]
      simp; omega
     rw [← hY]
     conv => whnf
     repeat (first | (refine Exists.intro _ (And.intro rfl ?_); conv => whnf) | fail)
     first | refine brT (by exact hcd) ?_ | fail
     conv => whnf
     repeat (first | (refine Exists.intro _ (And.intro rfl ?_); conv => whnf) | (refine And.intro (by first | omega | (simp [ti5]; omega)) ?_; conv => whnf) | fail)
     have hap2 : (Y ++ [0]).map SV.u8 = List.take ((n + 1 + j) * 1) (List.drop 0 (Y.map SV.u8)) ++ List.take (1 * 1) (List.drop 0 [SV.u8 0]) := (cat8 (o := 0) (n := n + 1 + j) (E := Y) (b := [0]) (by omega) rfl).symm
     refine ⟨⟨j + 1, by omega⟩, by simp only; omega, ?_⟩
     dsimp only
     rw [hYs]
     refine Weak.sel [0, 1, 2, 3, 4, 5, 6 + 2] rfl rfl ?_ ?_ rfl rfl
     ·
      (repeat' (first | exact trivial | refine And.intro ?_ ?_ | fail)) <;> first | rfl | fail
     ·
      (repeat' (first | exact trivial | exact ren_eq (plainL_u8 _) hap2 | refine And.intro ?_ ?_ | (refine wk_cons ?_ ?_))) <;> first | rfl | exact ren_eq (by first | (simp; done) | fail) (by first | rfl | fail) | fail
    ·
     obtain rfl : j = pz_n n := by omega
     have hyes := padz_yes_n n
     have hcd : (((w64 (((n + 1 + pz_n n : Nat) : Int) + w64 (2 * 4))).tmod 64) != 0) = false := by
      have e : w64 (((n + 1 + pz_n n : Nat) : Int) + w64 (2 * 4)) = ((n + 1 + pz_n n + 8 : Nat) : Int) := by simp only [w64_eq]; omega
      rw [e, show (((n + 1 + pz_n n + 8 : Nat) : Int)).tmod 64 = (((n + 1 + pz_n n + 8) % 64 : Nat) : Int) from rfl, hyes]
      rfl
     rw [← hY]
     conv => whnf
     repeat (first | (refine Exists.intro _ (And.intro rfl ?_); conv => whnf) | fail)
     first | refine brF (by exact hcd) ?_ | fail
     conv => whnf
     repeat (first | (refine Exists.intro _ (And.intro rfl ?_); conv => whnf) | (refine And.intro ⟨by first | decide | fail, by first | decide | fail⟩ ?_; conv => whnf) | fail)
     obtain ⟨N, hN⟩ : ∃ N, N = (tx 2).length := ⟨_, rfl⟩
     rw [← hN]
     refine loop_rule ttOk mixed (by kernel_rfl) (ι := { i : Nat // i ≤ 8 }) (fun i => [(0, .p 0 0), (5, .i 64), (6, .sl 6 0 (n + 1 + pz_n n) 1 false), (7, .u64 (UInt64.ofNat N)), (10, .sl (6 + 1) 0 8 1 true), (76, .i (i.1 : Int))]) (fun i => [some (.ro (mach_n 1 2)), some (.row 23 (S.map .u32)), some (.ro (k.map .u32)), some (.ro [.sl 4 0 b0.length 1 f0, .sl 5 0 b1.length 1 f1]), some (.ro (b0.map .u8)), some (.ro (b1.map .u8)), some (.row 5 (Y.map .u8)), some (.row 5 ((lset_n N i.1).map .u8))]) (fun _ => 6 + 2) (fun i => 8 - i.1) ⟨0, by omega⟩ ?_ ?_
     ·
      have hz := lset_z_n N
      dsimp only
      rw [hz]
      refine Weak.sel [0, 1, 2, 3, 4, 5, 6, 6 + 1] rfl rfl ?_ ?_ rfl rfl
      ·
       (repeat' (first | exact trivial | refine And.intro ?_ ?_ | fail)) <;> first | rfl | fail
      ·
       (repeat' (first | exact trivial | exact ren_z8 | refine And.intro ?_ ?_ | (refine wk_cons ?_ ?_))) <;> first | rfl | exact ren_eq (by first | (simp; done) | fail) (by first | rfl | fail) | fail
     ·
      rintro ⟨i, hi⟩
      dsimp only
      have hll := lset_len_n N i
      by_cases hi8 : i < 8
      ·
       have hlt : decide ((i : Int) < 8) = true := by simp; omega
       have hp := wp1i i (by omega)
       have h8 : w64 (8 * (i : Int)) = ((8 * i : Nat) : Int) := by simp only [w64_eq]; omega
       have h7 : w64 (w64 (8 - 1) - (i : Int)) = ((7 - i : Nat) : Int) := by simp only [w64_eq]; omega
       have hs := lset_s_n N i
       conv => whnf
       first | refine brT (by exact hlt) ?_ | fail
       conv => whnf
       repeat (fail)
       refine ⟨_, mshr_64 h8, ?_⟩
       conv => whnf
       repeat (first | (refine Exists.intro _ (And.intro (sput_m8 (i := 7 - i) (by first | rfl | omega | fail)) ?_); conv => whnf) | (refine Exists.intro _ (And.intro (idx_i (m := 7 - i) (by first | rfl | omega | fail)) ?_); conv => whnf) | (refine And.intro (by first | omega | (simp; omega) | fail) ?_; conv => whnf) | fail)
       refine ⟨⟨i + 1, by omega⟩, by simp only; omega, ?_⟩
       dsimp only
       rw [hs]
       refine Weak.sel [0, 1, 2, 3, 4, 5, 6, 6 + 1] rfl rfl ?_ ?_ rfl rfl
       ·
        (repeat' (first | exact trivial | refine And.intro ?_ ?_ | fail)) <;> first | exact wk_i (by first | exact hp | exact hp.symm | fail) | rfl | fail
       ·
        (repeat' (first | exact trivial | refine And.intro ?_ ?_ | (refine wk_cons ?_ ?_))) <;> first | rfl | exact ren_eq (by first | (simp; done) | fail) (by first | rfl | fail) | exact ren_m8 (by first | rfl | fail) | fail
      ·
       obtain rfl : i = 8 := by omega
       have hap3 : (Y ++ lset_n N 8).map SV.u8 = List.take ((n + 1 + pz_n n) * 1) (List.drop 0 (Y.map SV.u8)) ++ List.take (8 * 1) (List.drop 0 ((lset_n N 8).map SV.u8)) := (cat8 (o := 0) (n := n + 1 + pz_n n) (E := Y) (b := lset_n N 8) (by omega) hll.symm).symm
       obtain ⟨D, hD⟩ : ∃ D, D = Y ++ lset_n N 8 := ⟨_, rfl⟩
       have hDl : D.length = n + 1 + pz_n n + 8 := by rw [hD, List.length_append, hYl, hll]
       have hDe : D = last_n (tx 2) := by rw [hD, hY, hpz, hN]; exact last_e_n _
       have hD64 := last_len_n (tx 2)
       have hfin := last_st_n k h (tx 2)
       rw [← hDe] at hD64 hfin
       rw [← hS] at hfin
       rw [← hD] at hap3
       conv => whnf
       first | refine brF (by rfl) ?_ | fail
       conv => whnf
       repeat (first | (refine And.intro (by first | omega | (simp [ti5]; omega)) ?_; conv => whnf) | fail)
       refine loop_rule ttOk mixed (by kernel_rfl) (ι := { j : Nat // 64 * j ≤ D.length }) (fun j => [(0, .p 0 0), (5, .i 64), (6, .sl 6 (64 * j.1) (D.length - 64 * j.1) 1 false)]) (fun j => [some (.ro (mach_n 1 2)), some (.row 23 ((blks_n k S D j.1).map .u32)), some (.ro (k.map .u32)), some (.ro [.sl 4 0 b0.length 1 f0, .sl 5 0 b1.length 1 f1]), some (.ro (b0.map .u8)), some (.ro (b1.map .u8)), some (.row 5 (D.map .u8))]) (fun _ => 6 + 1) (fun j => D.length - 64 * j.1) ⟨0, by omega⟩ ?_ ?_
       ·
        have hz := blks_z_n k S D
        have hDn : n + 1 + pz_n n + 8 = D.length - 64 * 0 := by omega
        dsimp only
        rw [hz]
        refine Weak.sel [0, 1, 2, 3, 4, 5, 6 + 2] rfl rfl ?_ ?_ rfl rfl
        ·
         (repeat' (first | exact trivial | refine And.intro ?_ ?_ | fail)) <;> first | rfl | exact wk_sl rfl (by first | rfl | fail) (by first | exact hDn.symm | fail) | fail
        ·
         (repeat' (first | exact trivial | exact ren_eq (plainL_u8 _) hap3 | refine And.intro ?_ ?_ | (refine wk_cons ?_ ?_))) <;> first | rfl | exact ren_eq (by first | (simp; done) | fail) (by first | rfl | fail) | fail
       ·
        rintro ⟨j, hj⟩
        dsimp only
        have hbl := blks_len_n k hsl D j
        by_cases hc : 64 * (j + 1) ≤ D.length
        ·
         have hge : decide (((D.length - 64 * j : Nat) : Int) > 0) = true := by simp; omega
         have hs := blks_s_n k S D j
         have q139 := f139D (blks_n k S D j) k D (64 * j) hbl hk (by omega) false
         rw [← hs] at q139
         conv => whnf
         first | refine brT (by exact hge) ?_ | fail
         conv => whnf
         repeat (first | (refine Exists.intro _ (And.intro rfl ?_); conv => whnf) | (refine And.intro (by first | omega | fail) ?_; conv => whnf) | fail)
         refine ok1_callF [0, 1, 2, 6] [false, true, false, false] true (q139) rfl rfl ⟨⟨rfl, by first | rfl | fail⟩, by (repeat' (first | exact trivial | refine And.intro ?_ ?_)) <;> first | rfl | exact ren_eq (by first | (simp; done) | fail) (by first | rfl | fail) | fail, by first | simp [plainHf, plainB], by first | rfl | fail, ?_⟩
         conv => whnf
         repeat (first | (refine Exists.intro _ (And.intro rfl ?_); conv => whnf) | (refine And.intro (by first | omega | fail) ?_; conv => whnf) | fail)
         refine ⟨⟨j + 1, hc⟩, by simp only; omega, ?_⟩
         dsimp only
         refine Weak.sel [0, 1, 2, 3, 4, 5, 6] rfl rfl ?_ ?_ rfl rfl
         ·
          (repeat' (first | exact trivial | refine And.intro ?_ ?_ | fail)) <;> first | rfl | fail
         ·
          (repeat' (first | exact trivial | refine And.intro ?_ ?_ | (refine wk_cons ?_ ?_))) <;> first | rfl | exact ren_eq (by first | (simp; done) | fail) (by first | rfl | fail) | fail
        ·
         obtain rfl : j = D.length / 64 := by omega
         have hge : decide (((D.length - 64 * (D.length / 64) : Nat) : Int) > 0) = false := by simp; omega
         obtain ⟨H, hH⟩ : ∃ H, H = blks_n k S D (D.length / 64) := ⟨_, rfl⟩
         rw [← hH] at hbl hfin ⊢
         conv => whnf
         first | refine brF (by exact hge) ?_ | fail
         conv => whnf
         repeat (first | (refine Exists.intro _ (And.intro rfl ?_); conv => whnf) | fail)
         refine SWp.weak (Weak.virt 12 5 1 rfl) ?_
         refine loop_rule ttOk mixed (by kernel_rfl) (ι := { i : Nat // i ≤ 8 }) (fun i => [(0, .p 0 0), (12, .sl 6 0 (4 * i.1) 1 false), (110, .sl 1 0 8 1 false), (111, .i 8), (112, .i (i.1 : Int))]) (fun i => [some (.ro (mach_n 1 2)), some (.row 23 (H.map .u32)), some (.ro (k.map .u32)), some (.ro [.sl 4 0 b0.length 1 f0, .sl 5 0 b1.length 1 f1]), some (.ro (b0.map .u8)), some (.ro (b1.map .u8)), some (.row 5 ((outl_n H (4 * i.1)).map .u8))]) (fun _ => 6 + 1) (fun i => 8 - i.1) ⟨0, by omega⟩ ?_ ?_
         ·
          have hz := outl_z_n H
          dsimp only
          rw [hz]
          refine Weak.sel [0, 1, 2, 3, 4, 5, 6 + 1] rfl rfl ?_ ?_ rfl rfl
          ·
           (repeat' (first | exact trivial | refine And.intro ?_ ?_ | fail)) <;> first | rfl | fail
          ·
           (repeat' (first | exact trivial | refine And.intro ?_ ?_ | (refine wk_cons ?_ ?_))) <;> first | rfl | exact ren_eq (by first | (simp; done) | fail) (by first | rfl | fail) | fail
         ·
          rintro ⟨i, hi⟩
          dsimp only
          by_cases hi8 : i < 8
          ·
           have hlt : decide ((i : Int) < 8) = true := by simp; omega
           have hp := wp1i i (by omega)
           conv => whnf
           first | refine brT (by exact hlt) ?_ | fail
           conv => whnf
           repeat (first | (refine Exists.intro _ (And.intro (sload_u32 (i := i) (by first | rfl | omega | fail) (by first | omega | fail)) ?_); conv => whnf) | (refine Exists.intro _ (And.intro (idx_i (m := i) (by first | rfl | fail)) ?_); conv => whnf) | (refine Exists.intro _ (And.intro rfl ?_); conv => whnf) | (refine And.intro (by first | omega | fail) ?_; conv => whnf) | fail)
           refine loop_rule ttOk mixed (by kernel_rfl) (ι := { m : Nat // m ≤ 4 }) (fun m => [(0, .p 0 0), (12, .sl 6 0 (4 * i + m.1) 1 false), (14, .u32 (H.getD i 0)), (15, .i (3 - (m.1 : Int))), (110, .sl 1 0 8 1 false), (111, .i 8), (112, .i (i : Int))]) (fun m => [some (.ro (mach_n 1 2)), some (.row 23 (H.map .u32)), some (.ro (k.map .u32)), some (.ro [.sl 4 0 b0.length 1 f0, .sl 5 0 b1.length 1 f1]), some (.ro (b0.map .u8)), some (.ro (b1.map .u8)), some (.row 5 ((outl_n H (4 * i + m.1)).map .u8))]) (fun _ => 6 + 1) (fun m => 4 - m.1) ⟨0, by omega⟩ ?_ ?_
           ·
            refine Weak.sel [0, 1, 2, 3, 4, 5, 6] rfl rfl ?_ ?_ rfl rfl
            ·
             (repeat' (first | exact trivial | refine And.intro ?_ ?_ | fail)) <;> first | rfl | fail
            ·
             (repeat' (first | exact trivial | refine And.intro ?_ ?_ | (refine wk_cons ?_ ?_))) <;> first | rfl | exact ren_eq (by first | (simp; done) | fail) (by first | rfl | fail) | fail
           ·
            rintro ⟨m, hm⟩
            dsimp only
            have hol := outl_len_n H (4 * i + m)
            by_cases hm4 : m < 4
            ·
             have hge : decide ((3 - (m : Int)) ≥ 0) = true := by simp; omega
             have h8 : w64 (8 * (3 - (m : Int))) = ((8 * (3 - m) : Nat) : Int) := by simp only [w64_eq]; omega
             have hp2 : w64 (3 - (m : Int) - 1) = 3 - ((m + 1 : Nat) : Int) := by simp only [w64_eq]; omega
             have hs := outl_s_n H i m hm4
             obtain ⟨Z, hZ⟩ : ∃ Z, Z = outl_n H (4 * i + m) := ⟨_, rfl⟩
             rw [← hZ] at hol hs ⊢
             have hap4 : (Z ++ [(shr32 (H.getD i 0) (8 * (3 - m))).toUInt8]).map SV.u8 = List.take ((4 * i + m) * 1) (List.drop 0 (Z.map SV.u8)) ++ List.take (1 * 1) (List.drop 0 [SV.u8 (shr32 (H.getD i 0) (8 * (3 - m))).toUInt8]) := (cat8 (o := 0) (n := 4 * i + m) (E := Z) (b := [(shr32 (H.getD i 0) (8 * (3 - m))).toUInt8]) (by omega) rfl).symm
             conv => whnf
             first | refine brT (by exact hge) ?_ | fail
             conv => whnf
             repeat (fail)
             refine ⟨_, mshr_32 h8, ?_⟩
             conv => whnf
             repeat (first | (refine Exists.intro _ (And.intro rfl ?_); conv => whnf) | (refine And.intro (by first | omega | (simp [ti5]; omega)) ?_; conv => whnf) | fail)
             refine ⟨⟨m + 1, by omega⟩, by simp only; omega, ?_⟩
             dsimp only
             rw [hs]
             refine Weak.sel [0, 1, 2, 3, 4, 5, 6 + 2] rfl rfl ?_ ?_ rfl rfl
             ·
              (repeat' (first | exact trivial | refine And.intro ?_ ?_ | fail)) <;> first | exact wk_i (by first | exact hp2 | exact hp2.symm | fail) | rfl | fail
             ·
              (repeat' (first | exact trivial | exact ren_eq (plainL_u8 _) hap4 | refine And.intro ?_ ?_ | (refine wk_cons ?_ ?_))) <;> first | rfl | exact ren_eq (by first | (simp; done) | fail) (by first | rfl | fail) | fail
            ·
             obtain rfl : m = 4 := by omega
             conv => whnf
             first | refine brF (by rfl) ?_ | fail
             conv => whnf
             repeat (fail)
             refine ⟨⟨i + 1, by omega⟩, by simp only; omega, ?_⟩
             dsimp only
             rw [show 4 * (i + 1) = 4 * i + 4 by omega]
             refine Weak.sel [0, 1, 2, 3, 4, 5, 6] rfl rfl ?_ ?_ rfl rfl
             ·
              (repeat' (first | exact trivial | refine And.intro ?_ ?_ | fail)) <;> first | exact wk_i (by first | exact hp | exact hp.symm | fail) | rfl | fail
             ·
              (repeat' (first | exact trivial | refine And.intro ?_ ?_ | (refine wk_cons ?_ ?_))) <;> first | rfl | exact ren_eq (by first | (simp; done) | fail) (by first | rfl | fail) | fail
          ·
           obtain rfl : i = 8 := by omega
           rw [outb_e_n] at hfin
           rw [← hfin]
           conv => whnf
           first | refine brF (by rfl) ?_ | fail
           conv => whnf
           refine ⟨[0, 1, 2, 3, 4, 5, 6], ?_, rfl, rfl, ?_, rfl⟩
           ·
            (repeat' (fail)) <;> first | rfl | fail
           ·
            (repeat' (first | exact trivial | refine And.intro ?_ ?_ | (refine wk_cons ?_ ?_))) <;> first | rfl | exact ren_eq (by first | (simp; done) | fail) (by first | rfl | fail) | fail
end Go.Sh
/- sha: the narrow machine's sum (f102), walked, of texts in parts. -/
namespace Go.Sh
open Go.Proofs
set_option maxHeartbeats 4000000

attribute [local irreducible] comp_n
attribute [local irreducible] blks_n st_n rest_n hash_n pz_n outl_n outb_n lset_n last_n
theorem f102_bobb (h k : List UInt32) (hh : h.length = 8) (hk : k.length = 64) (b0 b2 b3 : List UInt8) (hb0 : b0.length < 100000000000000) (hb2 : b2.length < 100000000000000) (hb3 : b3.length < 100000000000000) (f0 f2 f3 fl : Bool) : SCall Try.prog 102 [.p 0 0, .sl 3 0 4 1 fl] [some (.ro (mach_n 1 2)), some (.row 23 (h.map .u32)), some (.ro (k.map .u32)), some (.ro [.sl 4 0 b0.length 1 f0, .slnil, .sl 5 0 b2.length 1 f2, .sl 6 0 b3.length 1 f3]), some (.ro (b0.map .u8)), some (.ro (b2.map .u8)), some (.ro (b3.map .u8))] (.sl 7 0 32 1 false) [some (.ro (mach_n 1 2)), none, some (.ro (k.map .u32)), some (.ro [.sl 4 0 b0.length 1 f0, .slnil, .sl 5 0 b2.length 1 f2, .sl 6 0 b3.length 1 f3]), some (.ro (b0.map .u8)), some (.ro (b2.map .u8)), some (.ro (b3.map .u8)), some (.row 5 ((hash_n k h (b0 ++ b2 ++ b3)).map .u8))] := by
 obtain ⟨tx, htx⟩ : ∃ tx : Nat → List UInt8, tx = fun i => ([b0, [], b2, b3].take i).flatten := ⟨_, rfl⟩
 have tx0 : tx 0 = [] := by rw [htx]; rfl
 have tx1 : tx 1 = tx 0 ++ b0 := by rw [htx]; simp
 have tx2 : tx 2 = tx 1 ++ [] := by rw [htx]; simp
 have tx3 : tx 3 = tx 2 ++ b2 := by rw [htx]; simp
 have tx4 : tx 4 = tx 3 ++ b3 := by rw [htx]; simp
 have htp : tx 4 = b0 ++ b2 ++ b3 := by rw [htx]; simp
 have he : hash_n k h (b0 ++ b2 ++ b3) = hash_n k h (tx 4) := by rw [htp]
 rw [he]
 have hl0 : (tx 0).length = 0 := by rw [tx0]; rfl
 have hl1 : (tx 1).length = (tx 0).length + b0.length := by rw [tx1, List.length_append]
 have hl2 : (tx 2).length = (tx 1).length + 0 := by rw [tx2, List.length_append]; rfl
 have hl3 : (tx 3).length = (tx 2).length + b2.length := by rw [tx3, List.length_append]
 have hl4 : (tx 4).length = (tx 3).length + b3.length := by rw [tx4, List.length_append]
 clear htx
 refine scall_of ttOk (by kernel_rfl : Try.prog.funcs[102]? = some Try.f102) rfl rfl rfl ?_
 try simp only [List.length_cons, List.length_nil, Nat.zero_add, Nat.reduceAdd]
 refine sw_ok ttOk mixed (by kernel_rfl) ?_
 conv => whnf
 repeat (first | (refine Exists.intro _ (And.intro rfl ?_); conv => whnf) | fail)
 refine SWp.weak (Weak.virt 6 5 1 rfl) ?_
 refine loop_rule ttOk mixed (by kernel_rfl) (ι := { x : Nat × List UInt8 × Nat // x.1 ≤ 4 ∧ x.2.2 ≤ x.2.1.length ∧ x.2.1.drop x.2.2 = rest_n (tx x.1) }) (fun x => [(0, .p 0 0), (5, .i 64), (6, .sl 7 x.1.2.2 (x.1.2.1.length - x.1.2.2) 1 false), (7, .u64 (UInt64.ofNat (tx x.1.1).length)), (21, .sl 3 0 4 1 fl), (22, .i 4), (23, .i (x.1.1 : Int))]) (fun x => [some (.ro (mach_n 1 2)), some (.row 23 ((st_n k h (tx x.1.1)).map .u32)), some (.ro (k.map .u32)), some (.ro [.sl 4 0 b0.length 1 f0, .slnil, .sl 5 0 b2.length 1 f2, .sl 6 0 b3.length 1 f3]), some (.ro (b0.map .u8)), some (.ro (b2.map .u8)), some (.ro (b3.map .u8)), some (.row 5 (x.1.2.1.map .u8))]) (fun _ => 8) (fun x => 4 - x.1.1) ⟨(0, [], 0), by omega, by simp, by rw [tx0]; exact rest_nil_n.symm⟩ ?_ ?_
 ·
  dsimp only
  rw [tx0, st_nil_n]
  refine Weak.sel [0, 1, 2, 3, 4, 5, 6, 7] rfl rfl ?_ ?_ rfl rfl
  ·
   (repeat' (first | exact trivial | refine And.intro ?_ ?_ | fail)) <;> first | rfl | fail
  ·
   (repeat' (first | exact trivial | refine And.intro ?_ ?_ | (refine wk_cons ?_ ?_))) <;> first | rfl | exact ren_eq (by first | (simp; done) | fail) (by first | rfl | fail) | fail
 ·
  rintro ⟨⟨i, E, o⟩, hi, ho, hE⟩
  dsimp only at hi ho hE ⊢
  have hsl := st_len_n k hh (tx i)
  have hrl := rest_len_n (tx i)
  obtain ⟨S, hS⟩ : ∃ S, S = st_n k h (tx i) := ⟨_, rfl⟩
  rw [← hS] at hsl ⊢
  have hEl : E.length - o = (rest_n (tx i)).length := by rw [← hE, List.length_drop]
  by_cases hi2 : i < 4
  ·
   have hic : i = 0 ∨ i = 1 ∨ i = 2 ∨ i = 3 := by omega
   rcases hic with rfl | rfl | rfl | rfl
   ·
    have hq := feed_st_n k h (tx 0) b0
    have hq2 := feed_rest_n (tx 0) b0
    rw [← hS] at hq
    rw [← tx1] at hq hq2
    rw [← hE] at hq hq2 hEl
    have hap : (E.drop o ++ b0).map SV.u8 = List.take ((E.length - o) * 1) (List.drop o (E.map SV.u8)) ++ List.take (b0.length * 1) (List.drop 0 (b0.map SV.u8)) := (cat8 rfl rfl).symm
    have hDl : (E.drop o ++ b0).length = E.length - o + b0.length := by rw [List.length_append, List.length_drop]
    have hel : E.length - o < 64 := by rw [← List.length_drop, hE, hrl]; omega
    have hul : UInt64.ofNat (tx 0).length + u64i (b0.length : Int) = UInt64.ofNat (tx 1).length := by rw [u64_add_i _ _ (by omega), tx1, List.length_append]
    clear hS hrl
    conv => whnf
    first | refine brT (by rfl) ?_ | fail
    conv => whnf
    repeat (first | (refine Exists.intro _ (And.intro rfl ?_); conv => whnf) | (refine And.intro (by first | omega | (simp [ti5]; omega)) ?_; conv => whnf) | fail)
    obtain ⟨D, hD⟩ : ∃ D, D = E.drop o ++ b0 := ⟨_, rfl⟩
    rw [← hD] at hq hq2 hap hDl
    refine loop_rule ttOk mixed (by kernel_rfl) (ι := { j : Nat // 64 * j ≤ D.length }) (fun j => [(0, .p 0 0), (5, .i 64), (6, .sl 7 (64 * j.1) (D.length - 64 * j.1) 1 false), (7, .u64 (UInt64.ofNat (tx 1).length)), (21, .sl 3 0 4 1 fl), (22, .i 4), (23, .i 0)]) (fun j => [some (.ro (mach_n 1 2)), some (.row 23 ((blks_n k S D j.1).map .u32)), some (.ro (k.map .u32)), some (.ro [.sl 4 0 b0.length 1 f0, .slnil, .sl 5 0 b2.length 1 f2, .sl 6 0 b3.length 1 f3]), some (.ro (b0.map .u8)), some (.ro (b2.map .u8)), some (.ro (b3.map .u8)), some (.row 5 (D.map .u8))]) (fun _ => 7 + 1) (fun j => D.length - 64 * j.1) ⟨0, by omega⟩ ?_ ?_
    ·
     have hz := blks_z_n k S D
     have hDn : E.length - o + b0.length = D.length - 64 * 0 := by omega
     dsimp only
     rw [hz]
     refine Weak.sel [0, 1, 2, 3, 4, 5, 6, 8] rfl rfl ?_ ?_ rfl rfl
     ·
      (repeat' (first | exact trivial | refine And.intro ?_ ?_ | fail)) <;> first | exact wk_u64 (by first | exact hul | exact hul.symm | fail) | rfl | exact wk_sl rfl (by first | rfl | fail) (by first | exact hDn.symm | fail) | fail
     ·
      (repeat' (first | exact trivial | exact ren_eq (plainL_u8 _) hap | refine And.intro ?_ ?_ | (refine wk_cons ?_ ?_))) <;> first | rfl | exact ren_eq (by first | (simp; done) | fail) (by first | rfl | fail) | fail
    ·
     rintro ⟨j, hj⟩
     dsimp only
     have hbl := blks_len_n k hsl D j
     by_cases hc : 64 * (j + 1) ≤ D.length
     ·
      have hge : decide (((D.length - 64 * j : Nat) : Int) ≥ 64) = true := by simp; omega
      have hs := blks_s_n k S D j
      have q139 := f139D (blks_n k S D j) k D (64 * j) hbl hk (by omega) false
      rw [← hs] at q139
      conv => whnf
      first | refine brT (by exact hge) ?_ | fail
      conv => whnf
      repeat (first | (refine Exists.intro _ (And.intro rfl ?_); conv => whnf) | (refine And.intro (by first | omega | fail) ?_; conv => whnf) | fail)
      refine ok1_callF [0, 1, 2, 7] [false, true, false, false] true (q139) rfl rfl ⟨⟨rfl, by first | rfl | fail⟩, by (repeat' (first | exact trivial | refine And.intro ?_ ?_)) <;> first | rfl | exact ren_eq (by first | (simp; done) | fail) (by first | rfl | fail) | fail, by first | simp [plainHf, plainB], by first | rfl | fail, ?_⟩
      conv => whnf
      repeat (first | (refine Exists.intro _ (And.intro rfl ?_); conv => whnf) | (refine And.intro (by first | omega | fail) ?_; conv => whnf) | fail)
      refine ⟨⟨j + 1, hc⟩, by simp only; omega, ?_⟩
      dsimp only
      refine Weak.sel [0, 1, 2, 3, 4, 5, 6, 7] rfl rfl ?_ ?_ rfl rfl
      ·
       (repeat' (first | exact trivial | refine And.intro ?_ ?_ | fail)) <;> first | rfl | fail
      ·
       (repeat' (first | exact trivial | refine And.intro ?_ ?_ | (refine wk_cons ?_ ?_))) <;> first | rfl | exact ren_eq (by first | (simp; done) | fail) (by first | rfl | fail) | fail
     ·
      obtain rfl : j = D.length / 64 := by omega
      have hge : decide (((D.length - 64 * (D.length / 64) : Nat) : Int) ≥ 64) = false := by simp; omega
      rw [hq]
      conv => whnf
      first | refine brF (by exact hge) ?_ | fail
      conv => whnf
      repeat (fail)
      refine ⟨⟨(1, D, 64 * (D.length / 64)), by omega, by simp only; omega, hq2⟩, by simp only; omega, ?_⟩
      dsimp only
      refine Weak.sel [0, 1, 2, 3, 4, 5, 6, 7] rfl rfl ?_ ?_ rfl rfl
      ·
       (repeat' (first | exact trivial | refine And.intro ?_ ?_ | fail)) <;> first | rfl | fail
      ·
       (repeat' (first | exact trivial | refine And.intro ?_ ?_ | (refine wk_cons ?_ ?_))) <;> first | rfl | exact ren_eq (by first | (simp; done) | fail) (by first | rfl | fail) | fail
   ·
    have hq : st_n k h (tx 2) = S := by rw [hS, tx2, List.append_nil]
    have hq2 : E.drop o = rest_n (tx 2) := by rw [hE, tx2, List.append_nil]
    have hel : E.length - o < 64 := by rw [← List.length_drop, hE, hrl]; omega
    have htJ : tx 1 = tx 2 := by rw [tx2, List.append_nil]
    have hge : decide (((E.length - o : Nat) : Int) ≥ 64) = false := by simp; omega
    have hul : UInt64.ofNat (tx 1).length + u64i (0 : Int) = UInt64.ofNat (tx 2).length := by rw [← htJ]; exact UInt64.add_zero _
    conv => whnf
    first | refine brT (by rfl) ?_ | fail
    conv => whnf
    repeat (first | (refine Exists.intro _ (And.intro rfl ?_); conv => whnf) | (refine And.intro (by first | omega | fail) ?_; conv => whnf) | fail)
    refine loop_rule ttOk mixed (by kernel_rfl) (ι := Unit) (fun _ => [(0, .p 0 0), (5, .i 64), (6, .sl 7 o (E.length - o) 1 false), (7, .u64 (UInt64.ofNat (tx 2).length)), (21, .sl 3 0 4 1 fl), (22, .i 4), (23, .i 1)]) (fun _ => [some (.ro (mach_n 1 2)), some (.row 23 (S.map .u32)), some (.ro (k.map .u32)), some (.ro [.sl 4 0 b0.length 1 f0, .slnil, .sl 5 0 b2.length 1 f2, .sl 6 0 b3.length 1 f3]), some (.ro (b0.map .u8)), some (.ro (b2.map .u8)), some (.ro (b3.map .u8)), some (.row 5 (E.map .u8))]) (fun _ => 7 + 1) (fun _ => 0) () ?_ ?_
    ·
     refine Weak.sel [0, 1, 2, 3, 4, 5, 6, 7] rfl rfl ?_ ?_ rfl rfl
     ·
      (repeat' (first | exact trivial | refine And.intro ?_ ?_ | fail)) <;> first | exact wk_u64 (by first | exact hul | exact hul.symm | fail) | rfl | fail
     ·
      (repeat' (first | exact trivial | refine And.intro ?_ ?_ | (refine wk_cons ?_ ?_))) <;> first | rfl | exact ren_eq (by first | (simp; done) | fail) (by first | rfl | fail) | fail
    ·
     intro _
     dsimp only
     conv => whnf
     first | refine brF (by exact hge) ?_ | fail
     conv => whnf
     repeat (fail)
     refine ⟨⟨(2, E, o), by omega, ho, hq2⟩, by simp only; omega, ?_⟩
     dsimp only
     rw [hq]
     refine Weak.sel [0, 1, 2, 3, 4, 5, 6, 7] rfl rfl ?_ ?_ rfl rfl
     ·
      (repeat' (first | exact trivial | refine And.intro ?_ ?_ | fail)) <;> first | rfl | fail
     ·
      (repeat' (first | exact trivial | refine And.intro ?_ ?_ | (refine wk_cons ?_ ?_))) <;> first | rfl | exact ren_eq (by first | (simp; done) | fail) (by first | rfl | fail) | fail
   ·
    have hq := feed_st_n k h (tx 2) b2
    have hq2 := feed_rest_n (tx 2) b2
    rw [← hS] at hq
    rw [← tx3] at hq hq2
    rw [← hE] at hq hq2 hEl
    have hap : (E.drop o ++ b2).map SV.u8 = List.take ((E.length - o) * 1) (List.drop o (E.map SV.u8)) ++ List.take (b2.length * 1) (List.drop 0 (b2.map SV.u8)) := (cat8 rfl rfl).symm
    have hDl : (E.drop o ++ b2).length = E.length - o + b2.length := by rw [List.length_append, List.length_drop]
    have hel : E.length - o < 64 := by rw [← List.length_drop, hE, hrl]; omega
    have hul : UInt64.ofNat (tx 2).length + u64i (b2.length : Int) = UInt64.ofNat (tx 3).length := by rw [u64_add_i _ _ (by omega), tx3, List.length_append]
    clear hS hrl
    conv => whnf
    first | refine brT (by rfl) ?_ | fail
    conv => whnf
    repeat (first | (refine Exists.intro _ (And.intro rfl ?_); conv => whnf) | (refine And.intro (by first | omega | (simp [ti5]; omega)) ?_; conv => whnf) | fail)
    obtain ⟨D, hD⟩ : ∃ D, D = E.drop o ++ b2 := ⟨_, rfl⟩
    rw [← hD] at hq hq2 hap hDl
    refine loop_rule ttOk mixed (by kernel_rfl) (ι := { j : Nat // 64 * j ≤ D.length }) (fun j => [(0, .p 0 0), (5, .i 64), (6, .sl 7 (64 * j.1) (D.length - 64 * j.1) 1 false), (7, .u64 (UInt64.ofNat (tx 3).length)), (21, .sl 3 0 4 1 fl), (22, .i 4), (23, .i 2)]) (fun j => [some (.ro (mach_n 1 2)), some (.row 23 ((blks_n k S D j.1).map .u32)), some (.ro (k.map .u32)), some (.ro [.sl 4 0 b0.length 1 f0, .slnil, .sl 5 0 b2.length 1 f2, .sl 6 0 b3.length 1 f3]), some (.ro (b0.map .u8)), some (.ro (b2.map .u8)), some (.ro (b3.map .u8)), some (.row 5 (D.map .u8))]) (fun _ => 7 + 1) (fun j => D.length - 64 * j.1) ⟨0, by omega⟩ ?_ ?_
    ·
     have hz := blks_z_n k S D
     have hDn : E.length - o + b2.length = D.length - 64 * 0 := by omega
     dsimp only
     rw [hz]
     refine Weak.sel [0, 1, 2, 3, 4, 5, 6, 8] rfl rfl ?_ ?_ rfl rfl
     ·
      (repeat' (first | exact trivial | refine And.intro ?_ ?_ | fail)) <;> first | exact wk_u64 (by first | exact hul | exact hul.symm | fail) | rfl | exact wk_sl rfl (by first | rfl | fail) (by first | exact hDn.symm | fail) | fail
     ·
      (repeat' (first | exact trivial | exact ren_eq (plainL_u8 _) hap | refine And.intro ?_ ?_ | (refine wk_cons ?_ ?_))) <;> first | rfl | exact ren_eq (by first | (simp; done) | fail) (by first | rfl | fail) | fail
    ·
     rintro ⟨j, hj⟩
     dsimp only
     have hbl := blks_len_n k hsl D j
     by_cases hc : 64 * (j + 1) ≤ D.length
     ·
      have hge : decide (((D.length - 64 * j : Nat) : Int) ≥ 64) = true := by simp; omega
      have hs := blks_s_n k S D j
      have q139 := f139D (blks_n k S D j) k D (64 * j) hbl hk (by omega) false
      rw [← hs] at q139
      conv => whnf
      first | refine brT (by exact hge) ?_ | fail
      conv => whnf
      repeat (first | (refine Exists.intro _ (And.intro rfl ?_); conv => whnf) | (refine And.intro (by first | omega | fail) ?_; conv => whnf) | fail)
      refine ok1_callF [0, 1, 2, 7] [false, true, false, false] true (q139) rfl rfl ⟨⟨rfl, by first | rfl | fail⟩, by (repeat' (first | exact trivial | refine And.intro ?_ ?_)) <;> first | rfl | exact ren_eq (by first | (simp; done) | fail) (by first | rfl | fail) | fail, by first | simp [plainHf, plainB], by first | rfl | fail, ?_⟩
      conv => whnf
      repeat (first | (refine Exists.intro _ (And.intro rfl ?_); conv => whnf) | (refine And.intro (by first | omega | fail) ?_; conv => whnf) | fail)
      refine ⟨⟨j + 1, hc⟩, by simp only; omega, ?_⟩
      dsimp only
      refine Weak.sel [0, 1, 2, 3, 4, 5, 6, 7] rfl rfl ?_ ?_ rfl rfl
      ·
       (repeat' (first | exact trivial | refine And.intro ?_ ?_ | fail)) <;> first | rfl | fail
      ·
       (repeat' (first | exact trivial | refine And.intro ?_ ?_ | (refine wk_cons ?_ ?_))) <;> first | rfl | exact ren_eq (by first | (simp; done) | fail) (by first | rfl | fail) | fail
     ·
      obtain rfl : j = D.length / 64 := by omega
      have hge : decide (((D.length - 64 * (D.length / 64) : Nat) : Int) ≥ 64) = false := by simp; omega
      rw [hq]
      conv => whnf
      first | refine brF (by exact hge) ?_ | fail
      conv => whnf
      repeat (fail)
      refine ⟨⟨(3, D, 64 * (D.length / 64)), by omega, by simp only; omega, hq2⟩, by simp only; omega, ?_⟩
      dsimp only
      refine Weak.sel [0, 1, 2, 3, 4, 5, 6, 7] rfl rfl ?_ ?_ rfl rfl
      ·
       (repeat' (first | exact trivial | refine And.intro ?_ ?_ | fail)) <;> first | rfl | fail
      ·
       (repeat' (first | exact trivial | refine And.intro ?_ ?_ | (refine wk_cons ?_ ?_))) <;> first | rfl | exact ren_eq (by first | (simp; done) | fail) (by first | rfl | fail) | fail
   ·
    have hq := feed_st_n k h (tx 3) b3
    have hq2 := feed_rest_n (tx 3) b3
    rw [← hS] at hq
    rw [← tx4] at hq hq2
    rw [← hE] at hq hq2 hEl
    have hap : (E.drop o ++ b3).map SV.u8 = List.take ((E.length - o) * 1) (List.drop o (E.map SV.u8)) ++ List.take (b3.length * 1) (List.drop 0 (b3.map SV.u8)) := (cat8 rfl rfl).symm
    have hDl : (E.drop o ++ b3).length = E.length - o + b3.length := by rw [List.length_append, List.length_drop]
    have hel : E.length - o < 64 := by rw [← List.length_drop, hE, hrl]; omega
    have hul : UInt64.ofNat (tx 3).length + u64i (b3.length : Int) = UInt64.ofNat (tx 4).length := by rw [u64_add_i _ _ (by omega), tx4, List.length_append]
    clear hS hrl
    conv => whnf
    first | refine brT (by rfl) ?_ | fail
    conv => whnf
    repeat (first | (refine Exists.intro _ (And.intro rfl ?_); conv => whnf) | (refine And.intro (by first | omega | (simp [ti5]; omega)) ?_; conv => whnf) | fail)
    obtain ⟨D, hD⟩ : ∃ D, D = E.drop o ++ b3 := ⟨_, rfl⟩
    rw [← hD] at hq hq2 hap hDl
    refine loop_rule ttOk mixed (by kernel_rfl) (ι := { j : Nat // 64 * j ≤ D.length }) (fun j => [(0, .p 0 0), (5, .i 64), (6, .sl 7 (64 * j.1) (D.length - 64 * j.1) 1 false), (7, .u64 (UInt64.ofNat (tx 4).length)), (21, .sl 3 0 4 1 fl), (22, .i 4), (23, .i 3)]) (fun j => [some (.ro (mach_n 1 2)), some (.row 23 ((blks_n k S D j.1).map .u32)), some (.ro (k.map .u32)), some (.ro [.sl 4 0 b0.length 1 f0, .slnil, .sl 5 0 b2.length 1 f2, .sl 6 0 b3.length 1 f3]), some (.ro (b0.map .u8)), some (.ro (b2.map .u8)), some (.ro (b3.map .u8)), some (.row 5 (D.map .u8))]) (fun _ => 7 + 1) (fun j => D.length - 64 * j.1) ⟨0, by omega⟩ ?_ ?_
    ·
     have hz := blks_z_n k S D
     have hDn : E.length - o + b3.length = D.length - 64 * 0 := by omega
     dsimp only
     rw [hz]
     refine Weak.sel [0, 1, 2, 3, 4, 5, 6, 8] rfl rfl ?_ ?_ rfl rfl
     ·
      (repeat' (first | exact trivial | refine And.intro ?_ ?_ | fail)) <;> first | exact wk_u64 (by first | exact hul | exact hul.symm | fail) | rfl | exact wk_sl rfl (by first | rfl | fail) (by first | exact hDn.symm | fail) | fail
     ·
      (repeat' (first | exact trivial | exact ren_eq (plainL_u8 _) hap | refine And.intro ?_ ?_ | (refine wk_cons ?_ ?_))) <;> first | rfl | exact ren_eq (by first | (simp; done) | fail) (by first | rfl | fail) | fail
    ·
     rintro ⟨j, hj⟩
     dsimp only
     have hbl := blks_len_n k hsl D j
     by_cases hc : 64 * (j + 1) ≤ D.length
     ·
      have hge : decide (((D.length - 64 * j : Nat) : Int) ≥ 64) = true := by simp; omega
      have hs := blks_s_n k S D j
      have q139 := f139D (blks_n k S D j) k D (64 * j) hbl hk (by omega) false
      rw [← hs] at q139
      conv => whnf
      first | refine brT (by exact hge) ?_ | fail
      conv => whnf
      repeat (first | (refine Exists.intro _ (And.intro rfl ?_); conv => whnf) | (refine And.intro (by first | omega | fail) ?_; conv => whnf) | fail)
      refine ok1_callF [0, 1, 2, 7] [false, true, false, false] true (q139) rfl rfl ⟨⟨rfl, by first | rfl | fail⟩, by (repeat' (first | exact trivial | refine And.intro ?_ ?_)) <;> first | rfl | exact ren_eq (by first | (simp; done) | fail) (by first | rfl | fail) | fail, by first | simp [plainHf, plainB], by first | rfl | fail, ?_⟩
      conv => whnf
      repeat (first | (refine Exists.intro _ (And.intro rfl ?_); conv => whnf) | (refine And.intro (by first | omega | fail) ?_; conv => whnf) | fail)
      refine ⟨⟨j + 1, hc⟩, by simp only; omega, ?_⟩
      dsimp only
      refine Weak.sel [0, 1, 2, 3, 4, 5, 6, 7] rfl rfl ?_ ?_ rfl rfl
      ·
       (repeat' (first | exact trivial | refine And.intro ?_ ?_ | fail)) <;> first | rfl | fail
      ·
       (repeat' (first | exact trivial | refine And.intro ?_ ?_ | (refine wk_cons ?_ ?_))) <;> first | rfl | exact ren_eq (by first | (simp; done) | fail) (by first | rfl | fail) | fail
     ·
      obtain rfl : j = D.length / 64 := by omega
      have hge : decide (((D.length - 64 * (D.length / 64) : Nat) : Int) ≥ 64) = false := by simp; omega
      rw [hq]
      conv => whnf
      first | refine brF (by exact hge) ?_ | fail
      conv => whnf
      repeat (fail)
      refine ⟨⟨(4, D, 64 * (D.length / 64)), by omega, by simp only; omega, hq2⟩, by simp only; omega, ?_⟩
      dsimp only
      refine Weak.sel [0, 1, 2, 3, 4, 5, 6, 7] rfl rfl ?_ ?_ rfl rfl
      ·
       (repeat' (first | exact trivial | refine And.intro ?_ ?_ | fail)) <;> first | rfl | fail
      ·
       (repeat' (first | exact trivial | refine And.intro ?_ ?_ | (refine wk_cons ?_ ?_))) <;> first | rfl | exact ren_eq (by first | (simp; done) | fail) (by first | rfl | fail) | fail
  ·
   obtain rfl : i = 4 := by omega
   obtain ⟨n, hn⟩ : ∃ n, n = E.length - o := ⟨_, rfl⟩
   have hnE : o + n = E.length := by omega
   rw [← hn]
   have hcat : (rest_n (tx 4) ++ [128]).map SV.u8 = List.take (n * 1) (List.drop o (E.map SV.u8)) ++ List.take (1 * 1) (List.drop 0 [SV.u8 128]) := by rw [← hE]; exact (cat8 (b := [128]) hn rfl).symm
   have hdd : decide (((n : Nat) : Int).toNat = ((n : Nat) : Int).toNat) = true := by simp
   conv => whnf
   first | refine brF (by rfl) ?_ | fail
   conv => whnf
   repeat (first | (refine Exists.intro _ (And.intro rfl ?_); conv => whnf) | (refine And.intro (by first | omega | fail) ?_; conv => whnf) | fail)
   rw [hdd]
   rw [Int.toNat_natCast]
   have hnl : n = (rest_n (tx 4)).length := by rw [hn, ← hE, List.length_drop]
   have hn64 : n < 64 := by rw [hnl, hrl]; omega
   have hpz := pz_rest_n (tx 4)
   rw [← hnl] at hpz
   have hpl : pz_n n < 64 := by unfold pz_n; exact Nat.mod_lt _ (by decide)
   conv => whnf
   refine And.intro ⟨by show _ ≤ (E.map SV.u8).length; rw [List.length_map]; omega, by decide, by show _ * 1 ≤ _; omega, by decide⟩ ?_
   conv => whnf
   repeat (fail)
   refine loop_rule ttOk mixed (by kernel_rfl) (ι := { j : Nat // j ≤ pz_n n }) (fun j => [(0, .p 0 0), (5, .i 64), (6, .sl 7 0 (n + 1 + j.1) 1 false), (7, .u64 (UInt64.ofNat (tx 4).length))]) (fun j => [some (.ro (mach_n 1 2)), some (.row 23 (S.map .u32)), some (.ro (k.map .u32)), some (.ro [.sl 4 0 b0.length 1 f0, .slnil, .sl 5 0 b2.length 1 f2, .sl 6 0 b3.length 1 f3]), some (.ro (b0.map .u8)), some (.ro (b2.map .u8)), some (.ro (b3.map .u8)), some (.row 5 ((rest_n (tx 4) ++ [128] ++ List.replicate j.1 0).map .u8))]) (fun _ => 7 + 1) (fun j => pz_n n - j.1) ⟨0, by omega⟩ ?_ ?_
   ·
    have hz : rest_n (tx 4) ++ [128] ++ List.replicate 0 0 = rest_n (tx 4) ++ [128] := List.append_nil _
    dsimp only
    rw [hz]
    refine Weak.sel [0, 1, 2, 3, 4, 5, 6, 7 + 2] rfl rfl ?_ ?_ rfl rfl
    ·
     (repeat' (first | exact trivial | refine And.intro ?_ ?_ | fail)) <;> first | rfl | fail
    ·
     (repeat' (first | exact trivial | exact ren_eq (plainL_u8 _) hcat | refine And.intro ?_ ?_ | (refine wk_cons ?_ ?_))) <;> first | rfl | exact ren_eq (by first | (simp; done) | fail) (by first | rfl | fail) | fail
   ·
    rintro ⟨j, hj⟩
    dsimp only
    obtain ⟨Y, hY⟩ : ∃ Y, Y = rest_n (tx 4) ++ [128] ++ List.replicate j 0 := ⟨_, rfl⟩
    have hYl : Y.length = n + 1 + j := by rw [hY, List.length_append, List.length_append, ← hnl, List.length_replicate]; rfl
    have hYs : rest_n (tx 4) ++ [128] ++ List.replicate (j + 1) 0 = Y ++ [0] := by rw [hY, List.replicate_succ', List.append_assoc]; simp
    by_cases hj2 : j < pz_n n
    ·
     have hno := padz_no_n hj2
     have hcd : (((w64 (((n + 1 + j : Nat) : Int) + w64 (2 * 4))).tmod 64) != 0) = true := by
      have e : w64 (((n + 1 + j : Nat) : Int) + w64 (2 * 4)) = ((n + 1 + j + 8 : Nat) : Int) := by simp only [w64_eq]; omega
      rw [e, show (((n + 1 + j + 8 : Nat) : Int)).tmod 64 = (((n + 1 + j + 8) % 64 : Nat) : Int) from rfl]
      simp; omega
     rw [← hY]
     conv => whnf
     repeat (first | (refine Exists.intro _ (And.intro rfl ?_); conv => whnf) | fail)
     first | refine brT (by exact hcd) ?_ | fail
     conv => whnf
     repeat (first | (refine Exists.intro _ (And.intro rfl ?_); conv => whnf) | (refine And.intro (by first | omega | (simp [ti5]; omega)) ?_; conv => whnf) | fail)
     have hap2 : (Y ++ [0]).map SV.u8 = List.take ((n + 1 + j) * 1) (List.drop 0 (Y.map SV.u8)) ++ List.take (1 * 1) (List.drop 0 [SV.u8 0]) := (cat8 (o := 0) (n := n + 1 + j) (E := Y) (b := [0]) (by omega) rfl).symm
     refine ⟨⟨j + 1, by omega⟩, by simp only; omega, ?_⟩
     dsimp only
     rw [hYs]
     refine Weak.sel [0, 1, 2, 3, 4, 5, 6, 7 + 2] rfl rfl ?_ ?_ rfl rfl
     ·
      (repeat' (first | exact trivial | refine And.intro ?_ ?_ | fail)) <;> first | rfl | fail
     ·
      (repeat' (first | exact trivial | exact ren_eq (plainL_u8 _) hap2 | refine And.intro ?_ ?_ | (refine wk_cons ?_ ?_))) <;> first | rfl | exact ren_eq (by first | (simp; done) | fail) (by first | rfl | fail) | fail
    ·
     obtain rfl : j = pz_n n := by omega
     have hyes := padz_yes_n n
     have hcd : (((w64 (((n + 1 + pz_n n : Nat) : Int) + w64 (2 * 4))).tmod 64) != 0) = false := by
      have e : w64 (((n + 1 + pz_n n : Nat) : Int) + w64 (2 * 4)) = ((n + 1 + pz_n n + 8 : Nat) : Int) := by simp only [w64_eq]; omega
      rw [e, show (((n + 1 + pz_n n + 8 : Nat) : Int)).tmod 64 = (((n + 1 + pz_n n + 8) % 64 : Nat) : Int) from rfl, hyes]
      rfl
     rw [← hY]
     conv => whnf
     repeat (first | (refine Exists.intro _ (And.intro rfl ?_); conv => whnf) | fail)
     first | refine brF (by exact hcd) ?_ | fail
     conv => whnf
     repeat (first | (refine Exists.intro _ (And.intro rfl ?_); conv => whnf) | (refine And.intro ⟨by first | decide | fail, by first | decide | fail⟩ ?_; conv => whnf) | fail)
     obtain ⟨N, hN⟩ : ∃ N, N = (tx 4).length := ⟨_, rfl⟩
     rw [← hN]
     refine loop_rule ttOk mixed (by kernel_rfl) (ι := { i : Nat // i ≤ 8 }) (fun i => [(0, .p 0 0), (5, .i 64), (6, .sl 7 0 (n + 1 + pz_n n) 1 false), (7, .u64 (UInt64.ofNat N)), (10, .sl (7 + 1) 0 8 1 true), (76, .i (i.1 : Int))]) (fun i => [some (.ro (mach_n 1 2)), some (.row 23 (S.map .u32)), some (.ro (k.map .u32)), some (.ro [.sl 4 0 b0.length 1 f0, .slnil, .sl 5 0 b2.length 1 f2, .sl 6 0 b3.length 1 f3]), some (.ro (b0.map .u8)), some (.ro (b2.map .u8)), some (.ro (b3.map .u8)), some (.row 5 (Y.map .u8)), some (.row 5 ((lset_n N i.1).map .u8))]) (fun _ => 7 + 2) (fun i => 8 - i.1) ⟨0, by omega⟩ ?_ ?_
     ·
      have hz := lset_z_n N
      dsimp only
      rw [hz]
      refine Weak.sel [0, 1, 2, 3, 4, 5, 6, 7, 7 + 1] rfl rfl ?_ ?_ rfl rfl
      ·
       (repeat' (first | exact trivial | refine And.intro ?_ ?_ | fail)) <;> first | rfl | fail
      ·
       (repeat' (first | exact trivial | exact ren_z8 | refine And.intro ?_ ?_ | (refine wk_cons ?_ ?_))) <;> first | rfl | exact ren_eq (by first | (simp; done) | fail) (by first | rfl | fail) | fail
     ·
      rintro ⟨i, hi⟩
      dsimp only
      have hll := lset_len_n N i
      by_cases hi8 : i < 8
      ·
       have hlt : decide ((i : Int) < 8) = true := by simp; omega
       have hp := wp1i i (by omega)
       have h8 : w64 (8 * (i : Int)) = ((8 * i : Nat) : Int) := by simp only [w64_eq]; omega
       have h7 : w64 (w64 (8 - 1) - (i : Int)) = ((7 - i : Nat) : Int) := by simp only [w64_eq]; omega
       have hs := lset_s_n N i
       conv => whnf
       first | refine brT (by exact hlt) ?_ | fail
       conv => whnf
       repeat (fail)
       refine ⟨_, mshr_64 h8, ?_⟩
       conv => whnf
       repeat (first | (refine Exists.intro _ (And.intro (sput_m8 (i := 7 - i) (by first | rfl | omega | fail)) ?_); conv => whnf) | (refine Exists.intro _ (And.intro (idx_i (m := 7 - i) (by first | rfl | omega | fail)) ?_); conv => whnf) | (refine And.intro (by first | omega | (simp; omega) | fail) ?_; conv => whnf) | fail)
       refine ⟨⟨i + 1, by omega⟩, by simp only; omega, ?_⟩
       dsimp only
       rw [hs]
       refine Weak.sel [0, 1, 2, 3, 4, 5, 6, 7, 7 + 1] rfl rfl ?_ ?_ rfl rfl
       ·
        (repeat' (first | exact trivial | refine And.intro ?_ ?_ | fail)) <;> first | exact wk_i (by first | exact hp | exact hp.symm | fail) | rfl | fail
       ·
        (repeat' (first | exact trivial | refine And.intro ?_ ?_ | (refine wk_cons ?_ ?_))) <;> first | rfl | exact ren_eq (by first | (simp; done) | fail) (by first | rfl | fail) | exact ren_m8 (by first | rfl | fail) | fail
      ·
       obtain rfl : i = 8 := by omega
       have hap3 : (Y ++ lset_n N 8).map SV.u8 = List.take ((n + 1 + pz_n n) * 1) (List.drop 0 (Y.map SV.u8)) ++ List.take (8 * 1) (List.drop 0 ((lset_n N 8).map SV.u8)) := (cat8 (o := 0) (n := n + 1 + pz_n n) (E := Y) (b := lset_n N 8) (by omega) hll.symm).symm
       obtain ⟨D, hD⟩ : ∃ D, D = Y ++ lset_n N 8 := ⟨_, rfl⟩
       have hDl : D.length = n + 1 + pz_n n + 8 := by rw [hD, List.length_append, hYl, hll]
       have hDe : D = last_n (tx 4) := by rw [hD, hY, hpz, hN]; exact last_e_n _
       have hD64 := last_len_n (tx 4)
       have hfin := last_st_n k h (tx 4)
       rw [← hDe] at hD64 hfin
       rw [← hS] at hfin
       rw [← hD] at hap3
       conv => whnf
       first | refine brF (by rfl) ?_ | fail
       conv => whnf
       repeat (first | (refine And.intro (by first | omega | (simp [ti5]; omega)) ?_; conv => whnf) | fail)
       refine loop_rule ttOk mixed (by kernel_rfl) (ι := { j : Nat // 64 * j ≤ D.length }) (fun j => [(0, .p 0 0), (5, .i 64), (6, .sl 7 (64 * j.1) (D.length - 64 * j.1) 1 false)]) (fun j => [some (.ro (mach_n 1 2)), some (.row 23 ((blks_n k S D j.1).map .u32)), some (.ro (k.map .u32)), some (.ro [.sl 4 0 b0.length 1 f0, .slnil, .sl 5 0 b2.length 1 f2, .sl 6 0 b3.length 1 f3]), some (.ro (b0.map .u8)), some (.ro (b2.map .u8)), some (.ro (b3.map .u8)), some (.row 5 (D.map .u8))]) (fun _ => 7 + 1) (fun j => D.length - 64 * j.1) ⟨0, by omega⟩ ?_ ?_
       ·
        have hz := blks_z_n k S D
        have hDn : n + 1 + pz_n n + 8 = D.length - 64 * 0 := by omega
        dsimp only
        rw [hz]
        refine Weak.sel [0, 1, 2, 3, 4, 5, 6, 7 + 2] rfl rfl ?_ ?_ rfl rfl
        ·
         (repeat' (first | exact trivial | refine And.intro ?_ ?_ | fail)) <;> first | rfl | exact wk_sl rfl (by first | rfl | fail) (by first | exact hDn.symm | fail) | fail
        ·
         (repeat' (first | exact trivial | exact ren_eq (plainL_u8 _) hap3 | refine And.intro ?_ ?_ | (refine wk_cons ?_ ?_))) <;> first | rfl | exact ren_eq (by first | (simp; done) | fail) (by first | rfl | fail) | fail
       ·
        rintro ⟨j, hj⟩
        dsimp only
        have hbl := blks_len_n k hsl D j
        by_cases hc : 64 * (j + 1) ≤ D.length
        ·
         have hge : decide (((D.length - 64 * j : Nat) : Int) > 0) = true := by simp; omega
         have hs := blks_s_n k S D j
         have q139 := f139D (blks_n k S D j) k D (64 * j) hbl hk (by omega) false
         rw [← hs] at q139
         conv => whnf
         first | refine brT (by exact hge) ?_ | fail
         conv => whnf
         repeat (first | (refine Exists.intro _ (And.intro rfl ?_); conv => whnf) | (refine And.intro (by first | omega | fail) ?_; conv => whnf) | fail)
         refine ok1_callF [0, 1, 2, 7] [false, true, false, false] true (q139) rfl rfl ⟨⟨rfl, by first | rfl | fail⟩, by (repeat' (first | exact trivial | refine And.intro ?_ ?_)) <;> first | rfl | exact ren_eq (by first | (simp; done) | fail) (by first | rfl | fail) | fail, by first | simp [plainHf, plainB], by first | rfl | fail, ?_⟩
         conv => whnf
         repeat (first | (refine Exists.intro _ (And.intro rfl ?_); conv => whnf) | (refine And.intro (by first | omega | fail) ?_; conv => whnf) | fail)
         refine ⟨⟨j + 1, hc⟩, by simp only; omega, ?_⟩
         dsimp only
         refine Weak.sel [0, 1, 2, 3, 4, 5, 6, 7] rfl rfl ?_ ?_ rfl rfl
         ·
          (repeat' (first | exact trivial | refine And.intro ?_ ?_ | fail)) <;> first | rfl | fail
         ·
          (repeat' (first | exact trivial | refine And.intro ?_ ?_ | (refine wk_cons ?_ ?_))) <;> first | rfl | exact ren_eq (by first | (simp; done) | fail) (by first | rfl | fail) | fail
        ·
         obtain rfl : j = D.length / 64 := by omega
         have hge : decide (((D.length - 64 * (D.length / 64) : Nat) : Int) > 0) = false := by simp; omega
         obtain ⟨H, hH⟩ : ∃ H, H = blks_n k S D (D.length / 64) := ⟨_, rfl⟩
         rw [← hH] at hbl hfin ⊢
         conv => whnf
         first | refine brF (by exact hge) ?_ | fail
         conv => whnf
         repeat (first | (refine Exists.intro _ (And.intro rfl ?_); conv => whnf) | fail)
         refine SWp.weak (Weak.virt 12 5 1 rfl) ?_
         refine loop_rule ttOk mixed (by kernel_rfl) (ι := { i : Nat // i ≤ 8 }) (fun i => [(0, .p 0 0), (12, .sl 7 0 (4 * i.1) 1 false), (110, .sl 1 0 8 1 false), (111, .i 8), (112, .i (i.1 : Int))]) (fun i => [some (.ro (mach_n 1 2)), some (.row 23 (H.map .u32)), some (.ro (k.map .u32)), some (.ro [.sl 4 0 b0.length 1 f0, .slnil, .sl 5 0 b2.length 1 f2, .sl 6 0 b3.length 1 f3]), some (.ro (b0.map .u8)), some (.ro (b2.map .u8)), some (.ro (b3.map .u8)), some (.row 5 ((outl_n H (4 * i.1)).map .u8))]) (fun _ => 7 + 1) (fun i => 8 - i.1) ⟨0, by omega⟩ ?_ ?_
         ·
          have hz := outl_z_n H
          dsimp only
          rw [hz]
          refine Weak.sel [0, 1, 2, 3, 4, 5, 6, 7 + 1] rfl rfl ?_ ?_ rfl rfl
          ·
           (repeat' (first | exact trivial | refine And.intro ?_ ?_ | fail)) <;> first | rfl | fail
          ·
           (repeat' (first | exact trivial | refine And.intro ?_ ?_ | (refine wk_cons ?_ ?_))) <;> first | rfl | exact ren_eq (by first | (simp; done) | fail) (by first | rfl | fail) | fail
         ·
          rintro ⟨i, hi⟩
          dsimp only
          by_cases hi8 : i < 8
          ·
           have hlt : decide ((i : Int) < 8) = true := by simp; omega
           have hp := wp1i i (by omega)
           conv => whnf
           first | refine brT (by exact hlt) ?_ | fail
           conv => whnf
           repeat (first | (refine Exists.intro _ (And.intro (sload_u32 (i := i) (by first | rfl | omega | fail) (by first | omega | fail)) ?_); conv => whnf) | (refine Exists.intro _ (And.intro (idx_i (m := i) (by first | rfl | fail)) ?_); conv => whnf) | (refine Exists.intro _ (And.intro rfl ?_); conv => whnf) | (refine And.intro (by first | omega | fail) ?_; conv => whnf) | fail)
           refine loop_rule ttOk mixed (by kernel_rfl) (ι := { m : Nat // m ≤ 4 }) (fun m => [(0, .p 0 0), (12, .sl 7 0 (4 * i + m.1) 1 false), (14, .u32 (H.getD i 0)), (15, .i (3 - (m.1 : Int))), (110, .sl 1 0 8 1 false), (111, .i 8), (112, .i (i : Int))]) (fun m => [some (.ro (mach_n 1 2)), some (.row 23 (H.map .u32)), some (.ro (k.map .u32)), some (.ro [.sl 4 0 b0.length 1 f0, .slnil, .sl 5 0 b2.length 1 f2, .sl 6 0 b3.length 1 f3]), some (.ro (b0.map .u8)), some (.ro (b2.map .u8)), some (.ro (b3.map .u8)), some (.row 5 ((outl_n H (4 * i + m.1)).map .u8))]) (fun _ => 7 + 1) (fun m => 4 - m.1) ⟨0, by omega⟩ ?_ ?_
           ·
            refine Weak.sel [0, 1, 2, 3, 4, 5, 6, 7] rfl rfl ?_ ?_ rfl rfl
            ·
             (repeat' (first | exact trivial | refine And.intro ?_ ?_ | fail)) <;> first | rfl | fail
            ·
             (repeat' (first | exact trivial | refine And.intro ?_ ?_ | (refine wk_cons ?_ ?_))) <;> first | rfl | exact ren_eq (by first | (simp; done) | fail) (by first | rfl | fail) | fail
           ·
            rintro ⟨m, hm⟩
            dsimp only
            have hol := outl_len_n H (4 * i + m)
            by_cases hm4 : m < 4
            ·
             have hge : decide ((3 - (m : Int)) ≥ 0) = true := by simp; omega
             have h8 : w64 (8 * (3 - (m : Int))) = ((8 * (3 - m) : Nat) : Int) := by simp only [w64_eq]; omega
             have hp2 : w64 (3 - (m : Int) - 1) = 3 - ((m + 1 : Nat) : Int) := by simp only [w64_eq]; omega
             have hs := outl_s_n H i m hm4
             obtain ⟨Z, hZ⟩ : ∃ Z, Z = outl_n H (4 * i + m) := ⟨_, rfl⟩
             rw [← hZ] at hol hs ⊢
             have hap4 : (Z ++ [(shr32 (H.getD i 0) (8 * (3 - m))).toUInt8]).map SV.u8 = List.take ((4 * i + m) * 1) (List.drop 0 (Z.map SV.u8)) ++ List.take (1 * 1) (List.drop 0 [SV.u8 (shr32 (H.getD i 0) (8 * (3 - m))).toUInt8]) := (cat8 (o := 0) (n := 4 * i + m) (E := Z) (b := [(shr32 (H.getD i 0) (8 * (3 - m))).toUInt8]) (by omega) rfl).symm
             conv => whnf
             first | refine brT (by exact hge) ?_ | fail
             conv => whnf
             repeat (fail)
             refine ⟨_, mshr_32 h8, ?_⟩
             conv => whnf
             repeat (first | (refine Exists.intro _ (And.intro rfl ?_); conv => whnf) | (refine And.intro (by first | omega | (simp [ti5]; omega)) ?_; conv => whnf) | fail)
             refine ⟨⟨m + 1, by omega⟩, by simp only; omega, ?_⟩
             dsimp only
             rw [hs]
             refine Weak.sel [0, 1, 2, 3, 4, 5, 6, 7 + 2] rfl rfl ?_ ?_ rfl rfl
             ·
              (repeat' (first | exact trivial | refine And.intro ?_ ?_ | fail)) <;> first | exact wk_i (by first | exact hp2 | exact hp2.symm | fail) | rfl | fail
             ·
              (repeat' (first | exact trivial | exact ren_eq (plainL_u8 _) hap4 | refine And.intro ?_ ?_ | (refine wk_cons ?_ ?_))) <;> first | rfl | exact ren_eq (by first | (simp; done) | fail) (by first | rfl | fail) | fail
            ·
             obtain rfl : m = 4 := by omega
             conv => whnf
             first | refine brF (by rfl) ?_ | fail
             conv => whnf
             repeat (fail)
             refine ⟨⟨i + 1, by omega⟩, by simp only; omega, ?_⟩
             dsimp only
             rw [show 4 * (i + 1) = 4 * i + 4 by omega]
             refine Weak.sel [0, 1, 2, 3, 4, 5, 6, 7] rfl rfl ?_ ?_ rfl rfl
             ·
              (repeat' (first | exact trivial | refine And.intro ?_ ?_ | fail)) <;> first | exact wk_i (by first | exact hp | exact hp.symm | fail) | rfl | fail
             ·
              (repeat' (first | exact trivial | refine And.intro ?_ ?_ | (refine wk_cons ?_ ?_))) <;> first | rfl | exact ren_eq (by first | (simp; done) | fail) (by first | rfl | fail) | fail
          ·
           obtain rfl : i = 8 := by omega
           rw [outb_e_n] at hfin
           rw [← hfin]
           conv => whnf
           first | refine brF (by rfl) ?_ | fail
           conv => whnf
           refine ⟨[0, 1, 2, 3, 4, 5, 6, 7], ?_, rfl, rfl, ?_, rfl⟩
           ·
            (repeat' (fail)) <;> first | rfl | fail
           ·
            (repeat' (first | exact trivial | refine And.intro ?_ ?_ | (refine wk_cons ?_ ?_))) <;> first | rfl | exact ren_eq (by first | (simp; done) | fail) (by first | rfl | fail) | fail
end Go.Sh
