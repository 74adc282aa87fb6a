/- Merged for a claim: R7, Sh28, M0, Sh29, Sh31, M7, M5w, M5, Sh32, Sh33, Sh34, Sh35, Sh18, Sh20, Sh36, M5g, M5gw, M5h. -/
import Derived.Laws.Externs
import Derived.Lib.MakeNoZero
import Derived.MapKept
import Derived.Test.YtannakicfkjhbaaRows
import Derived.ProofKit
import Derived.OpenShut
import Derived.JoinedCond
import Derived.Carry
import Derived.Test.YtannakicfkjhbaaMt3
set_option linter.unusedSimpArgs false
set_option linter.unusedVariables false
namespace Go.Sh
open Go.Proofs
set_option maxHeartbeats 4000000
set_option maxRecDepth 100000
theorem ix3 (a c m : Nat) (h : a + c + m < 1000000000000000000) : w64 (w64 ((a : Int) + (c : Int)) + (m : Int)) = ((a + (c + m) : Nat) : Int) := by
 rw [w64_of (n := (a : Int) + (c : Int)) (by omega) (by omega), w64_of (by omega) (by omega)]; omega
def vf : Nat → Bool
 | 0 => false
 | _ + 1 => true
theorem rwp (i : Nat) (h : i < 100000) : w64 ((i : Int) + 1) = ((i + 1 : Nat) : Int) := by simp only [w64_eq]; omega
theorem padw_len_n (T : List UInt8) : (padw_n T).length = 64 * ((padw_n T).length / 64) := by
 have h : (padw_n T).length = T.length + 1 + pz_n T.length + 8 := by
  unfold padw_n lenb_n
  rw [List.length_append, List.length_append, List.length_append, lset_len_n, List.length_replicate]; rfl
 have h2 := padz_yes_n T.length
 omega
theorem rws_s_n (b : List UInt8) (t : Nat) : (List.range (t + 1)).map (fun s => emb_n (wf_n b s 4)) = (List.range t).map (fun s => emb_n (wf_n b s 4)) ++ [emb_n (wf_n b t 4)] := by rw [List.range_succ, List.map_append]; rfl
theorem rws_16_n (b : List UInt8) : (List.range 16).map (fun s => emb_n (wf_n b s 4)) = emL_n ((wex_n b 0).take (0 + 16)) := by
 unfold emL_n
 have hl := win_len_n b 64
 apply List.ext_getElem
 ·
  simp [wex_len_n]
 ·
  intro i h1 h2
  have hi : i < 16 := by simpa using h1
  rw [List.getElem_map, List.getElem_map, List.getElem_range, List.getElem_take]
  have e := win_word_n b i hi
  rw [← e, List.getD_eq_getElem?_getD, List.getElem?_eq_getElem (by omega)]; rfl
theorem hfil_n : fil 8 8 (fun j => firstL.getD j 0 / down_n) (fun j => firstL.getD j 0) = emL_n h0_n := by
 rw [fil_full, h0e_n]; rfl
theorem hfil0_n : fil 8 0 (fun j => firstL.getD j 0 / down_n) (fun j => firstL.getD j 0) = firstL := rfl
theorem blks0_n (D : List UInt8) : blks_n k0_n h0_n D 0 = h0_n := rfl
theorem blkss_n (D : List UInt8) (j : Nat) : blks_n k0_n h0_n D (j + 1) = comp_n k0_n (blks_n k0_n h0_n D j) ((D.drop (64 * j)).take 64) := rfl
theorem wfz_n (b : List UInt8) (t : Nat) : emb_n (wf_n b t 0) = UInt64.ofNat (Int.toNat 0) := by unfold wf_n emb_n; decide
theorem emL_get_n (x : List UInt32) (i : Nat) (h : i < x.length) : (emL_n x).getD i 0 = emb_n (x.getD i 0) := by
 unfold emL_n
 rw [List.getD_eq_getElem?_getD, List.getD_eq_getElem?_getD, List.getElem?_map, List.getElem?_eq_getElem h]; rfl
theorem rout_z_n (H : List UInt32) : outl_n H (4 * 0) = [] := rfl
theorem rout_s_n (H : List UInt32) (i m : Nat) (hm : m < 4) : outl_n H (4 * i + (m + 1)) = outl_n H (4 * i + m) ++ [(shr32 (H.getD i 0) (8 * (4 - 1 - m))).toUInt8] := by
 show outl_n H (4 * i + m) ++ [(shr32 (H.getD ((4 * i + m) / 4) 0) (8 * (4 - 1 - (4 * i + m) % 4))).toUInt8] = _
 rw [show (4 * i + m) / 4 = i by omega, show 4 - 1 - (4 * i + m) % 4 = 4 - 1 - m by omega]
theorem rhash_n (T : List UInt8) : outl_n (blks_n k0_n h0_n (padw_n T) ((padw_n T).length / 64)) (4 * 8) = hash_n k0_n h0_n T := rfl
theorem emb_u8_n (x : UInt32) : (emb_n x).toUInt8 = x.toUInt8 := by
 apply UInt8.toNat_inj.1
 have e0 : (emb_n x).toNat = x.toNat := by first | exact emb_n_nat x | fail
 rw [UInt64.toNat_toUInt8, e0]
 first | exact (UInt32.toNat_toUInt8 x).symm | fail
theorem tix_n : ∀ t : Nat, t < 16 → w64 (Int.tdiv (w64 ((t : Int) * 32)) 8) = ((4 * t : Nat) : Int) := by decide +kernel
section
attribute [local irreducible] padw_n blks_n hash_n outb_n outl_n wex_n wf_n rnds_n addw_n comp_n firstL consL down_n emb_n h0_n k0_n
theorem f133_n (T : List UInt8) (hT : T.length < 100000000000000) (f : Bool) : SCall Try.prog 133 [.sl 0 0 T.length 1 f, .i 32] [some (.ro (T.map .u8))] (.sl 1 0 32 1 false) [some (.ro (T.map .u8)), some (.row 5 ((hash_n k0_n h0_n T).map .u8))] := by
 have qp := f147 (64 - 32) (by decide)
 have hdn : UInt64.ofNat (2 ^ (64 - 32)) = down_n := by unfold down_n; rfl
 rw [hdn] at qp
 have hd1 : UInt64.ofNat (Int.toNat 1) = down_w := by unfold down_w; rfl
 have q8 := f148_n T hT f
 have hf8 := hfil_n
 have hf0 := hfil0_n
 have hfl : firstL.length = 8 := by unfold firstL; rfl
 have hcl : consL.length = 80 := by unfold consL; rfl
 refine scall_of ttOk (by kernel_rfl : Try.prog.funcs[133]? = some Try.f133) rfl rfl rfl ?_
 try simp only [List.length_cons, List.length_nil, Nat.zero_add, Nat.reduceAdd]
 refine sw_ok ttOk mixed (by kernel_rfl) ?_
 conv => whnf
 repeat (first | (refine brT rfl ?_; conv => whnf) | fail)
 refine ok1_callF [] [true] false (f145) rfl rfl ⟨⟨rfl, by first | rfl | fail⟩, trivial, by first | simp [plainHf, plainB], by first | rfl | fail, ?_⟩
 conv => whnf
 repeat (fail)
 refine ok1_callF [] [true] false (f146) rfl rfl ⟨⟨rfl, by first | rfl | fail⟩, trivial, by first | simp [plainHf, plainB], by first | rfl | fail, ?_⟩
 conv => whnf
 repeat (fail)
 refine ok1_callF [] [] true (qp) rfl rfl ⟨⟨rfl, by first | rfl | fail⟩, trivial, by first | rfl | fail, by first | rfl | fail, ?_⟩
 conv => whnf
 repeat (first | (refine brF rfl ?_; conv => whnf) | fail)
 try rw [hd1]
 refine loop_rule ttOk mixed (by kernel_rfl) (ι := { i : Nat // i ≤ 8 }) (fun i => [(0, .sl 0 0 T.length 1 f), (1, .i 32), (5, .i 64), (6, .sl 1 0 8 1 true), (7, .sl 2 0 80 1 true), (8, .u64 down_n), (9, .i (i.1 : Int))]) (fun i => [some (.ro (T.map .u8)), some (.row 25 ((fil 8 i.1 (fun j => firstL.getD j 0 / down_n) (fun j => firstL.getD j 0)).map .u64)), some (.ro (consL.map .u64))]) (fun _ => 3) (fun i => 8 - i.1) ⟨0, by omega⟩ ?_ ?_
 ·
  dsimp only
  rw [hf0]
  refine Weak.sel [0, 1, 2] rfl rfl ?_ ?_ rfl rfl
  ·
   (repeat' (first | exact trivial | refine And.intro ?_ ?_ | fail)) <;> first | rfl | fail
  ·
   (repeat' (first | exact trivial | refine And.intro ?_ ?_ | fail)) <;> first | rfl | exact ren_eq (by first | (simp; done) | fail) (by first | rfl | fail) | fail
 ·
  rintro ⟨i, hi⟩
  dsimp only
  have hfln := fil_len 8 i (fun j => firstL.getD j 0 / down_n) (fun j => firstL.getD j 0)
  by_cases hi8 : i < 8
  ·
   have hlt : decide ((i : Int) < 8) = true := by simp; omega
   have hp := rwp i (by omega)
   have hx : (fil 8 i (fun j => firstL.getD j 0 / down_n) (fun j => firstL.getD j 0)).getD i 0 / down_n = (fun j => firstL.getD j 0 / down_n) i := by
    rw [fil_getD hi8, if_neg (by omega)]
   have hs := fil_setx (f := fun j => firstL.getD j 0 / down_n) (g := fun j => firstL.getD j 0) hi8 hx
   have hdz : down_n ≠ 0 := by unfold down_n; decide
   conv => whnf
   first | refine brT (by exact hlt) ?_ | fail
   conv => whnf
   repeat (first | (refine Exists.intro _ (And.intro (sload_u64 (i := i) (by first | rfl | omega | fail) (by first | omega | fail)) ?_); conv => whnf) | (refine Exists.intro _ (And.intro (idx_i (m := i) (by first | rfl | fail)) ?_); conv => whnf) | (refine And.intro (by first | omega | fail) ?_; conv => whnf) | fail)
   refine ⟨_, sarith_quo64b hdz, ?_⟩
   conv => whnf
   repeat (first | (refine Exists.intro _ (And.intro (sput_m64 (i := i) (by first | rfl | omega | fail)) ?_); conv => whnf) | (refine Exists.intro _ (And.intro (idx_i (m := i) (by first | rfl | fail)) ?_); conv => whnf) | (refine And.intro (by first | omega | fail) ?_; conv => whnf) | (refine And.intro ⟨by first | exact @rfl Nat _ | fail, by first | (simp only [hfln, ti5_sz, ti25_sz, List.length_map, List.length_set]; omega) | fail⟩ ?_; conv => whnf) | fail)
   refine ⟨⟨i + 1, by omega⟩, by simp only; omega, ?_⟩
   dsimp only
   rw [← hs]
   refine Weak.sel [0, 1, 2] rfl rfl ?_ ?_ rfl rfl
   ·
    (repeat' (first | exact trivial | refine And.intro ?_ ?_ | fail)) <;> first | exact wk_i (by first | exact hp | exact hp.symm | fail) | rfl | fail
   ·
    (repeat' (first | exact trivial | refine And.intro ?_ ?_ | fail)) <;> first | rfl | exact ren_eq (by first | (simp; done) | fail) (by first | rfl | fail) | exact ren_m64 (by first | rfl | fail) | fail
  ·
   obtain rfl : i = 8 := by omega
   rw [hf8]
   conv => whnf
   first | refine brF (by rfl) ?_ | fail
   conv => whnf
   repeat (fail)
   refine ok1_callF [0] [false, true] false (q8) rfl rfl ⟨⟨rfl, by first | rfl | fail⟩, by (repeat' (first | exact trivial | refine And.intro ?_ ?_)) <;> first | exact ren_eq (by first | (simp; done) | fail) (by first | rfl | fail) | fail, by first | simp [plainHf, plainB], by first | rfl | fail, ?_⟩
   conv => whnf
   repeat (fail)
   have hDl := padw_len_n T
   obtain ⟨D, hD⟩ : ∃ D, D = padw_n T := ⟨_, rfl⟩
   rw [← hD] at hDl ⊢
   have hDb : D.length < 200000000000000 := by
    rw [hD]
    have h : (padw_n T).length = T.length + 1 + pz_n T.length + 8 := by
     unfold padw_n lenb_n
     rw [List.length_append, List.length_append, List.length_append, lset_len_n, List.length_replicate]; rfl
    have hpl : pz_n T.length < 64 := by unfold pz_n; exact Nat.mod_lt _ (by decide)
    omega
   refine loop_rule ttOk mixed (by kernel_rfl) (ι := { j : Nat // 64 * j ≤ D.length }) (fun j => [(1, .i 32), (5, .i 64), (6, .sl 1 0 8 1 true), (7, .sl 2 0 80 1 true), (8, .u64 down_n), (10, .sl 3 0 D.length 1 false), (11, .i ((64 * j.1 : Nat) : Int))]) (fun j => [some (.ro (T.map .u8)), some (.row 25 ((emL_n (blks_n k0_n h0_n D j.1)).map .u64)), some (.ro (consL.map .u64)), some (.ro (D.map .u8))]) (fun _ => 4) (fun j => D.length - 64 * j.1) ⟨0, by omega⟩ ?_ ?_
   ·
    have hz := blks0_n D
    dsimp only
    rw [hz]
    refine Weak.sel [0, 1, 2, 3] rfl rfl ?_ ?_ rfl rfl
    ·
     (repeat' (first | exact trivial | refine And.intro ?_ ?_ | fail)) <;> first | rfl | fail
    ·
     (repeat' (first | exact trivial | refine And.intro ?_ ?_ | fail)) <;> first | rfl | exact ren_eq (by first | (simp; done) | fail) (by first | rfl | fail) | fail
   ·
    rintro ⟨j, hj⟩
    dsimp only
    have hbs := blkss_n D j
    have hhl := blks_len_n k0_n h0_n_len D j
    obtain ⟨h, hh⟩ : ∃ h, h = blks_n k0_n h0_n D j := ⟨_, rfl⟩
    rw [← hh] at hbs hhl ⊢
    by_cases hc : 64 * (j + 1) ≤ D.length
    ·
     have hlt : decide (((64 * j : Nat) : Int) < (D.length : Int)) = true := by simp; omega
     obtain ⟨b, hb⟩ : ∃ b, b = (D.drop (64 * j)).take 64 := ⟨_, rfl⟩
     rw [← hb] at hbs
     have hbg : ∀ i, i < 64 → D.getD (64 * j + i) 0 = b.getD i 0 := fun i hi => by
      rw [hb, List.getD_eq_getElem?_getD, List.getD_eq_getElem?_getD, List.getElem?_take_of_lt hi, List.getElem?_drop]
     have hbl : b.length = 64 := by rw [hb, List.length_take, List.length_drop]; omega
     conv => whnf
     first | refine brT (by exact hlt) ?_ | fail
     conv => whnf
     repeat (fail)
     refine SWp.weak (Weak.virt 12 25 1 rfl) ?_
     refine loop_rule ttOk mixed (by kernel_rfl) (ι := { t : Nat // t ≤ 16 }) (fun t => [(1, .i 32), (5, .i 64), (6, .sl 1 0 8 1 true), (7, .sl 2 0 80 1 true), (8, .u64 down_n), (10, .sl 3 0 D.length 1 false), (11, .i ((64 * j : Nat) : Int)), (12, .sl 4 0 t.1 1 false), (13, .i (t.1 : Int))]) (fun t => [some (.ro (T.map .u8)), some (.row 25 ((emL_n h).map .u64)), some (.ro (consL.map .u64)), some (.ro (D.map .u8)), some (.row 25 (((List.range t.1).map (fun s => emb_n (wf_n b s 4))).map .u64))]) (fun _ => 5) (fun t => 16 - t.1) ⟨0, by omega⟩ ?_ ?_
     ·
      refine Weak.sel [0, 1, 2, 3, 4] rfl rfl ?_ ?_ rfl rfl
      ·
       (repeat' (first | exact trivial | refine And.intro ?_ ?_ | fail)) <;> first | rfl | fail
      ·
       (repeat' (first | exact trivial | refine And.intro ?_ ?_ | fail)) <;> first | rfl | exact ren_eq (by first | (simp; done) | fail) (by first | rfl | fail) | fail
     ·
      rintro ⟨t, ht⟩
      dsimp only
      have hws := rws_s_n b t
      by_cases ht2 : t < 16
      ·
       have hlt2 : decide ((t : Int) < 16) = true := by simp; omega
       have hp := rwp t (by omega)
       obtain ⟨Y, hY⟩ : ∃ Y, Y = (List.range t).map (fun s => emb_n (wf_n b s 4)) := ⟨_, rfl⟩
       have hYl : Y.length = t := by rw [hY]; simp
       rw [← hY] at hws ⊢
       conv => whnf
       first | refine brT (by exact hlt2) ?_ | fail
       conv => whnf
       repeat (fail)
       refine loop_rule ttOk mixed (by kernel_rfl) (ι := { m : Nat // m ≤ 4 }) (fun m => [(1, .i 32), (5, .i 64), (6, .sl 1 0 8 1 true), (7, .sl 2 0 80 1 true), (8, .u64 down_n), (10, .sl 3 0 D.length 1 false), (11, .i ((64 * j : Nat) : Int)), (12, .sl 4 0 t 1 false), (13, .i (t : Int)), (14, .u64 (emb_n (wf_n b t m.1))), (15, .i (m.1 : Int))]) (fun m => [some (.ro (T.map .u8)), some (.row 25 ((emL_n h).map .u64)), some (.ro (consL.map .u64)), some (.ro (D.map .u8)), some (.row 25 (Y.map .u64))]) (fun _ => 5) (fun m => 4 - m.1) ⟨0, by omega⟩ ?_ ?_
       ·
        have hz := wfz_n b t
        dsimp only
        rw [hz]
        refine Weak.sel [0, 1, 2, 3, 4] rfl rfl ?_ ?_ rfl rfl
        ·
         (repeat' (first | exact trivial | refine And.intro ?_ ?_ | fail)) <;> first | rfl | fail
        ·
         (repeat' (first | exact trivial | refine And.intro ?_ ?_ | fail)) <;> first | rfl | exact ren_eq (by first | (simp; done) | fail) (by first | rfl | fail) | fail
       ·
        rintro ⟨m, hm⟩
        dsimp only
        by_cases hm2 : m < 4
        ·
         have hlt3 : decide ((m : Int) < w64 (Int.tdiv 32 8)) = true := by
          rw [show w64 (Int.tdiv 32 8) = 4 from by decide]; simp; omega
         have hpm := rwp m (by omega)
         have hti : w64 (Int.tdiv (w64 ((t : Int) * 32)) 8) = ((4 * t : Nat) : Int) := tix_n t ht2
         have hix : w64 (w64 (((64 * j : Nat) : Int) + w64 (Int.tdiv (w64 ((t : Int) * 32)) 8)) + (m : Int)) = ((64 * j + (4 * t + m) : Nat) : Int) := by
          rw [hti]; exact ix3 _ _ _ (by omega)
         have hwr := wf_ref_n b t m hm2
         rw [← hbg (4 * t + m) (by omega)] at hwr
         have hin : 64 * j + (4 * t + m) < D.length := by omega
         conv => whnf
         repeat (first | (refine Exists.intro _ (And.intro rfl ?_); conv => whnf) | fail)
         first | refine brT (by exact hlt3) ?_ | fail
         conv => whnf
         repeat (first | (refine Exists.intro _ (And.intro (sload_u8 (i := 64 * j + (4 * t + m)) (by first | rfl | omega | fail) (by first | omega | fail)) ?_); conv => whnf) | (refine Exists.intro _ (And.intro (idx_i (m := 64 * j + (4 * t + m)) (by first | rfl | omega | fail)) ?_); conv => whnf) | (refine Exists.intro _ (And.intro rfl ?_); conv => whnf) | (refine And.intro (by first | omega | fail) ?_; conv => whnf) | fail)
         rw [hwr]
         refine ⟨⟨m + 1, by omega⟩, by simp only; omega, ?_⟩
         dsimp only
         refine Weak.sel [0, 1, 2, 3, 4] rfl rfl ?_ ?_ rfl rfl
         ·
          (repeat' (first | exact trivial | refine And.intro ?_ ?_ | fail)) <;> first | exact wk_i (by first | exact hpm | exact hpm.symm | fail) | rfl | fail
         ·
          (repeat' (first | exact trivial | refine And.intro ?_ ?_ | fail)) <;> first | rfl | exact ren_eq (by first | (simp; done) | fail) (by first | rfl | fail) | fail
        ·
         obtain rfl : m = 4 := by omega
         have hlt3 : decide ((4 : Int) < w64 (Int.tdiv 32 8)) = false := by decide
         obtain ⟨x, hx⟩ : ∃ x, x = emb_n (wf_n b t 4) := ⟨_, rfl⟩
         rw [← hx] at hws ⊢
         have hap : (Y ++ [x]).map SV.u64 = List.take (t * 1) (List.drop 0 (Y.map SV.u64)) ++ List.take (1 * 1) (List.drop 0 [SV.u64 x]) := by
          rw [List.drop_zero, List.take_of_length_le (l := Y.map SV.u64) (by rw [List.length_map]; omega), List.map_append]; rfl
         conv => whnf
         repeat (first | (refine brF rfl ?_; conv => whnf) | (refine Exists.intro _ (And.intro rfl ?_); conv => whnf) | fail)
         refine And.intro ⟨by show 0 + t * 1 ≤ (Y.map SV.u64).length; rw [List.length_map]; omega, Nat.le_refl 1, by show (t + 1) * 8 ≤ _; omega⟩ ?_
         conv => whnf
         repeat (fail)
         refine ⟨⟨t + 1, by omega⟩, by simp only; omega, ?_⟩
         dsimp only
         rw [hws]
         refine Weak.sel [0, 1, 2, 3, 6] rfl rfl ?_ ?_ rfl rfl
         ·
          (repeat' (first | exact trivial | refine And.intro ?_ ?_ | fail)) <;> first | exact wk_i (by first | exact hp | exact hp.symm | fail) | rfl | fail
         ·
          (repeat' (first | exact trivial | exact ren_eq (plainL_u64 _) hap | refine And.intro ?_ ?_ | fail)) <;> first | rfl | exact ren_eq (by first | (simp; done) | fail) (by first | rfl | fail) | fail
      ·
       obtain rfl : t = 16 := by omega
       rw [rws_16_n]
       conv => whnf
       first | refine brF (by rfl) ?_ | fail
       conv => whnf
       repeat (fail)
       refine loop_rule ttOk mixed (by kernel_rfl) (ι := { t : Nat // t ≤ 64 - 16 }) (fun t => [(1, .i 32), (5, .i 64), (6, .sl 1 0 8 1 true), (7, .sl 2 0 80 1 true), (8, .u64 down_n), (10, .sl 3 0 D.length 1 false), (11, .i ((64 * j : Nat) : Int)), (12, .sl 4 0 (t.1 + 16) 1 false), (16, .i ((t.1 + 16 : Nat) : Int))]) (fun t => [some (.ro (T.map .u8)), some (.row 25 ((emL_n h).map .u64)), some (.ro (consL.map .u64)), some (.ro (D.map .u8)), some (.row 25 ((emL_n ((wex_n b t.1).take (t.1 + 16))).map .u64))]) (fun _ => 5) (fun t => 64 - t.1) ⟨0, by omega⟩ ?_ ?_
       ·
        refine Weak.sel [0, 1, 2, 3, 4] rfl rfl ?_ ?_ rfl rfl
        ·
         (repeat' (first | exact trivial | refine And.intro ?_ ?_ | fail)) <;> first | rfl | fail
        ·
         (repeat' (first | exact trivial | refine And.intro ?_ ?_ | fail)) <;> first | rfl | exact ren_eq (by first | (simp; done) | fail) (by first | rfl | fail) | fail
       ·
        rintro ⟨t, ht3⟩
        dsimp only
        have hwl := wex_len_n b t
        by_cases ht4 : t < 64 - 16
        ·
         have hlt : decide (((t + 16 : Nat) : Int) < 64) = true := by simp; omega
         have h14 : w64 (((t + 16 : Nat) : Int) - 2) = ((t + 14 : Nat) : Int) := wm16 t 2 (by omega) (by omega)
         have h9 : w64 (((t + 16 : Nat) : Int) - 7) = ((t + 9 : Nat) : Int) := wm16 t 7 (by omega) (by omega)
         have h1 : w64 (((t + 16 : Nat) : Int) - 15) = ((t + 1 : Nat) : Int) := wm16 t 15 (by omega) (by omega)
         have h0 : w64 (((t + 16 : Nat) : Int) - 16) = ((t : Nat) : Int) := wm16 t 16 (by omega) (by omega)
         have hp : w64 (((t + 16 : Nat) : Int) + 1) = ((t + 1 + 16 : Nat) : Int) := by simp only [w64_eq]; omega
         have hnew := wex_new_n b t ht4
         have htk := wex_take_n b t ht4
         have hgt : ∀ i, i < t + 16 → (emL_n ((wex_n b t).take (t + 16))).getD i 0 = emb_n ((wex_n b t).getD i 0) := fun i hi => by
          rw [emL_get_n _ i (by rw [List.length_take, hwl]; omega), wex_old_n b t i (by omega) hi]
         have g14 := hgt (t + 14) (by omega)
         have g9 := hgt (t + 9) (by omega)
         have g1 := hgt (t + 1) (by omega)
         have g0 := hgt t (by omega)
         obtain ⟨a14, ha14⟩ : ∃ a, a = (wex_n b t).getD (t + 14) 0 := ⟨_, rfl⟩
         obtain ⟨a9, ha9⟩ : ∃ a, a = (wex_n b t).getD (t + 9) 0 := ⟨_, rfl⟩
         obtain ⟨a1, ha1⟩ : ∃ a, a = (wex_n b t).getD (t + 1) 0 := ⟨_, rfl⟩
         obtain ⟨a0, ha0⟩ : ∃ a, a = (wex_n b t).getD t 0 := ⟨_, rfl⟩
         rw [← ha14] at g14 hnew
         rw [← ha9] at g9 hnew
         rw [← ha1] at g1 hnew
         rw [← ha0] at g0 hnew
         obtain ⟨Y, hY⟩ : ∃ Y, Y = emL_n ((wex_n b t).take (t + 16)) := ⟨_, rfl⟩
         have hYl : Y.length = t + 16 := by rw [hY, emL_len_n, List.length_take, hwl]; omega
         obtain ⟨v, hv⟩ : ∃ v, v = (wex_n b (t + 1)).getD (t + 16) 0 := ⟨_, rfl⟩
         have hYs : emL_n ((wex_n b (t + 1)).take (t + 1 + 16)) = Y ++ [emb_n v] := by
          rw [htk, hY, ← hv]; unfold emL_n; rw [List.map_append]; rfl
         rw [← hv] at hnew
         rw [← hY] at g14 g9 g1 g0 ⊢
         have q3 := f150_n_3 a14
         have q2 := f150_n_2 a1
         obtain ⟨s3, hs3⟩ : ∃ s, s = small_n a14 17 19 10 := ⟨_, rfl⟩
         obtain ⟨s2, hs2⟩ : ∃ s, s = small_n a1 7 18 3 := ⟨_, rfl⟩
         rw [← hs3] at q3 hnew
         rw [← hs2] at q2 hnew
         have qc := f149_n (emb_n s3 + emb_n a9 + emb_n s2 + emb_n a0)
         rw [sum4_n, ← hnew] at qc
         obtain ⟨x, hx⟩ : ∃ x, x = emb_n v := ⟨_, rfl⟩
         rw [← hx] at qc hYs
         have hap : (Y ++ [x]).map SV.u64 = List.take ((t + 16) * 1) (List.drop 0 (Y.map SV.u64)) ++ List.take (1 * 1) (List.drop 0 [SV.u64 x]) := by
          rw [List.drop_zero, List.take_of_length_le (l := Y.map SV.u64) (by rw [List.length_map]; omega), List.map_append]; rfl
         clear hs3 hs2 hx hv hnew ha14 ha9 ha1 ha0 hgt htk
         conv => whnf
         first | refine brT (by exact hlt) ?_ | fail
         conv => whnf
         repeat (first | (refine Exists.intro _ (And.intro (sload_u64 (i := t + 14) (by first | rfl | omega | fail) (by first | omega | fail)) ?_); conv => whnf) | (refine Exists.intro _ (And.intro (idx_i (m := t + 14) (by first | rfl | omega | fail)) ?_); conv => whnf) | (refine And.intro (by first | omega | fail) ?_; conv => whnf) | fail)
         rw [g14]
         refine ok1_callF [] [] true (q3) rfl rfl ⟨⟨rfl, by first | rfl | fail⟩, trivial, by first | rfl | fail, by first | rfl | fail, ?_⟩
         conv => whnf
         repeat (first | (refine Exists.intro _ (And.intro (sload_u64 (i := t + 9) (by first | rfl | omega | fail) (by first | omega | fail)) ?_); conv => whnf) | (refine Exists.intro _ (And.intro (idx_i (m := t + 9) (by first | rfl | omega | fail)) ?_); conv => whnf) | (refine Exists.intro _ (And.intro (sload_u64 (i := t + 1) (by first | rfl | omega | fail) (by first | omega | fail)) ?_); conv => whnf) | (refine Exists.intro _ (And.intro (idx_i (m := t + 1) (by first | rfl | omega | fail)) ?_); conv => whnf) | (refine And.intro (by first | omega | fail) ?_; conv => whnf) | fail)
         rw [g9, g1]
         refine ok1_callF [] [] true (q2) rfl rfl ⟨⟨rfl, by first | rfl | fail⟩, trivial, by first | rfl | fail, by first | rfl | fail, ?_⟩
         conv => whnf
         repeat (first | (refine Exists.intro _ (And.intro (sload_u64 (i := t) (by first | rfl | omega | fail) (by first | omega | fail)) ?_); conv => whnf) | (refine Exists.intro _ (And.intro (idx_i (m := t) (by first | rfl | omega | fail)) ?_); conv => whnf) | (refine And.intro (by first | omega | fail) ?_; conv => whnf) | fail)
         rw [g0]
         refine ok1_callF [] [] true (qc) rfl rfl ⟨⟨rfl, by first | rfl | fail⟩, trivial, by first | rfl | fail, by first | rfl | fail, ?_⟩
         conv => whnf
         repeat (first | (refine Exists.intro _ (And.intro rfl ?_); conv => whnf) | fail)
         refine And.intro ⟨by show 0 + (t + 16) * 1 ≤ (Y.map SV.u64).length; rw [List.length_map]; omega, Nat.le_refl 1, by show (t + 16 + 1) * 8 ≤ _; omega⟩ ?_
         conv => whnf
         repeat (first | (refine And.intro (by kernel_rfl) ?_; conv => whnf) | fail)
         refine ⟨⟨t + 1, by omega⟩, by simp only; omega, ?_⟩
         dsimp only
         rw [hYs]
         refine Weak.sel [0, 1, 2, 3, 6] rfl rfl ?_ ?_ rfl rfl
         ·
          (repeat' (first | exact trivial | refine And.intro ?_ ?_ | fail)) <;> first | exact wk_i (by first | exact hp | exact hp.symm | fail) | rfl | fail
         ·
          (repeat' (first | exact trivial | exact ren_eq (plainL_u64 _) hap | refine And.intro ?_ ?_ | fail)) <;> first | rfl | exact ren_eq (by first | (simp; done) | fail) (by first | rfl | fail) | fail
        ·
         obtain rfl : t = 64 - 16 := by omega
         have hfull : (wex_n b (64 - 16)).take (64 - 16 + 16) = wex_n b (64 - 16) := List.take_of_length_le (by omega)
         rw [hfull]
         have hel := emL_len_n h
         rw [hhl] at hel
         have hvc : List.take (0 * ti25.sz) (List.drop 0 (reps 0 (SV.u64 0).cells)) ++ List.take (8 * ti25.sz) (List.drop 0 (SB.row 25 ((emL_n h).map SV.u64)).cells) = (emL_n h).map SV.u64 := by
          show ([] : List SV) ++ List.take (8 * 1) ((emL_n h).map SV.u64) = _
          rw [List.nil_append, List.take_of_length_le (by rw [List.length_map]; omega)]
         conv => whnf
         first | refine brF (by rfl) ?_ | fail
         conv => whnf
         repeat (first | (refine Exists.intro _ (And.intro rfl ?_); conv => whnf) | (refine And.intro ⟨by first | omega | fail, by first | (simp [hel]; done) | fail, by first | exact Nat.le_of_ble_eq_true rfl | fail⟩ ?_; conv => whnf) | fail)
         rw [hvc]
         refine loop_rule ttOk mixed (by kernel_rfl) (ι := { t : Nat // t ≤ 64 }) (fun t => [(1, .i 32), (5, .i 64), (6, .sl 1 0 8 1 true), (7, .sl 2 0 80 1 true), (8, .u64 down_n), (10, .sl 3 0 D.length 1 false), (11, .i ((64 * j : Nat) : Int)), (12, .sl 4 0 64 1 false), (17, .sl 5 0 8 1 (vf t.1)), (18, .i (t.1 : Int))]) (fun t => [some (.ro (T.map .u8)), some (.row 25 ((emL_n h).map .u64)), some (.ro (consL.map .u64)), some (.ro (D.map .u8)), some (.row 25 ((emL_n (wex_n b (64 - 16))).map .u64)), some (.row 25 ((emL_n (rnds_n k0_n h b t.1)).map .u64))]) (fun _ => 6) (fun t => 64 - t.1) ⟨0, by omega⟩ ?_ ?_
         ·
          have hz := rnds_n_z k0_n h b
          dsimp only
          rw [hz]
          refine Weak.sel [0, 1, 2, 3, 4, 6] rfl rfl ?_ ?_ rfl rfl
          ·
           (repeat' (first | exact trivial | refine And.intro ?_ ?_ | fail)) <;> first | rfl | fail
          ·
           (repeat' (first | exact trivial | refine And.intro ?_ ?_ | fail)) <;> first | rfl | exact ren_eq (by first | (simp; done) | fail) (by first | rfl | fail) | fail
         ·
          rintro ⟨t, ht5⟩
          dsimp only
          have hrl := rnds_len_n (k := k0_n) hhl b t
          have hrs := rnds_n_s k0_n h b t
          by_cases ht6 : t < 64
          ·
           have hlt : decide ((t : Int) < 64) = true := by simp; omega
           have hp := rwp t (by omega)
           have hke := k0e_n t (by omega)
           have hwe := emL_get_n (wex_n b (64 - 16)) t (by omega)
           have hdz : down_n ≠ 0 := by unfold down_n; decide
           have hYl := emL_len_n (wex_n b (64 - 16))
           rw [hwl] at hYl
           have q := f151_n (rnds_n k0_n h b t) hrl (k0_n.getD t 0) ((wex_n b (64 - 16)).getD t 0) (vf t)
           rw [← hrs] at q
           conv => whnf
           first | refine brT (by exact hlt) ?_ | fail
           conv => whnf
           repeat (first | (refine Exists.intro _ (And.intro (sload_u64 (i := t) (by first | rfl | omega | fail) (by first | omega | fail)) ?_); conv => whnf) | (refine Exists.intro _ (And.intro (idx_i (m := t) (by first | rfl | fail)) ?_); conv => whnf) | (refine And.intro (by first | omega | fail) ?_; conv => whnf) | fail)
           refine ⟨_, sarith_quo64b hdz, ?_⟩
           conv => whnf
           repeat (first | (refine Exists.intro _ (And.intro (sload_u64 (i := t) (by first | rfl | omega | fail) (by first | omega | fail)) ?_); conv => whnf) | (refine Exists.intro _ (And.intro (idx_i (m := t) (by first | rfl | fail)) ?_); conv => whnf) | (refine And.intro (by first | omega | fail) ?_; conv => whnf) | fail)
           rw [hke, hwe]
           refine ok1_callF [5] [false, true] false (q) rfl rfl ⟨⟨rfl, by first | rfl | fail⟩, by (repeat' (first | exact trivial | refine And.intro ?_ ?_)) <;> first | exact ren_eq (by first | (simp; done) | fail) (by first | rfl | fail) | fail, by first | simp [plainHf, plainB], by first | rfl | fail, ?_⟩
           conv => whnf
           repeat (first | (refine And.intro (by kernel_rfl) ?_; conv => whnf) | fail)
           refine ⟨⟨t + 1, by omega⟩, by simp only; omega, ?_⟩
           dsimp only
           refine Weak.sel [0, 1, 2, 3, 4, 6] rfl rfl ?_ ?_ rfl rfl
           ·
            (repeat' (first | exact trivial | refine And.intro ?_ ?_ | fail)) <;> first | exact wk_i (by first | exact hp | exact hp.symm | fail) | rfl | fail
           ·
            (repeat' (first | exact trivial | refine And.intro ?_ ?_ | fail)) <;> first | rfl | exact ren_eq (by first | (simp; done) | fail) (by first | rfl | fail) | fail
          ·
           obtain rfl : t = 64 := by omega
           obtain ⟨X, hX⟩ : ∃ X, X = rnds_n k0_n h b 64 := ⟨_, rfl⟩
           rw [← hX] at hrl ⊢
           conv => whnf
           first | refine brF (by rfl) ?_ | fail
           conv => whnf
           repeat (fail)
           refine loop_rule ttOk mixed (by kernel_rfl) (ι := { i : Nat // i ≤ 8 }) (fun i => [(1, .i 32), (5, .i 64), (6, .sl 1 0 8 1 true), (7, .sl 2 0 80 1 true), (8, .u64 down_n), (10, .sl 3 0 D.length 1 false), (11, .i ((64 * j : Nat) : Int)), (17, .sl 4 0 8 1 true), (19, .i (i.1 : Int))]) (fun i => [some (.ro (T.map .u8)), some (.row 25 ((emL_n (addw_n h X i.1)).map .u64)), some (.ro (consL.map .u64)), some (.ro (D.map .u8)), some (.ro ((emL_n X).map .u64))]) (fun _ => 5) (fun i => 8 - i.1) ⟨0, by omega⟩ ?_ ?_
           ·
            have hz := addw_n_z h X
            dsimp only
            rw [hz]
            refine Weak.sel [0, 1, 2, 3, 5] rfl rfl ?_ ?_ rfl rfl
            ·
             (repeat' (first | exact trivial | refine And.intro ?_ ?_ | fail)) <;> first | rfl | fail
            ·
             (repeat' (first | exact trivial | refine And.intro ?_ ?_ | fail)) <;> first | rfl | exact ren_eq (by first | (simp; done) | fail) (by first | rfl | fail) | fail
           ·
            rintro ⟨i, hi7⟩
            dsimp only
            have hal := addw_len_n hhl X i
            have hall := emL_len_n (addw_n h X i)
            rw [hal] at hall
            have hXl := emL_len_n X
            rw [hrl] at hXl
            have has := addw_n_s h X i
            by_cases hi6 : i < 8
            ·
             have hlt : decide ((i : Int) < 8) = true := by simp; omega
             have hp := rwp i (by omega)
             have ga := emL_get_n (addw_n h X i) i (by omega)
             have gx := emL_get_n X i (by omega)
             have qc := f149_n (emb_n ((addw_n h X i).getD i 0) + emb_n (X.getD i 0))
             rw [sum2_n] at qc
             have hse : (emL_n (addw_n h X i)).set i (emb_n ((addw_n h X i).getD i 0 + X.getD i 0)) = emL_n (addw_n h X (i + 1)) := by
              rw [has]; unfold emL_n; rw [List.map_set]
             conv => whnf
             first | refine brT (by exact hlt) ?_ | fail
             conv => whnf
             repeat (first | (refine Exists.intro _ (And.intro (sload_u64 (i := i) (by first | rfl | omega | fail) (by first | omega | fail)) ?_); conv => whnf) | (refine Exists.intro _ (And.intro (idx_i (m := i) (by first | rfl | fail)) ?_); conv => whnf) | (refine And.intro (by first | omega | fail) ?_; conv => whnf) | fail)
             rw [ga, gx]
             refine ok1_callF [] [] true (qc) rfl rfl ⟨⟨rfl, by first | rfl | fail⟩, trivial, by first | rfl | fail, by first | rfl | fail, ?_⟩
             conv => whnf
             repeat (first | (refine Exists.intro _ (And.intro (sput_m64 (i := i) (by first | rfl | omega | fail)) ?_); conv => whnf) | (refine Exists.intro _ (And.intro (idx_i (m := i) (by first | rfl | fail)) ?_); conv => whnf) | (refine And.intro (by first | omega | (simp; omega) | fail) ?_; conv => whnf) | (refine And.intro (by kernel_rfl) ?_; conv => whnf) | fail)
             rw [hse]
             refine ⟨⟨i + 1, by omega⟩, by simp only; omega, ?_⟩
             dsimp only
             refine Weak.sel [0, 1, 2, 3, 4] rfl rfl ?_ ?_ rfl rfl
             ·
              (repeat' (first | exact trivial | refine And.intro ?_ ?_ | fail)) <;> first | exact wk_i (by first | exact hp | exact hp.symm | fail) | rfl | fail
             ·
              (repeat' (first | exact trivial | refine And.intro ?_ ?_ | fail)) <;> first | rfl | exact ren_eq (by first | (simp; done) | fail) (by first | rfl | fail) | fail
            ·
             obtain rfl : i = 8 := by omega
             have hnx : w64 (((64 * j : Nat) : Int) + w64 (2 * 32)) = ((64 * (j + 1) : Nat) : Int) := by
              rw [show w64 (2 * 32) = ((64 : Nat) : Int) from by decide, w64_of (by omega) (by omega)]; omega
             have hcs : addw_n h X 8 = blks_n k0_n h0_n D (j + 1) := by rw [hbs, comp_n_e, hX]
             rw [hcs]
             conv => whnf
             first | refine brF (by rfl) ?_ | fail
             conv => whnf
             repeat (fail)
             refine ⟨⟨j + 1, hc⟩, by simp only; omega, ?_⟩
             dsimp only
             refine Weak.sel [0, 1, 2, 3] rfl rfl ?_ ?_ rfl rfl
             ·
              (repeat' (first | exact trivial | refine And.intro ?_ ?_ | fail)) <;> first | exact wk_i (by first | exact hnx | exact hnx.symm | fail) | rfl | fail
             ·
              (repeat' (first | exact trivial | refine And.intro ?_ ?_ | fail)) <;> first | rfl | exact ren_eq (by first | (simp; done) | fail) (by first | rfl | fail) | fail
    ·
     obtain rfl : j = D.length / 64 := by omega
     have hge : decide (((64 * (D.length / 64) : Nat) : Int) < (D.length : Int)) = false := by simp; omega
     have hfin : outl_n h (4 * 8) = hash_n k0_n h0_n T := by rw [hh, hD]; exact rhash_n T
     rw [← hfin]
     have hel := emL_len_n h
     rw [hhl] at hel
     conv => whnf
     first | refine brF (by exact hge) ?_ | fail
     conv => whnf
     repeat (fail)
     refine SWp.weak (Weak.virt 20 5 1 rfl) ?_
     refine loop_rule ttOk mixed (by kernel_rfl) (ι := { i : Nat // i ≤ 8 }) (fun i => [(1, .i 32), (6, .sl 1 0 8 1 true), (20, .sl 4 0 (4 * i.1) 1 false), (21, .i (i.1 : Int))]) (fun i => [some (.ro (T.map .u8)), some (.row 25 ((emL_n h).map .u64)), some (.ro (consL.map .u64)), some (.ro (D.map .u8)), some (.row 5 ((outl_n h (4 * i.1)).map .u8))]) (fun _ => 5) (fun i => 8 - i.1) ⟨0, by omega⟩ ?_ ?_
     ·
      have hz := rout_z_n h
      dsimp only
      rw [hz]
      refine Weak.sel [0, 1, 2, 3, 4] rfl rfl ?_ ?_ rfl rfl
      ·
       (repeat' (first | exact trivial | refine And.intro ?_ ?_ | fail)) <;> first | rfl | fail
      ·
       (repeat' (first | exact trivial | refine And.intro ?_ ?_ | fail)) <;> first | rfl | exact ren_eq (by first | (simp; done) | fail) (by first | rfl | fail) | fail
     ·
      rintro ⟨i, hi7⟩
      dsimp only
      by_cases hi6 : i < 8
      ·
       have hlt : decide ((i : Int) < 8) = true := by simp; omega
       have hp := rwp i (by omega)
       conv => whnf
       first | refine brT (by exact hlt) ?_ | fail
       conv => whnf
       repeat (first | (refine Exists.intro _ (And.intro rfl ?_); conv => whnf) | fail)
       refine loop_rule ttOk mixed (by kernel_rfl) (ι := { m : Nat // m ≤ 4 }) (fun m => [(1, .i 32), (6, .sl 1 0 8 1 true), (20, .sl 4 0 (4 * i + m.1) 1 false), (21, .i (i : Int)), (22, .i (4 - 1 - (m.1 : Int)))]) (fun m => [some (.ro (T.map .u8)), some (.row 25 ((emL_n h).map .u64)), some (.ro (consL.map .u64)), some (.ro (D.map .u8)), some (.row 5 ((outl_n h (4 * i + m.1)).map .u8))]) (fun _ => 5) (fun m => 4 - m.1) ⟨0, by omega⟩ ?_ ?_
       ·
        refine Weak.sel [0, 1, 2, 3, 4] rfl rfl ?_ ?_ rfl rfl
        ·
         (repeat' (first | exact trivial | refine And.intro ?_ ?_ | fail)) <;> first | rfl | fail
        ·
         (repeat' (first | exact trivial | refine And.intro ?_ ?_ | fail)) <;> first | rfl | exact ren_eq (by first | (simp; done) | fail) (by first | rfl | fail) | fail
       ·
        rintro ⟨m, hm⟩
        dsimp only
        have hol := outl_len_n h (4 * i + m)
        by_cases hm4 : m < 4
        ·
         have hge2 : decide ((4 - 1 - (m : Int)) ≥ 0) = true := by simp; omega
         have h8 : w64 (8 * (4 - 1 - (m : Int))) = ((8 * (4 - 1 - m) : Nat) : Int) := by simp only [w64_eq]; omega
         have hp2 : w64 (4 - 1 - (m : Int) - 1) = 4 - 1 - ((m + 1 : Nat) : Int) := by simp only [w64_eq]; omega
         have hs := rout_s_n h i m hm4
         have gx := emL_get_n h i (by omega)
         have qp := f147 (8 * (4 - 1 - m)) (by omega)
         have hnz := pow_nz (n := 8 * (4 - 1 - m)) (by omega)
         have hsh := shr_n_eq (h.getD i 0) (8 * (4 - 1 - m)) (by omega)
         have hm2 := mod256 (emb_n (shr32 (h.getD i 0) (8 * (4 - 1 - m))))
         rw [emb_u8_n] at hm2
         rw [← h8] at qp
         obtain ⟨Z, hZ⟩ : ∃ Z, Z = outl_n h (4 * i + m) := ⟨_, rfl⟩
         rw [← hZ] at hol hs ⊢
         obtain ⟨c, hc2⟩ : ∃ c, c = (shr32 (h.getD i 0) (8 * (4 - 1 - m))).toUInt8 := ⟨_, rfl⟩
         rw [← hc2] at hs hm2
         have hap4 : (Z ++ [c]).map SV.u8 = List.take ((4 * i + m) * 1) (List.drop 0 (Z.map SV.u8)) ++ List.take (1 * 1) (List.drop 0 [SV.u8 c]) := (rcat8 (o := 0) (n := 4 * i + m) (E := Z) (b := [c]) (by omega) rfl).symm
         conv => whnf
         first | refine brT (by exact hge2) ?_ | fail
         conv => whnf
         repeat (first | (refine Exists.intro _ (And.intro (sload_u64 (i := i) (by first | rfl | omega | fail) (by first | omega | fail)) ?_); conv => whnf) | (refine Exists.intro _ (And.intro (idx_i (m := i) (by first | rfl | fail)) ?_); conv => whnf) | (refine And.intro (by first | omega | fail) ?_; conv => whnf) | fail)
         refine ok1_callF [] [] true (qp) rfl rfl ⟨⟨rfl, by first | rfl | fail⟩, trivial, by first | rfl | fail, by first | rfl | fail, ?_⟩
         conv => whnf
         repeat (fail)
         refine ⟨_, sarith_quo64b hnz, ?_⟩
         conv => whnf
         rw [gx, hsh]
         repeat (first | (refine Exists.intro _ (And.intro rfl ?_); conv => whnf) | (refine And.intro (by first | omega | (simp [ti5]; omega)) ?_; conv => whnf) | (refine And.intro (by kernel_rfl) ?_; conv => whnf) | fail)
         rw [hm2]
         repeat (fail)
         refine ⟨⟨m + 1, by omega⟩, by simp only; omega, ?_⟩
         dsimp only
         rw [hs]
         refine Weak.sel [0, 1, 2, 3, 6] rfl rfl ?_ ?_ rfl rfl
         ·
          (repeat' (first | exact trivial | refine And.intro ?_ ?_ | fail)) <;> first | exact wk_i (by first | exact hp2 | exact hp2.symm | fail) | rfl | fail
         ·
          (repeat' (first | exact trivial | exact ren_eq (plainL_u8 _) hap4 | refine And.intro ?_ ?_ | fail)) <;> first | rfl | exact ren_eq (by first | (simp; done) | fail) (by first | rfl | fail) | fail
        ·
         obtain rfl : m = 4 := by omega
         conv => whnf
         first | refine brF (by rfl) ?_ | fail
         conv => whnf
         repeat (fail)
         refine ⟨⟨i + 1, by omega⟩, by simp only; omega, ?_⟩
         dsimp only
         rw [show 4 * (i + 1) = 4 * i + 4 by omega]
         refine Weak.sel [0, 1, 2, 3, 4] rfl rfl ?_ ?_ rfl rfl
         ·
          (repeat' (first | exact trivial | refine And.intro ?_ ?_ | fail)) <;> first | exact wk_i (by first | exact hp | exact hp.symm | fail) | rfl | fail
         ·
          (repeat' (first | exact trivial | refine And.intro ?_ ?_ | fail)) <;> first | rfl | exact ren_eq (by first | (simp; done) | fail) (by first | rfl | fail) | fail
      ·
       obtain rfl : i = 8 := by omega
       conv => whnf
       first | refine brF (by rfl) ?_ | fail
       conv => whnf
       refine ⟨[0, 4], ?_, rfl, rfl, ?_, rfl⟩
       ·
        (repeat' (fail)) <;> first | rfl | fail
       ·
        (repeat' (first | exact trivial | refine And.intro ?_ ?_ | fail)) <;> first | rfl | exact ren_eq (by first | (simp; done) | fail) (by first | rfl | fail) | fail
end
theorem padw_len_w (T : List UInt8) : (padw_w T).length = 128 * ((padw_w T).length / 128) := by
 have h : (padw_w T).length = T.length + 1 + pz_w T.length + 16 := by
  unfold padw_w lenb_w
  rw [List.length_append, List.length_append, List.length_append, lset_len_w, List.length_replicate]; rfl
 have h2 := padz_yes_w T.length
 omega
theorem rws_s_w (b : List UInt8) (t : Nat) : (List.range (t + 1)).map (fun s => emb_w (wf_w b s 8)) = (List.range t).map (fun s => emb_w (wf_w b s 8)) ++ [emb_w (wf_w b t 8)] := by rw [List.range_succ, List.map_append]; rfl
theorem rws_16_w (b : List UInt8) : (List.range 16).map (fun s => emb_w (wf_w b s 8)) = emL_w ((wex_w b 0).take (0 + 16)) := by
 unfold emL_w
 have hl := win_len_w b 128
 apply List.ext_getElem
 ·
  simp [wex_len_w]
 ·
  intro i h1 h2
  have hi : i < 16 := by simpa using h1
  rw [List.getElem_map, List.getElem_map, List.getElem_range, List.getElem_take]
  have e := win_word_w b i hi
  rw [← e, List.getD_eq_getElem?_getD, List.getElem?_eq_getElem (by omega)]; rfl
theorem hfil_w : fil 8 8 (fun j => firstL.getD j 0 / down_w) (fun j => firstL.getD j 0) = emL_w h0_w := by
 rw [fil_full, h0e_w]; rfl
theorem hfil0_w : fil 8 0 (fun j => firstL.getD j 0 / down_w) (fun j => firstL.getD j 0) = firstL := rfl
theorem blks0_w (D : List UInt8) : blks_w k0_w h0_w D 0 = h0_w := rfl
theorem blkss_w (D : List UInt8) (j : Nat) : blks_w k0_w h0_w D (j + 1) = comp_w k0_w (blks_w k0_w h0_w D j) ((D.drop (128 * j)).take 128) := rfl
theorem wfz_w (b : List UInt8) (t : Nat) : emb_w (wf_w b t 0) = UInt64.ofNat (Int.toNat 0) := by unfold wf_w emb_w; decide
theorem emL_get_w (x : List UInt64) (i : Nat) (h : i < x.length) : (emL_w x).getD i 0 = emb_w (x.getD i 0) := by
 unfold emL_w
 rw [List.getD_eq_getElem?_getD, List.getD_eq_getElem?_getD, List.getElem?_map, List.getElem?_eq_getElem h]; rfl
theorem rout_z_w (H : List UInt64) : outl_w H (8 * 0) = [] := rfl
theorem rout_s_w (H : List UInt64) (i m : Nat) (hm : m < 8) : outl_w H (8 * i + (m + 1)) = outl_w H (8 * i + m) ++ [(shr64 (H.getD i 0) (8 * (8 - 1 - m))).toUInt8] := by
 show outl_w H (8 * i + m) ++ [(shr64 (H.getD ((8 * i + m) / 8) 0) (8 * (8 - 1 - (8 * i + m) % 8))).toUInt8] = _
 rw [show (8 * i + m) / 8 = i by omega, show 8 - 1 - (8 * i + m) % 8 = 8 - 1 - m by omega]
theorem rhash_w (T : List UInt8) : outl_w (blks_w k0_w h0_w (padw_w T) ((padw_w T).length / 128)) (8 * 8) = hash_w k0_w h0_w T := rfl
theorem emb_u8_w (x : UInt64) : (emb_w x).toUInt8 = x.toUInt8 := by
 apply UInt8.toNat_inj.1
 have e0 : (emb_w x).toNat = x.toNat := by first | rfl
 rw [UInt64.toNat_toUInt8, e0]
 first | exact (UInt64.toNat_toUInt8 x).symm
theorem tix_w : ∀ t : Nat, t < 16 → w64 (Int.tdiv (w64 ((t : Int) * 64)) 8) = ((8 * t : Nat) : Int) := by decide +kernel
section
attribute [local irreducible] padw_w blks_w hash_w outb_w outl_w wex_w wf_w rnds_w addw_w comp_w firstL consL down_w emb_w h0_w k0_w
theorem f133_w (T : List UInt8) (hT : T.length < 100000000000000) (f : Bool) : SCall Try.prog 133 [.sl 0 0 T.length 1 f, .i 64] [some (.ro (T.map .u8))] (.sl 1 0 64 1 false) [some (.ro (T.map .u8)), some (.row 5 ((hash_w k0_w h0_w T).map .u8))] := by
 have qp := f147 (64 - 64) (by decide)
 have hdn : UInt64.ofNat (2 ^ (64 - 64)) = down_w := by unfold down_w; rfl
 rw [hdn] at qp
 have hd1 : UInt64.ofNat (Int.toNat 1) = down_w := by unfold down_w; rfl
 have q8 := f148_w T hT f
 have hf8 := hfil_w
 have hf0 := hfil0_w
 have hfl : firstL.length = 8 := by unfold firstL; rfl
 have hcl : consL.length = 80 := by unfold consL; rfl
 refine scall_of ttOk (by kernel_rfl : Try.prog.funcs[133]? = some Try.f133) rfl rfl rfl ?_
 try simp only [List.length_cons, List.length_nil, Nat.zero_add, Nat.reduceAdd]
 refine sw_ok ttOk mixed (by kernel_rfl) ?_
 conv => whnf
 repeat (first | (refine brF rfl ?_; conv => whnf) | fail)
 refine ok1_callF [] [true] false (f145) rfl rfl ⟨⟨rfl, by first | rfl | fail⟩, trivial, by first | simp [plainHf, plainB], by first | rfl | fail, ?_⟩
 conv => whnf
 repeat (fail)
 refine ok1_callF [] [true] false (f146) rfl rfl ⟨⟨rfl, by first | rfl | fail⟩, trivial, by first | simp [plainHf, plainB], by first | rfl | fail, ?_⟩
 conv => whnf
 repeat (fail)
 refine ok1_callF [] [] true (qp) rfl rfl ⟨⟨rfl, by first | rfl | fail⟩, trivial, by first | rfl | fail, by first | rfl | fail, ?_⟩
 conv => whnf
 repeat (first | (refine brT rfl ?_; conv => whnf) | fail)
 try rw [hd1]
 refine loop_rule ttOk mixed (by kernel_rfl) (ι := { i : Nat // i ≤ 8 }) (fun i => [(0, .sl 0 0 T.length 1 f), (1, .i 64), (5, .i 80), (6, .sl 1 0 8 1 true), (7, .sl 2 0 80 1 true), (8, .u64 down_w), (9, .i (i.1 : Int))]) (fun i => [some (.ro (T.map .u8)), some (.row 25 ((fil 8 i.1 (fun j => firstL.getD j 0 / down_w) (fun j => firstL.getD j 0)).map .u64)), some (.ro (consL.map .u64))]) (fun _ => 3) (fun i => 8 - i.1) ⟨0, by omega⟩ ?_ ?_
 ·
  dsimp only
  rw [hf0]
  refine Weak.sel [0, 1, 2] rfl rfl ?_ ?_ rfl rfl
  ·
   (repeat' (first | exact trivial | refine And.intro ?_ ?_ | fail)) <;> first | rfl | fail
  ·
   (repeat' (first | exact trivial | refine And.intro ?_ ?_ | fail)) <;> first | rfl | exact ren_eq (by first | (simp; done) | fail) (by first | rfl | fail) | fail
 ·
  rintro ⟨i, hi⟩
  dsimp only
  have hfln := fil_len 8 i (fun j => firstL.getD j 0 / down_w) (fun j => firstL.getD j 0)
  by_cases hi8 : i < 8
  ·
   have hlt : decide ((i : Int) < 8) = true := by simp; omega
   have hp := rwp i (by omega)
   have hx : (fil 8 i (fun j => firstL.getD j 0 / down_w) (fun j => firstL.getD j 0)).getD i 0 / down_w = (fun j => firstL.getD j 0 / down_w) i := by
    rw [fil_getD hi8, if_neg (by omega)]
   have hs := fil_setx (f := fun j => firstL.getD j 0 / down_w) (g := fun j => firstL.getD j 0) hi8 hx
   have hdz : down_w ≠ 0 := by unfold down_w; decide
   conv => whnf
   first | refine brT (by exact hlt) ?_ | fail
   conv => whnf
   repeat (first | (refine Exists.intro _ (And.intro (sload_u64 (i := i) (by first | rfl | omega | fail) (by first | omega | fail)) ?_); conv => whnf) | (refine Exists.intro _ (And.intro (idx_i (m := i) (by first | rfl | fail)) ?_); conv => whnf) | (refine And.intro (by first | omega | fail) ?_; conv => whnf) | fail)
   refine ⟨_, sarith_quo64b hdz, ?_⟩
   conv => whnf
   repeat (first | (refine Exists.intro _ (And.intro (sput_m64 (i := i) (by first | rfl | omega | fail)) ?_); conv => whnf) | (refine Exists.intro _ (And.intro (idx_i (m := i) (by first | rfl | fail)) ?_); conv => whnf) | (refine And.intro (by first | omega | fail) ?_; conv => whnf) | (refine And.intro ⟨by first | exact @rfl Nat _ | fail, by first | (simp only [hfln, ti5_sz, ti25_sz, List.length_map, List.length_set]; omega) | fail⟩ ?_; conv => whnf) | fail)
   refine ⟨⟨i + 1, by omega⟩, by simp only; omega, ?_⟩
   dsimp only
   rw [← hs]
   refine Weak.sel [0, 1, 2] rfl rfl ?_ ?_ rfl rfl
   ·
    (repeat' (first | exact trivial | refine And.intro ?_ ?_ | fail)) <;> first | exact wk_i (by first | exact hp | exact hp.symm | fail) | rfl | fail
   ·
    (repeat' (first | exact trivial | refine And.intro ?_ ?_ | fail)) <;> first | rfl | exact ren_eq (by first | (simp; done) | fail) (by first | rfl | fail) | exact ren_m64 (by first | rfl | fail) | fail
  ·
   obtain rfl : i = 8 := by omega
   rw [hf8]
   conv => whnf
   first | refine brF (by rfl) ?_ | fail
   conv => whnf
   repeat (fail)
   refine ok1_callF [0] [false, true] false (q8) rfl rfl ⟨⟨rfl, by first | rfl | fail⟩, by (repeat' (first | exact trivial | refine And.intro ?_ ?_)) <;> first | exact ren_eq (by first | (simp; done) | fail) (by first | rfl | fail) | fail, by first | simp [plainHf, plainB], by first | rfl | fail, ?_⟩
   conv => whnf
   repeat (fail)
   have hDl := padw_len_w T
   obtain ⟨D, hD⟩ : ∃ D, D = padw_w T := ⟨_, rfl⟩
   rw [← hD] at hDl ⊢
   have hDb : D.length < 200000000000000 := by
    rw [hD]
    have h : (padw_w T).length = T.length + 1 + pz_w T.length + 16 := by
     unfold padw_w lenb_w
     rw [List.length_append, List.length_append, List.length_append, lset_len_w, List.length_replicate]; rfl
    have hpl : pz_w T.length < 128 := by unfold pz_w; exact Nat.mod_lt _ (by decide)
    omega
   refine loop_rule ttOk mixed (by kernel_rfl) (ι := { j : Nat // 128 * j ≤ D.length }) (fun j => [(1, .i 64), (5, .i 80), (6, .sl 1 0 8 1 true), (7, .sl 2 0 80 1 true), (8, .u64 down_w), (10, .sl 3 0 D.length 1 false), (11, .i ((128 * j.1 : Nat) : Int))]) (fun j => [some (.ro (T.map .u8)), some (.row 25 ((emL_w (blks_w k0_w h0_w D j.1)).map .u64)), some (.ro (consL.map .u64)), some (.ro (D.map .u8))]) (fun _ => 4) (fun j => D.length - 128 * j.1) ⟨0, by omega⟩ ?_ ?_
   ·
    have hz := blks0_w D
    dsimp only
    rw [hz]
    refine Weak.sel [0, 1, 2, 3] rfl rfl ?_ ?_ rfl rfl
    ·
     (repeat' (first | exact trivial | refine And.intro ?_ ?_ | fail)) <;> first | rfl | fail
    ·
     (repeat' (first | exact trivial | refine And.intro ?_ ?_ | fail)) <;> first | rfl | exact ren_eq (by first | (simp; done) | fail) (by first | rfl | fail) | fail
   ·
    rintro ⟨j, hj⟩
    dsimp only
    have hbs := blkss_w D j
    have hhl := blks_len_w k0_w h0_w_len D j
    obtain ⟨h, hh⟩ : ∃ h, h = blks_w k0_w h0_w D j := ⟨_, rfl⟩
    rw [← hh] at hbs hhl ⊢
    by_cases hc : 128 * (j + 1) ≤ D.length
    ·
     have hlt : decide (((128 * j : Nat) : Int) < (D.length : Int)) = true := by simp; omega
     obtain ⟨b, hb⟩ : ∃ b, b = (D.drop (128 * j)).take 128 := ⟨_, rfl⟩
     rw [← hb] at hbs
     have hbg : ∀ i, i < 128 → D.getD (128 * j + i) 0 = b.getD i 0 := fun i hi => by
      rw [hb, List.getD_eq_getElem?_getD, List.getD_eq_getElem?_getD, List.getElem?_take_of_lt hi, List.getElem?_drop]
     have hbl : b.length = 128 := by rw [hb, List.length_take, List.length_drop]; omega
     conv => whnf
     first | refine brT (by exact hlt) ?_ | fail
     conv => whnf
     repeat (fail)
     refine SWp.weak (Weak.virt 12 25 1 rfl) ?_
     refine loop_rule ttOk mixed (by kernel_rfl) (ι := { t : Nat // t ≤ 16 }) (fun t => [(1, .i 64), (5, .i 80), (6, .sl 1 0 8 1 true), (7, .sl 2 0 80 1 true), (8, .u64 down_w), (10, .sl 3 0 D.length 1 false), (11, .i ((128 * j : Nat) : Int)), (12, .sl 4 0 t.1 1 false), (13, .i (t.1 : Int))]) (fun t => [some (.ro (T.map .u8)), some (.row 25 ((emL_w h).map .u64)), some (.ro (consL.map .u64)), some (.ro (D.map .u8)), some (.row 25 (((List.range t.1).map (fun s => emb_w (wf_w b s 8))).map .u64))]) (fun _ => 5) (fun t => 16 - t.1) ⟨0, by omega⟩ ?_ ?_
     ·
      refine Weak.sel [0, 1, 2, 3, 4] rfl rfl ?_ ?_ rfl rfl
      ·
       (repeat' (first | exact trivial | refine And.intro ?_ ?_ | fail)) <;> first | rfl | fail
      ·
       (repeat' (first | exact trivial | refine And.intro ?_ ?_ | fail)) <;> first | rfl | exact ren_eq (by first | (simp; done) | fail) (by first | rfl | fail) | fail
     ·
      rintro ⟨t, ht⟩
      dsimp only
      have hws := rws_s_w b t
      by_cases ht2 : t < 16
      ·
       have hlt2 : decide ((t : Int) < 16) = true := by simp; omega
       have hp := rwp t (by omega)
       obtain ⟨Y, hY⟩ : ∃ Y, Y = (List.range t).map (fun s => emb_w (wf_w b s 8)) := ⟨_, rfl⟩
       have hYl : Y.length = t := by rw [hY]; simp
       rw [← hY] at hws ⊢
       conv => whnf
       first | refine brT (by exact hlt2) ?_ | fail
       conv => whnf
       repeat (fail)
       refine loop_rule ttOk mixed (by kernel_rfl) (ι := { m : Nat // m ≤ 8 }) (fun m => [(1, .i 64), (5, .i 80), (6, .sl 1 0 8 1 true), (7, .sl 2 0 80 1 true), (8, .u64 down_w), (10, .sl 3 0 D.length 1 false), (11, .i ((128 * j : Nat) : Int)), (12, .sl 4 0 t 1 false), (13, .i (t : Int)), (14, .u64 (emb_w (wf_w b t m.1))), (15, .i (m.1 : Int))]) (fun m => [some (.ro (T.map .u8)), some (.row 25 ((emL_w h).map .u64)), some (.ro (consL.map .u64)), some (.ro (D.map .u8)), some (.row 25 (Y.map .u64))]) (fun _ => 5) (fun m => 8 - m.1) ⟨0, by omega⟩ ?_ ?_
       ·
        have hz := wfz_w b t
        dsimp only
        rw [hz]
        refine Weak.sel [0, 1, 2, 3, 4] rfl rfl ?_ ?_ rfl rfl
        ·
         (repeat' (first | exact trivial | refine And.intro ?_ ?_ | fail)) <;> first | rfl | fail
        ·
         (repeat' (first | exact trivial | refine And.intro ?_ ?_ | fail)) <;> first | rfl | exact ren_eq (by first | (simp; done) | fail) (by first | rfl | fail) | fail
       ·
        rintro ⟨m, hm⟩
        dsimp only
        by_cases hm2 : m < 8
        ·
         have hlt3 : decide ((m : Int) < w64 (Int.tdiv 64 8)) = true := by
          rw [show w64 (Int.tdiv 64 8) = 8 from by decide]; simp; omega
         have hpm := rwp m (by omega)
         have hti : w64 (Int.tdiv (w64 ((t : Int) * 64)) 8) = ((8 * t : Nat) : Int) := tix_w t ht2
         have hix : w64 (w64 (((128 * j : Nat) : Int) + w64 (Int.tdiv (w64 ((t : Int) * 64)) 8)) + (m : Int)) = ((128 * j + (8 * t + m) : Nat) : Int) := by
          rw [hti]; exact ix3 _ _ _ (by omega)
         have hwr := wf_ref_w b t m hm2
         rw [← hbg (8 * t + m) (by omega)] at hwr
         have hin : 128 * j + (8 * t + m) < D.length := by omega
         conv => whnf
         repeat (first | (refine Exists.intro _ (And.intro rfl ?_); conv => whnf) | fail)
         first | refine brT (by exact hlt3) ?_ | fail
         conv => whnf
         repeat (first | (refine Exists.intro _ (And.intro (sload_u8 (i := 128 * j + (8 * t + m)) (by first | rfl | omega | fail) (by first | omega | fail)) ?_); conv => whnf) | (refine Exists.intro _ (And.intro (idx_i (m := 128 * j + (8 * t + m)) (by first | rfl | omega | fail)) ?_); conv => whnf) | (refine Exists.intro _ (And.intro rfl ?_); conv => whnf) | (refine And.intro (by first | omega | fail) ?_; conv => whnf) | fail)
         rw [hwr]
         refine ⟨⟨m + 1, by omega⟩, by simp only; omega, ?_⟩
         dsimp only
         refine Weak.sel [0, 1, 2, 3, 4] rfl rfl ?_ ?_ rfl rfl
         ·
          (repeat' (first | exact trivial | refine And.intro ?_ ?_ | fail)) <;> first | exact wk_i (by first | exact hpm | exact hpm.symm | fail) | rfl | fail
         ·
          (repeat' (first | exact trivial | refine And.intro ?_ ?_ | fail)) <;> first | rfl | exact ren_eq (by first | (simp; done) | fail) (by first | rfl | fail) | fail
        ·
         obtain rfl : m = 8 := by omega
         have hlt3 : decide ((8 : Int) < w64 (Int.tdiv 64 8)) = false := by decide
         obtain ⟨x, hx⟩ : ∃ x, x = emb_w (wf_w b t 8) := ⟨_, rfl⟩
         rw [← hx] at hws ⊢
         have hap : (Y ++ [x]).map SV.u64 = List.take (t * 1) (List.drop 0 (Y.map SV.u64)) ++ List.take (1 * 1) (List.drop 0 [SV.u64 x]) := by
          rw [List.drop_zero, List.take_of_length_le (l := Y.map SV.u64) (by rw [List.length_map]; omega), List.map_append]; rfl
         conv => whnf
         repeat (first | (refine brF rfl ?_; conv => whnf) | (refine Exists.intro _ (And.intro rfl ?_); conv => whnf) | fail)
         refine And.intro ⟨by show 0 + t * 1 ≤ (Y.map SV.u64).length; rw [List.length_map]; omega, Nat.le_refl 1, by show (t + 1) * 8 ≤ _; omega⟩ ?_
         conv => whnf
         repeat (fail)
         refine ⟨⟨t + 1, by omega⟩, by simp only; omega, ?_⟩
         dsimp only
         rw [hws]
         refine Weak.sel [0, 1, 2, 3, 6] rfl rfl ?_ ?_ rfl rfl
         ·
          (repeat' (first | exact trivial | refine And.intro ?_ ?_ | fail)) <;> first | exact wk_i (by first | exact hp | exact hp.symm | fail) | rfl | fail
         ·
          (repeat' (first | exact trivial | exact ren_eq (plainL_u64 _) hap | refine And.intro ?_ ?_ | fail)) <;> first | rfl | exact ren_eq (by first | (simp; done) | fail) (by first | rfl | fail) | fail
      ·
       obtain rfl : t = 16 := by omega
       rw [rws_16_w]
       conv => whnf
       first | refine brF (by rfl) ?_ | fail
       conv => whnf
       repeat (fail)
       refine loop_rule ttOk mixed (by kernel_rfl) (ι := { t : Nat // t ≤ 80 - 16 }) (fun t => [(1, .i 64), (5, .i 80), (6, .sl 1 0 8 1 true), (7, .sl 2 0 80 1 true), (8, .u64 down_w), (10, .sl 3 0 D.length 1 false), (11, .i ((128 * j : Nat) : Int)), (12, .sl 4 0 (t.1 + 16) 1 false), (16, .i ((t.1 + 16 : Nat) : Int))]) (fun t => [some (.ro (T.map .u8)), some (.row 25 ((emL_w h).map .u64)), some (.ro (consL.map .u64)), some (.ro (D.map .u8)), some (.row 25 ((emL_w ((wex_w b t.1).take (t.1 + 16))).map .u64))]) (fun _ => 5) (fun t => 80 - t.1) ⟨0, by omega⟩ ?_ ?_
       ·
        refine Weak.sel [0, 1, 2, 3, 4] rfl rfl ?_ ?_ rfl rfl
        ·
         (repeat' (first | exact trivial | refine And.intro ?_ ?_ | fail)) <;> first | rfl | fail
        ·
         (repeat' (first | exact trivial | refine And.intro ?_ ?_ | fail)) <;> first | rfl | exact ren_eq (by first | (simp; done) | fail) (by first | rfl | fail) | fail
       ·
        rintro ⟨t, ht3⟩
        dsimp only
        have hwl := wex_len_w b t
        by_cases ht4 : t < 80 - 16
        ·
         have hlt : decide (((t + 16 : Nat) : Int) < 80) = true := by simp; omega
         have h14 : w64 (((t + 16 : Nat) : Int) - 2) = ((t + 14 : Nat) : Int) := wm16 t 2 (by omega) (by omega)
         have h9 : w64 (((t + 16 : Nat) : Int) - 7) = ((t + 9 : Nat) : Int) := wm16 t 7 (by omega) (by omega)
         have h1 : w64 (((t + 16 : Nat) : Int) - 15) = ((t + 1 : Nat) : Int) := wm16 t 15 (by omega) (by omega)
         have h0 : w64 (((t + 16 : Nat) : Int) - 16) = ((t : Nat) : Int) := wm16 t 16 (by omega) (by omega)
         have hp : w64 (((t + 16 : Nat) : Int) + 1) = ((t + 1 + 16 : Nat) : Int) := by simp only [w64_eq]; omega
         have hnew := wex_new_w b t ht4
         have htk := wex_take_w b t ht4
         have hgt : ∀ i, i < t + 16 → (emL_w ((wex_w b t).take (t + 16))).getD i 0 = emb_w ((wex_w b t).getD i 0) := fun i hi => by
          rw [emL_get_w _ i (by rw [List.length_take, hwl]; omega), wex_old_w b t i (by omega) hi]
         have g14 := hgt (t + 14) (by omega)
         have g9 := hgt (t + 9) (by omega)
         have g1 := hgt (t + 1) (by omega)
         have g0 := hgt t (by omega)
         obtain ⟨a14, ha14⟩ : ∃ a, a = (wex_w b t).getD (t + 14) 0 := ⟨_, rfl⟩
         obtain ⟨a9, ha9⟩ : ∃ a, a = (wex_w b t).getD (t + 9) 0 := ⟨_, rfl⟩
         obtain ⟨a1, ha1⟩ : ∃ a, a = (wex_w b t).getD (t + 1) 0 := ⟨_, rfl⟩
         obtain ⟨a0, ha0⟩ : ∃ a, a = (wex_w b t).getD t 0 := ⟨_, rfl⟩
         rw [← ha14] at g14 hnew
         rw [← ha9] at g9 hnew
         rw [← ha1] at g1 hnew
         rw [← ha0] at g0 hnew
         obtain ⟨Y, hY⟩ : ∃ Y, Y = emL_w ((wex_w b t).take (t + 16)) := ⟨_, rfl⟩
         have hYl : Y.length = t + 16 := by rw [hY, emL_len_w, List.length_take, hwl]; omega
         obtain ⟨v, hv⟩ : ∃ v, v = (wex_w b (t + 1)).getD (t + 16) 0 := ⟨_, rfl⟩
         have hYs : emL_w ((wex_w b (t + 1)).take (t + 1 + 16)) = Y ++ [emb_w v] := by
          rw [htk, hY, ← hv]; unfold emL_w; rw [List.map_append]; rfl
         rw [← hv] at hnew
         rw [← hY] at g14 g9 g1 g0 ⊢
         have q3 := f150_w_3 a14
         have q2 := f150_w_2 a1
         obtain ⟨s3, hs3⟩ : ∃ s, s = small_w a14 19 61 6 := ⟨_, rfl⟩
         obtain ⟨s2, hs2⟩ : ∃ s, s = small_w a1 1 8 7 := ⟨_, rfl⟩
         rw [← hs3] at q3 hnew
         rw [← hs2] at q2 hnew
         have qc := f149_w (emb_w s3 + emb_w a9 + emb_w s2 + emb_w a0)
         rw [sum4_w, ← hnew] at qc
         obtain ⟨x, hx⟩ : ∃ x, x = emb_w v := ⟨_, rfl⟩
         rw [← hx] at qc hYs
         have hap : (Y ++ [x]).map SV.u64 = List.take ((t + 16) * 1) (List.drop 0 (Y.map SV.u64)) ++ List.take (1 * 1) (List.drop 0 [SV.u64 x]) := by
          rw [List.drop_zero, List.take_of_length_le (l := Y.map SV.u64) (by rw [List.length_map]; omega), List.map_append]; rfl
         clear hs3 hs2 hx hv hnew ha14 ha9 ha1 ha0 hgt htk
         conv => whnf
         first | refine brT (by exact hlt) ?_ | fail
         conv => whnf
         repeat (first | (refine Exists.intro _ (And.intro (sload_u64 (i := t + 14) (by first | rfl | omega | fail) (by first | omega | fail)) ?_); conv => whnf) | (refine Exists.intro _ (And.intro (idx_i (m := t + 14) (by first | rfl | omega | fail)) ?_); conv => whnf) | (refine And.intro (by first | omega | fail) ?_; conv => whnf) | fail)
         rw [g14]
         refine ok1_callF [] [] true (q3) rfl rfl ⟨⟨rfl, by first | rfl | fail⟩, trivial, by first | rfl | fail, by first | rfl | fail, ?_⟩
         conv => whnf
         repeat (first | (refine Exists.intro _ (And.intro (sload_u64 (i := t + 9) (by first | rfl | omega | fail) (by first | omega | fail)) ?_); conv => whnf) | (refine Exists.intro _ (And.intro (idx_i (m := t + 9) (by first | rfl | omega | fail)) ?_); conv => whnf) | (refine Exists.intro _ (And.intro (sload_u64 (i := t + 1) (by first | rfl | omega | fail) (by first | omega | fail)) ?_); conv => whnf) | (refine Exists.intro _ (And.intro (idx_i (m := t + 1) (by first | rfl | omega | fail)) ?_); conv => whnf) | (refine And.intro (by first | omega | fail) ?_; conv => whnf) | fail)
         rw [g9, g1]
         refine ok1_callF [] [] true (q2) rfl rfl ⟨⟨rfl, by first | rfl | fail⟩, trivial, by first | rfl | fail, by first | rfl | fail, ?_⟩
         conv => whnf
         repeat (first | (refine Exists.intro _ (And.intro (sload_u64 (i := t) (by first | rfl | omega | fail) (by first | omega | fail)) ?_); conv => whnf) | (refine Exists.intro _ (And.intro (idx_i (m := t) (by first | rfl | omega | fail)) ?_); conv => whnf) | (refine And.intro (by first | omega | fail) ?_; conv => whnf) | fail)
         rw [g0]
         refine ok1_callF [] [] true (qc) rfl rfl ⟨⟨rfl, by first | rfl | fail⟩, trivial, by first | rfl | fail, by first | rfl | fail, ?_⟩
         conv => whnf
         repeat (first | (refine Exists.intro _ (And.intro rfl ?_); conv => whnf) | fail)
         refine And.intro ⟨by show 0 + (t + 16) * 1 ≤ (Y.map SV.u64).length; rw [List.length_map]; omega, Nat.le_refl 1, by show (t + 16 + 1) * 8 ≤ _; omega⟩ ?_
         conv => whnf
         repeat (first | (refine And.intro (by kernel_rfl) ?_; conv => whnf) | fail)
         refine ⟨⟨t + 1, by omega⟩, by simp only; omega, ?_⟩
         dsimp only
         rw [hYs]
         refine Weak.sel [0, 1, 2, 3, 6] rfl rfl ?_ ?_ rfl rfl
         ·
          (repeat' (first | exact trivial | refine And.intro ?_ ?_ | fail)) <;> first | exact wk_i (by first | exact hp | exact hp.symm | fail) | rfl | fail
         ·
          (repeat' (first | exact trivial | exact ren_eq (plainL_u64 _) hap | refine And.intro ?_ ?_ | fail)) <;> first | rfl | exact ren_eq (by first | (simp; done) | fail) (by first | rfl | fail) | fail
        ·
         obtain rfl : t = 80 - 16 := by omega
         have hfull : (wex_w b (80 - 16)).take (80 - 16 + 16) = wex_w b (80 - 16) := List.take_of_length_le (by omega)
         rw [hfull]
         have hel := emL_len_w h
         rw [hhl] at hel
         have hvc : List.take (0 * ti25.sz) (List.drop 0 (reps 0 (SV.u64 0).cells)) ++ List.take (8 * ti25.sz) (List.drop 0 (SB.row 25 ((emL_w h).map SV.u64)).cells) = (emL_w h).map SV.u64 := by
          show ([] : List SV) ++ List.take (8 * 1) ((emL_w h).map SV.u64) = _
          rw [List.nil_append, List.take_of_length_le (by rw [List.length_map]; omega)]
         conv => whnf
         first | refine brF (by rfl) ?_ | fail
         conv => whnf
         repeat (first | (refine Exists.intro _ (And.intro rfl ?_); conv => whnf) | (refine And.intro ⟨by first | omega | fail, by first | (simp [hel]; done) | fail, by first | exact Nat.le_of_ble_eq_true rfl | fail⟩ ?_; conv => whnf) | fail)
         rw [hvc]
         refine loop_rule ttOk mixed (by kernel_rfl) (ι := { t : Nat // t ≤ 80 }) (fun t => [(1, .i 64), (5, .i 80), (6, .sl 1 0 8 1 true), (7, .sl 2 0 80 1 true), (8, .u64 down_w), (10, .sl 3 0 D.length 1 false), (11, .i ((128 * j : Nat) : Int)), (12, .sl 4 0 80 1 false), (17, .sl 5 0 8 1 (vf t.1)), (18, .i (t.1 : Int))]) (fun t => [some (.ro (T.map .u8)), some (.row 25 ((emL_w h).map .u64)), some (.ro (consL.map .u64)), some (.ro (D.map .u8)), some (.row 25 ((emL_w (wex_w b (80 - 16))).map .u64)), some (.row 25 ((emL_w (rnds_w k0_w h b t.1)).map .u64))]) (fun _ => 6) (fun t => 80 - t.1) ⟨0, by omega⟩ ?_ ?_
         ·
          have hz := rnds_w_z k0_w h b
          dsimp only
          rw [hz]
          refine Weak.sel [0, 1, 2, 3, 4, 6] rfl rfl ?_ ?_ rfl rfl
          ·
           (repeat' (first | exact trivial | refine And.intro ?_ ?_ | fail)) <;> first | rfl | fail
          ·
           (repeat' (first | exact trivial | refine And.intro ?_ ?_ | fail)) <;> first | rfl | exact ren_eq (by first | (simp; done) | fail) (by first | rfl | fail) | fail
         ·
          rintro ⟨t, ht5⟩
          dsimp only
          have hrl := rnds_len_w (k := k0_w) hhl b t
          have hrs := rnds_w_s k0_w h b t
          by_cases ht6 : t < 80
          ·
           have hlt : decide ((t : Int) < 80) = true := by simp; omega
           have hp := rwp t (by omega)
           have hke := k0e_w t (by omega)
           have hwe := emL_get_w (wex_w b (80 - 16)) t (by omega)
           have hdz : down_w ≠ 0 := by unfold down_w; decide
           have hYl := emL_len_w (wex_w b (80 - 16))
           rw [hwl] at hYl
           have q := f151_w (rnds_w k0_w h b t) hrl (k0_w.getD t 0) ((wex_w b (80 - 16)).getD t 0) (vf t)
           rw [← hrs] at q
           conv => whnf
           first | refine brT (by exact hlt) ?_ | fail
           conv => whnf
           repeat (first | (refine Exists.intro _ (And.intro (sload_u64 (i := t) (by first | rfl | omega | fail) (by first | omega | fail)) ?_); conv => whnf) | (refine Exists.intro _ (And.intro (idx_i (m := t) (by first | rfl | fail)) ?_); conv => whnf) | (refine And.intro (by first | omega | fail) ?_; conv => whnf) | fail)
           refine ⟨_, sarith_quo64b hdz, ?_⟩
           conv => whnf
           repeat (first | (refine Exists.intro _ (And.intro (sload_u64 (i := t) (by first | rfl | omega | fail) (by first | omega | fail)) ?_); conv => whnf) | (refine Exists.intro _ (And.intro (idx_i (m := t) (by first | rfl | fail)) ?_); conv => whnf) | (refine And.intro (by first | omega | fail) ?_; conv => whnf) | fail)
           rw [hke, hwe]
           refine ok1_callF [5] [false, true] false (q) rfl rfl ⟨⟨rfl, by first | rfl | fail⟩, by (repeat' (first | exact trivial | refine And.intro ?_ ?_)) <;> first | exact ren_eq (by first | (simp; done) | fail) (by first | rfl | fail) | fail, by first | simp [plainHf, plainB], by first | rfl | fail, ?_⟩
           conv => whnf
           repeat (first | (refine And.intro (by kernel_rfl) ?_; conv => whnf) | fail)
           refine ⟨⟨t + 1, by omega⟩, by simp only; omega, ?_⟩
           dsimp only
           refine Weak.sel [0, 1, 2, 3, 4, 6] rfl rfl ?_ ?_ rfl rfl
           ·
            (repeat' (first | exact trivial | refine And.intro ?_ ?_ | fail)) <;> first | exact wk_i (by first | exact hp | exact hp.symm | fail) | rfl | fail
           ·
            (repeat' (first | exact trivial | refine And.intro ?_ ?_ | fail)) <;> first | rfl | exact ren_eq (by first | (simp; done) | fail) (by first | rfl | fail) | fail
          ·
           obtain rfl : t = 80 := by omega
           obtain ⟨X, hX⟩ : ∃ X, X = rnds_w k0_w h b 80 := ⟨_, rfl⟩
           rw [← hX] at hrl ⊢
           conv => whnf
           first | refine brF (by rfl) ?_ | fail
           conv => whnf
           repeat (fail)
           refine loop_rule ttOk mixed (by kernel_rfl) (ι := { i : Nat // i ≤ 8 }) (fun i => [(1, .i 64), (5, .i 80), (6, .sl 1 0 8 1 true), (7, .sl 2 0 80 1 true), (8, .u64 down_w), (10, .sl 3 0 D.length 1 false), (11, .i ((128 * j : Nat) : Int)), (17, .sl 4 0 8 1 true), (19, .i (i.1 : Int))]) (fun i => [some (.ro (T.map .u8)), some (.row 25 ((emL_w (addw_w h X i.1)).map .u64)), some (.ro (consL.map .u64)), some (.ro (D.map .u8)), some (.ro ((emL_w X).map .u64))]) (fun _ => 5) (fun i => 8 - i.1) ⟨0, by omega⟩ ?_ ?_
           ·
            have hz := addw_w_z h X
            dsimp only
            rw [hz]
            refine Weak.sel [0, 1, 2, 3, 5] rfl rfl ?_ ?_ rfl rfl
            ·
             (repeat' (first | exact trivial | refine And.intro ?_ ?_ | fail)) <;> first | rfl | fail
            ·
             (repeat' (first | exact trivial | refine And.intro ?_ ?_ | fail)) <;> first | rfl | exact ren_eq (by first | (simp; done) | fail) (by first | rfl | fail) | fail
           ·
            rintro ⟨i, hi7⟩
            dsimp only
            have hal := addw_len_w hhl X i
            have hall := emL_len_w (addw_w h X i)
            rw [hal] at hall
            have hXl := emL_len_w X
            rw [hrl] at hXl
            have has := addw_w_s h X i
            by_cases hi6 : i < 8
            ·
             have hlt : decide ((i : Int) < 8) = true := by simp; omega
             have hp := rwp i (by omega)
             have ga := emL_get_w (addw_w h X i) i (by omega)
             have gx := emL_get_w X i (by omega)
             have qc := f149_w (emb_w ((addw_w h X i).getD i 0) + emb_w (X.getD i 0))
             rw [sum2_w] at qc
             have hse : (emL_w (addw_w h X i)).set i (emb_w ((addw_w h X i).getD i 0 + X.getD i 0)) = emL_w (addw_w h X (i + 1)) := by
              rw [has]; unfold emL_w; rw [List.map_set]
             conv => whnf
             first | refine brT (by exact hlt) ?_ | fail
             conv => whnf
             repeat (first | (refine Exists.intro _ (And.intro (sload_u64 (i := i) (by first | rfl | omega | fail) (by first | omega | fail)) ?_); conv => whnf) | (refine Exists.intro _ (And.intro (idx_i (m := i) (by first | rfl | fail)) ?_); conv => whnf) | (refine And.intro (by first | omega | fail) ?_; conv => whnf) | fail)
             rw [ga, gx]
             refine ok1_callF [] [] true (qc) rfl rfl ⟨⟨rfl, by first | rfl | fail⟩, trivial, by first | rfl | fail, by first | rfl | fail, ?_⟩
             conv => whnf
             repeat (first | (refine Exists.intro _ (And.intro (sput_m64 (i := i) (by first | rfl | omega | fail)) ?_); conv => whnf) | (refine Exists.intro _ (And.intro (idx_i (m := i) (by first | rfl | fail)) ?_); conv => whnf) | (refine And.intro (by first | omega | (simp; omega) | fail) ?_; conv => whnf) | (refine And.intro (by kernel_rfl) ?_; conv => whnf) | fail)
             rw [hse]
             refine ⟨⟨i + 1, by omega⟩, by simp only; omega, ?_⟩
             dsimp only
             refine Weak.sel [0, 1, 2, 3, 4] rfl rfl ?_ ?_ rfl rfl
             ·
              (repeat' (first | exact trivial | refine And.intro ?_ ?_ | fail)) <;> first | exact wk_i (by first | exact hp | exact hp.symm | fail) | rfl | fail
             ·
              (repeat' (first | exact trivial | refine And.intro ?_ ?_ | fail)) <;> first | rfl | exact ren_eq (by first | (simp; done) | fail) (by first | rfl | fail) | fail
            ·
             obtain rfl : i = 8 := by omega
             have hnx : w64 (((128 * j : Nat) : Int) + w64 (2 * 64)) = ((128 * (j + 1) : Nat) : Int) := by
              rw [show w64 (2 * 64) = ((128 : Nat) : Int) from by decide, w64_of (by omega) (by omega)]; omega
             have hcs : addw_w h X 8 = blks_w k0_w h0_w D (j + 1) := by rw [hbs, comp_w_e, hX]
             rw [hcs]
             conv => whnf
             first | refine brF (by rfl) ?_ | fail
             conv => whnf
             repeat (fail)
             refine ⟨⟨j + 1, hc⟩, by simp only; omega, ?_⟩
             dsimp only
             refine Weak.sel [0, 1, 2, 3] rfl rfl ?_ ?_ rfl rfl
             ·
              (repeat' (first | exact trivial | refine And.intro ?_ ?_ | fail)) <;> first | exact wk_i (by first | exact hnx | exact hnx.symm | fail) | rfl | fail
             ·
              (repeat' (first | exact trivial | refine And.intro ?_ ?_ | fail)) <;> first | rfl | exact ren_eq (by first | (simp; done) | fail) (by first | rfl | fail) | fail
    ·
     obtain rfl : j = D.length / 128 := by omega
     have hge : decide (((128 * (D.length / 128) : Nat) : Int) < (D.length : Int)) = false := by simp; omega
     have hfin : outl_w h (8 * 8) = hash_w k0_w h0_w T := by rw [hh, hD]; exact rhash_w T
     rw [← hfin]
     have hel := emL_len_w h
     rw [hhl] at hel
     conv => whnf
     first | refine brF (by exact hge) ?_ | fail
     conv => whnf
     repeat (fail)
     refine SWp.weak (Weak.virt 20 5 1 rfl) ?_
     refine loop_rule ttOk mixed (by kernel_rfl) (ι := { i : Nat // i ≤ 8 }) (fun i => [(1, .i 64), (6, .sl 1 0 8 1 true), (20, .sl 4 0 (8 * i.1) 1 false), (21, .i (i.1 : Int))]) (fun i => [some (.ro (T.map .u8)), some (.row 25 ((emL_w h).map .u64)), some (.ro (consL.map .u64)), some (.ro (D.map .u8)), some (.row 5 ((outl_w h (8 * i.1)).map .u8))]) (fun _ => 5) (fun i => 8 - i.1) ⟨0, by omega⟩ ?_ ?_
     ·
      have hz := rout_z_w h
      dsimp only
      rw [hz]
      refine Weak.sel [0, 1, 2, 3, 4] rfl rfl ?_ ?_ rfl rfl
      ·
       (repeat' (first | exact trivial | refine And.intro ?_ ?_ | fail)) <;> first | rfl | fail
      ·
       (repeat' (first | exact trivial | refine And.intro ?_ ?_ | fail)) <;> first | rfl | exact ren_eq (by first | (simp; done) | fail) (by first | rfl | fail) | fail
     ·
      rintro ⟨i, hi7⟩
      dsimp only
      by_cases hi6 : i < 8
      ·
       have hlt : decide ((i : Int) < 8) = true := by simp; omega
       have hp := rwp i (by omega)
       conv => whnf
       first | refine brT (by exact hlt) ?_ | fail
       conv => whnf
       repeat (first | (refine Exists.intro _ (And.intro rfl ?_); conv => whnf) | fail)
       refine loop_rule ttOk mixed (by kernel_rfl) (ι := { m : Nat // m ≤ 8 }) (fun m => [(1, .i 64), (6, .sl 1 0 8 1 true), (20, .sl 4 0 (8 * i + m.1) 1 false), (21, .i (i : Int)), (22, .i (8 - 1 - (m.1 : Int)))]) (fun m => [some (.ro (T.map .u8)), some (.row 25 ((emL_w h).map .u64)), some (.ro (consL.map .u64)), some (.ro (D.map .u8)), some (.row 5 ((outl_w h (8 * i + m.1)).map .u8))]) (fun _ => 5) (fun m => 8 - m.1) ⟨0, by omega⟩ ?_ ?_
       ·
        refine Weak.sel [0, 1, 2, 3, 4] rfl rfl ?_ ?_ rfl rfl
        ·
         (repeat' (first | exact trivial | refine And.intro ?_ ?_ | fail)) <;> first | rfl | fail
        ·
         (repeat' (first | exact trivial | refine And.intro ?_ ?_ | fail)) <;> first | rfl | exact ren_eq (by first | (simp; done) | fail) (by first | rfl | fail) | fail
       ·
        rintro ⟨m, hm⟩
        dsimp only
        have hol := outl_len_w h (8 * i + m)
        by_cases hm4 : m < 8
        ·
         have hge2 : decide ((8 - 1 - (m : Int)) ≥ 0) = true := by simp; omega
         have h8 : w64 (8 * (8 - 1 - (m : Int))) = ((8 * (8 - 1 - m) : Nat) : Int) := by simp only [w64_eq]; omega
         have hp2 : w64 (8 - 1 - (m : Int) - 1) = 8 - 1 - ((m + 1 : Nat) : Int) := by simp only [w64_eq]; omega
         have hs := rout_s_w h i m hm4
         have gx := emL_get_w h i (by omega)
         have qp := f147 (8 * (8 - 1 - m)) (by omega)
         have hnz := pow_nz (n := 8 * (8 - 1 - m)) (by omega)
         have hsh := shr_w_eq (h.getD i 0) (8 * (8 - 1 - m)) (by omega)
         have hm2 := mod256 (emb_w (shr64 (h.getD i 0) (8 * (8 - 1 - m))))
         rw [emb_u8_w] at hm2
         rw [← h8] at qp
         obtain ⟨Z, hZ⟩ : ∃ Z, Z = outl_w h (8 * i + m) := ⟨_, rfl⟩
         rw [← hZ] at hol hs ⊢
         obtain ⟨c, hc2⟩ : ∃ c, c = (shr64 (h.getD i 0) (8 * (8 - 1 - m))).toUInt8 := ⟨_, rfl⟩
         rw [← hc2] at hs hm2
         have hap4 : (Z ++ [c]).map SV.u8 = List.take ((8 * i + m) * 1) (List.drop 0 (Z.map SV.u8)) ++ List.take (1 * 1) (List.drop 0 [SV.u8 c]) := (rcat8 (o := 0) (n := 8 * i + m) (E := Z) (b := [c]) (by omega) rfl).symm
         conv => whnf
         first | refine brT (by exact hge2) ?_ | fail
         conv => whnf
         repeat (first | (refine Exists.intro _ (And.intro (sload_u64 (i := i) (by first | rfl | omega | fail) (by first | omega | fail)) ?_); conv => whnf) | (refine Exists.intro _ (And.intro (idx_i (m := i) (by first | rfl | fail)) ?_); conv => whnf) | (refine And.intro (by first | omega | fail) ?_; conv => whnf) | fail)
         refine ok1_callF [] [] true (qp) rfl rfl ⟨⟨rfl, by first | rfl | fail⟩, trivial, by first | rfl | fail, by first | rfl | fail, ?_⟩
         conv => whnf
         repeat (fail)
         refine ⟨_, sarith_quo64b hnz, ?_⟩
         conv => whnf
         rw [gx, hsh]
         repeat (first | (refine Exists.intro _ (And.intro rfl ?_); conv => whnf) | (refine And.intro (by first | omega | (simp [ti5]; omega)) ?_; conv => whnf) | (refine And.intro (by kernel_rfl) ?_; conv => whnf) | fail)
         rw [hm2]
         repeat (fail)
         refine ⟨⟨m + 1, by omega⟩, by simp only; omega, ?_⟩
         dsimp only
         rw [hs]
         refine Weak.sel [0, 1, 2, 3, 6] rfl rfl ?_ ?_ rfl rfl
         ·
          (repeat' (first | exact trivial | refine And.intro ?_ ?_ | fail)) <;> first | exact wk_i (by first | exact hp2 | exact hp2.symm | fail) | rfl | fail
         ·
          (repeat' (first | exact trivial | exact ren_eq (plainL_u8 _) hap4 | refine And.intro ?_ ?_ | fail)) <;> first | rfl | exact ren_eq (by first | (simp; done) | fail) (by first | rfl | fail) | fail
        ·
         obtain rfl : m = 8 := by omega
         conv => whnf
         first | refine brF (by rfl) ?_ | fail
         conv => whnf
         repeat (fail)
         refine ⟨⟨i + 1, by omega⟩, by simp only; omega, ?_⟩
         dsimp only
         rw [show 8 * (i + 1) = 8 * i + 8 by omega]
         refine Weak.sel [0, 1, 2, 3, 4] rfl rfl ?_ ?_ rfl rfl
         ·
          (repeat' (first | exact trivial | refine And.intro ?_ ?_ | fail)) <;> first | exact wk_i (by first | exact hp | exact hp.symm | fail) | rfl | fail
         ·
          (repeat' (first | exact trivial | refine And.intro ?_ ?_ | fail)) <;> first | rfl | exact ren_eq (by first | (simp; done) | fail) (by first | rfl | fail) | fail
      ·
       obtain rfl : i = 8 := by omega
       conv => whnf
       first | refine brF (by rfl) ?_ | fail
       conv => whnf
       refine ⟨[0, 4], ?_, rfl, rfl, ?_, rfl⟩
       ·
        (repeat' (fail)) <;> first | rfl | fail
       ·
        (repeat' (first | exact trivial | refine And.intro ?_ ?_ | fail)) <;> first | rfl | exact ren_eq (by first | (simp; done) | fail) (by first | rfl | fail) | fail
end
end Go.Sh
namespace Go.Sh
section
variable {P : Program} {ρ : Ren} {H : Heap} {w : World}
theorem wrap_ok (m : Nat) (h : m ≤ 140737488355328) : IntKind.i64.wrap (m : Int) = (m : Int) := by
 have := w64_eq (m : Int); unfold w64 at this; rw [this]; omega
theorem app_roomZ {t xT ty el sz n m c : Nat} {a : Option Addr} {z : Value} {i : TypeInfo} (hT : P.underlying t = some (.slice el)) (hX : P.underlying xT = some (.int .i64))
  (hi : P.info? el = some i) (hz : i.zero = some z) (hsz : i.size = sz) (hzs : z.cells.size = sz) (h0 : 0 < sz) (hb : m * i.bytes ≤ 140737488355328) (hm : m ≤ 140737488355328) (hroom : n + m ≤ c) :
  (Builtin.append_ #[t, xT] ty #[.slice a n c, .int .i64 (m : Int)]).run P w = (match a with | some a => (storeCells (a.add (n * sz)) (Builtin.zeroCells z.cells m).toList).run P w | none => .ok () w).andThen fun _ w' => .ok (.slice a (n + m) c) w' := by
 have e1 : (underlying xT).run P w = .ok (.int .i64) w := run_und hX
 have e2 : ∀ w : World, (typeInfo el).run P w = .ok i w := fun w => by simp [typeInfo, hi]
 have e3 : ∀ w : World, (zeroValue el).run P w = .ok z w := fun w => by simp [zeroValue, typeInfo, hi, hz]
 have e4 : (sizeOf el).run P w = .ok sz w := by simp [sizeOf, typeInfo, hi, hsz]
 have e5 : ∀ w : World, (asInt (Value.int .i64 (m : Int))).run P w = .ok (m : Int) w := fun w => by simp [asInt, asIntOf]
 have hw := wrap_ok m hm
 have hbig : ¬ ((m : Int) * (i.bytes : Int) > 2 ^ 48) := by
  have : ((m * i.bytes : Nat) : Int) ≤ 140737488355328 := by omega
  rw [Int.natCast_mul] at this; omega
 have hneg : ¬ ((m : Int) < 0) := by omega
 unfold Builtin.append_
 simp only [List.getElem?_toArray, List.getElem?_cons_zero, List.getElem?_cons_succ, Sem.run_bind, run_und hT, Result.andThen_ok, e4, e1, Sem.run_pure, if_true, e5, hw, hneg, if_false, e2, hbig, Int.toNat_natCast, hroom, Bool.not_true, Bool.false_eq_true]
 by_cases hms : m * sz = 0
 ·
  have hm0 : m = 0 := by rcases Nat.mul_eq_zero.1 hms with h | h; exact h; omega
  subst hm0
  simp only [Nat.zero_mul, if_true, Sem.run_pure, Result.andThen_ok]
  cases a <;> simp [Sem.run_pure, Result.andThen, Builtin.zeroCells]
 ·
  simp only [hms, if_false, Sem.run_bind, e3, Result.andThen_ok, Sem.run_pure]
  cases a <;> simp [Sem.run_pure, Result.andThen]
theorem app_growZ {t xT ty el sz n m c : Nat} {a : Option Addr} {z : Value} {olds : List Value} {i : TypeInfo} (hT : P.underlying t = some (.slice el)) (hX : P.underlying xT = some (.int .i64))
  (hi : P.info? el = some i) (hz : i.zero = some z) (hsz : i.size = sz) (h0 : 0 < sz) (hb : m * i.bytes ≤ 140737488355328) (hm : m ≤ 140737488355328) (hnm : n + m ≤ 140737488355328)
  (ho : (Builtin.firstCells sz n (.slice a n c)).run P w.drew = .ok ⟨olds⟩ w.drew) (hg : c < n + m) (hby : 0 < i.bytes) (h48 : Builtin.nextslicecap (n + m) c * i.bytes ≤ 281474976710656) :
  (Builtin.append_ #[t, xT] ty #[.slice a n c, .int .i64 (m : Int)]).run P w = .ok (.slice (some ⟨w.heap.size, 0, none⟩) (n + m) (grownCap w (n + m) c el))
   (w.drew.alloc (.cells ((⟨olds⟩ : Array Value) ++ ⟨(Builtin.zeroCells z.cells m).toList⟩ ++ Builtin.zeroCells z.cells (grownCap w (n + m) c el - (n + m))) el)) := by
 have hn : ¬ (n + m ≤ c) := by omega
 have h48' : ¬ (281474976710656 < Builtin.nextslicecap (n + m) c * i.bytes) := by omega
 have hb0 : ¬ (i.bytes = 0) := by omega
 have e1 : (underlying xT).run P w = .ok (.int .i64) w := run_und hX
 have e2 : ∀ w : World, (typeInfo el).run P w = .ok i w := fun w => by simp [typeInfo, hi]
 have e3 : ∀ w : World, (zeroValue el).run P w = .ok z w := fun w => by simp [zeroValue, typeInfo, hi, hz]
 have e4 : (sizeOf el).run P w = .ok sz w := by simp [sizeOf, typeInfo, hi, hsz]
 have e5 : ∀ w : World, (asInt (Value.int .i64 (m : Int))).run P w = .ok (m : Int) w := fun w => by simp [asInt, asIntOf]
 have hch : (choose (.appendCap (n + m) c el)).run P w = .ok (grownCap w (n + m) c el) w.drew := by
  rw [run_choose]; rfl
 have hbig : (2 : Nat) ^ 48 = 281474976710656 := by decide
 have hw := wrap_ok m hm
 have hbig2 : ¬ ((m : Int) * (i.bytes : Int) > 2 ^ 48) := by
  have : ((m * i.bytes : Nat) : Int) ≤ 140737488355328 := by omega
  rw [Int.natCast_mul] at this; omega
 have hneg : ¬ ((m : Int) < 0) := by omega
 have hmax : ¬ (((n + m : Nat) : Int) > IntKind.i64.max) := by
  have : IntKind.i64.max = 9223372036854775807 := by decide
  rw [this]; omega
 unfold Builtin.append_
 simp only [List.getElem?_toArray, List.getElem?_cons_zero, List.getElem?_cons_succ, Sem.run_bind, run_und hT, Result.andThen_ok, e4, e1, Sem.run_pure, if_true, e5, hw, hneg, if_false, e2, hbig2, Int.toNat_natCast, hn, hmax, false_and, Bool.not_true, Bool.false_eq_true, gt_iff_lt, hbig, h48', hch, run_askRoom, ho]
 by_cases hms : m * sz = 0
 ·
  have hm0 : m = 0 := by rcases Nat.mul_eq_zero.1 hms with h | h; exact h; omega
  subst hm0
  simp only [Nat.zero_mul, if_true, Sem.run_pure, Result.andThen_ok, Sem.run_bind, e3, newRow, run_newObj]
  simp [Builtin.zeroCells]
  rfl
 ·
  simp only [hms, if_false, Sem.run_bind, e3, Result.andThen_ok, Sem.run_pure, newRow, run_newObj]
  rfl
theorem app_row_gen {o : Oper} {x y : Operand} {t xT el sz by_ id nid k n m : Nat} {full : Bool} {l ys : List SV} {rb : RB} {e : Operand → Value} (ho : o.op = .call { callee := .builtin .append, args := #[x, y], argTypes := #[t, xT] })
  {v : Value} (hvs : v.cells.size = sz) (hx : Rel ρ (.sl id k n sz full) (e x)) (hid : H id = some (.row el l)) (hr : ρ id = some rb) (hb : BRel ρ w rb (.row el l)) (hin : k + n * sz ≤ l.length) {news : List Value} (hrn : Rels ρ ys news) (ha : atoms ys = true) (hlen : ys.length = m * sz)
  (hrr : ∀ (a : Option Addr) (c : Nat), n + m ≤ c → (Builtin.append_ #[t, xT] o.type #[.slice a n c, e y]).run P w = (match a with | some a => (storeCells (a.add (n * sz)) news).run P w | none => .ok () w).andThen fun _ w' => .ok (.slice a (n + m) c) w')
  (hgr : ∀ (a : Option Addr) (c : Nat) (olds : List Value), (Builtin.firstCells sz n (.slice a n c)).run P w.drew = .ok ⟨olds⟩ w.drew → c < n + m → Builtin.nextslicecap (n + m) c * by_ ≤ 281474976710656 →
   (Builtin.append_ #[t, xT] o.type #[.slice a n c, e y]).run P w = .ok (.slice (some ⟨w.heap.size, 0, none⟩) (n + m) (grownCap w (n + m) c el)) (w.drew.alloc (.cells ((⟨olds⟩ : Array Value) ++ ⟨news⟩ ++ Builtin.zeroCells v.cells (grownCap w (n + m) c el - (n + m))) el)))
  (hm : (n + m) * by_ ≤ 140737488355328) (hne : id ≠ nid) (hn : ρ nid = none) :
  ∃ v w' ρ', (execOp e o).run P w = .ok (.value v) w' ∧ Chg ρ H w [(id, none), (nid, some (.row el ((l.drop k).take (n * sz) ++ ys)))] ρ' w' ∧ Rel ρ' (.sl nid 0 (n + m) sz false) v := by
 have hsrcx : Src P ρ w (e x) sz n ((l.drop k).take (n * sz)) := src_sl hx hr hb hin
 obtain ⟨olds, _, hfo, hro, hao, hleno, _⟩ := hsrcx
 have hfo1 := hfo (w.drawn + 1)
 have hnl := hrn.length
 have hx0 := hx
 simp only [Rel] at hx
 obtain ⟨rb', a, c, hr', he, hnc, hfull, hdis⟩ := hx
 rw [hr] at hr'; cases hr'
 by_cases hroom : n + m ≤ c
 ·
  by_cases hc0 : c = 0
  ·
   -- nothing there, nothing comes
   subst hc0
   obtain rfl : n = 0 := by omega
   obtain rfl : m = 0 := by omega
   have hy0 : ys = [] := List.eq_nil_of_length_eq_zero (by rw [hlen]; simp)
   subst hy0
   rw [Rels.nil_iff] at hrn; subst hrn
   refine ⟨.slice a 0 0, w, setR ρ nid ⟨0, 0, 0, true⟩, app_run ho ?_, ?_, ?_⟩
   ·
    rw [he, hrr _ _ hroom]
    cases a <;> rfl
   ·
    exact Chg.move hne hid hr rfl hn (fun i o hh => by simp [foot] at hh) (.inl ⟨rfl, by simp⟩) (Fr.refl _ _)
   ·
    simp only [Rel]
    exact ⟨_, a, 0, setR_same _ _ _, rfl, by omega, fun h => (by cases h), .inl rfl⟩
  ·
   obtain ⟨hvirt, ha2, hcap⟩ := hdis.resolve_left hc0
   rcases hb with ⟨hv1, _⟩ | ⟨_, ca, fz, hca, hz, hcs, hla, hlr, hll⟩
   ·
    rw [hvirt] at hv1; cases hv1
   have hcm : (n + m) * sz ≤ c * sz := Nat.mul_le_mul_right _ hroom
   rw [Nat.add_mul] at hcm
   have hst := run_puts (P := P) (o := rb.off + k + n * sz) news 0 hca hz (by omega) (hrn.oneCell ha)
   have hps : (putAt ca (rb.off + k + n * sz) news).size = ca.size := putAt_size _ _ _ (by omega)
   refine ⟨.slice a (n + m) c, World.putCells w rb.blk (rb.off + k + n * sz) news, setR ρ nid ⟨rb.blk, rb.off + k, rb.cap - k, false⟩, app_run ho ?_, ?_, ?_⟩
   ·
    rw [he, hrr _ _ hroom, ha2]
    simp only [add_addr, hst, Nat.add_zero]
    rfl
   ·
    refine Chg.move hne hid hr rfl hn ?_ (.inr ⟨rfl, _, fz, World.putCells_heap w rb.blk _ news hca, hz.put _ _ (by omega), ?_, ?_, ?_, ?_⟩) ?_
    ·
     rintro i o2 ⟨h1, h2, h3⟩
     exact .inl ⟨hvirt, h2, by simp only at h3; omega⟩
    ·
     rw [hps]; simp only; omega
    ·
     simp [atoms] at hao ha ⊢; exact ⟨hao, ha⟩
    ·
     have e1 : ((putAt ca (rb.off + k + n * sz) news).toList.drop (rb.off + k)).take (((l.drop k).take (n * sz) ++ ys)).length = List.take (n * sz) (List.drop k ((ca.toList.drop rb.off).take l.length)) ++ news := by
      have h1 : ((l.drop k).take (n * sz) ++ ys).length = n * sz + news.length := by rw [List.length_append, hleno, hnl]
      rw [h1]
      apply List.ext_getElem?
      intro j
      by_cases hj : j < n * sz + news.length
      ·
       rw [drop_take_get hj, Array.getElem?_toList, putAt_getElem? _ _ _ (by omega)]
       by_cases h2 : j < n * sz
       ·
        rw [if_neg (by omega)]
        rw [List.getElem?_append_left (by simp; omega), List.getElem?_take_of_lt h2, List.getElem?_drop, drop_take_get (by omega), Array.getElem?_toList, Nat.add_assoc]
       ·
        rw [if_pos (by omega)]
        rw [List.getElem?_append_right (by simp; omega)]
        congr 1
        simp; omega
      ·
       rw [List.getElem?_eq_none (by simp; omega)]
       rw [List.getElem?_eq_none (by simp; omega)]
     rw [e1]
     exact ((hlr.drop k).take (n * sz)).append hrn
    ·
     simp only [List.length_append, hleno, hlen]; omega
    ·
     exact Fr.putCells _ _ _ _ _ hca (by omega) (fun o2 h1 h2 => ⟨hvirt, rfl, by omega⟩)
   ·
    simp only [Rel]
    refine ⟨_, a, c, setR_same _ _ _, rfl, hroom, fun h => (by cases h), .inr ⟨rfl, by rw [ha2]; simp, by simp only; omega⟩⟩
 ·
  rw [he] at hfo1
  have hg := hgr a c _ hfo1 (by omega) (growslice_fits (by omega) hm)
  have hge := grownCap_ge w (n + m) c el
  obtain ⟨g1, g2⟩ := grown_row (ρ := ρ) (w := w) (nid := nid) (el := el) hro hao hrn ha hleno hlen hvs hge
  refine ⟨_, _, _, app_run ho (by rw [he]; exact hg), Chg.move hne hid hr rfl hn (fun i o2 hh => .inr (by rw [hh.2.1]; exact Nat.le_refl _)) g1 ?_, g2⟩
  exact (Fr.refl _ w).drew.trans (Fr.alloc (fun i o2 => foot rb (.row el l) i o2) w.drew _) (fun _ _ _ h => h)
theorem zfacts {el by_ : Nat} {z : SV} (hz : pzero P el = some z) (hza : z.atom = true) (hs : psz P el = some 1) (hb : pbytes P el = some by_) :
  ∃ i v, P.info? el = some i ∧ i.zero = some v ∧ v.cells = #[v] ∧ i.size = 1 ∧ i.bytes = by_ ∧ ∀ ρ, Rel ρ z v := by
 obtain ⟨i, v, hi, hv, hr, ht⟩ := zero_of hz
 unfold psz at hs
 unfold pbytes at hb
 rw [hi] at hs hb
 simp only [Option.map_some, Option.some.injEq] at hs hb
 exact ⟨i, v, hi, hv, (hr (fun _ => none)).cells hza, hs, hb, hr⟩
theorem zero_rels {z : SV} {v : Value} (h : Rel ρ z v) (hv : v.cells = #[v]) (m : Nat) : Rels ρ (List.replicate m z) (Builtin.zeroCells v.cells m).toList := by
 rw [hv, zeroCells_one]; exact Rels.replicate h m
theorem zero_atoms {z : SV} (hza : z.atom = true) (m : Nat) : atoms (List.replicate m z) = true := by
 simp only [atoms, List.all_eq_true]; intro y hy; rw [(List.mem_replicate.1 hy).2]; exact hza
theorem lt_append_rowZ {o : Oper} {R : Env} {x y : Operand} {t xT el by_ nid n m id k : Nat} {full : Bool} {z : SV} {l : List SV} (ho : o.op = .call { callee := .builtin .append, args := #[x, y], argTypes := #[t, xT] })
  (hT : P.underlying t = some (.slice el)) (hX : P.underlying xT = some (.int .i64)) (hz : pzero P el = some z) (hza : z.atom = true) (hs : psz P el = some 1) (hb : pbytes P el = some by_) (hb0 : 0 < by_)
  (hx : evO R x = some (.sl id k n 1 full)) (hid : H id = some (.row el l)) (hin1 : k + n * 1 ≤ l.length) (hy : evO R y = some (.i (m : Int))) (hm : (n + m) * by_ ≤ 140737488355328) (hne : nid ≠ id) :
  LT P o R H [id] [(id, none), (nid, some (.row el ((l.drop k).take (n * 1) ++ List.replicate m z)))] (some (.sl nid 0 (n + m) 1 false)) := by
 refine LT.of_run (by simp [ho]) fun e w ρ h1 h2 _ hfresh => ?_
 have hx2 := h1 x (by simp [ho, Op.operands, Call.operands]) _ hx
 have hy2 := h1 y (by simp [ho, Op.operands, Call.operands]) _ hy
 simp only [Rel] at hy2
 obtain ⟨rb, hr, hbr⟩ := h2 id (by simp) _ hid
 obtain ⟨i, v, hi, hv, hvc, his, hib, hvr⟩ := zfacts hz hza hs hb
 have hnm : n + m ≤ 140737488355328 := Nat.le_trans (Nat.le_mul_of_pos_right _ hb0) hm
 have hmb : m * i.bytes ≤ 140737488355328 := by rw [hib]; exact Nat.le_trans (Nat.mul_le_mul_right _ (by omega)) hm
 obtain ⟨v2, w', ρ', a1, a2, a3⟩ := app_row_gen (w := w) (H := H) (nid := nid) (t := t) (xT := xT) (by_ := by_) (v := v) ho (by rw [hvc]; rfl) hx2 hid hr hbr hin1 (zero_rels (hvr ρ) hvc m) (zero_atoms hza m) (by simp)
  (fun a c hroom => by rw [hy2]; exact app_roomZ hT hX hi hv his (by rw [hvc]; rfl) (by decide) hmb (by omega) hroom)
  (fun a c olds hol hg h48 => by rw [hy2]; exact app_growZ hT hX hi hv his (by decide) hmb (by omega) hnm hol hg (by rw [hib]; exact hb0) (by rw [hib]; exact h48))
  hm (fun e => hne e.symm) (hfresh nid (some (.row el ((l.drop k).take (n * 1) ++ List.replicate m z))) (by simp) (by simpa using hne))
 exact ⟨_, w', ρ', a1, a2, .inl ⟨v2, rfl, fun u hu => by cases hu; exact a3⟩⟩
end
theorem ok1_appZ {P : Program} {o : Oper} {R : RL} {H : HL} {L : Nat} {k : K1} {x y : Operand} {t xT : Nat} (el by_ id off n m : Nat) (full : Bool) (l : List SV) (z : SV) (ho : o.op = .call { callee := .builtin .append, args := #[x, y], argTypes := #[t, xT] })
  (hT : P.underlying t = some (.slice el)) (hX : P.underlying xT = some (.int .i64)) (hz : pzero P el = some z) (hza : z.atom = true) (hs : psz P el = some 1) (hb : pbytes P el = some by_) (hb0 : 0 < by_)
  (hx : ev R x = some (.sl id off n 1 full)) (hid : hk H id = some (.row el l)) (hin : off + n * 1 ≤ l.length) {v : Int} (hy : ev R y = some (.i v)) (hv : v = (m : Int)) (hm : (n + m) * by_ ≤ 140737488355328) (hl : H.length ≤ L)
  (h : k (some (.sl L 0 (n + m) 1 false)) [(id, none), (L, some (.row el ((l.drop off).take (n * 1) ++ List.replicate m z)))] [id] (L + 1)) : Ok1 P o R H L k := by
 subst hv
 have hid2 := hk_lt hl hid
 exact ok1_move hid2 (by simp) (lt_append_rowZ ho hT hX hz hza hs hb hb0 (ev_some hx) (hk_some hid) hin (ev_some hy) hm (by omega)) h
end Go.Sh
namespace Go.Sh
open Go.Proofs
set_option maxHeartbeats 4000000
theorem m32M_n (x : UInt64) : (x &&& 4294967295).toNat = x.toNat % 4294967296 := by
 rw [UInt64.toNat_and]
 exact Nat.and_two_pow_sub_one_eq_mod x.toNat 32
theorem mulM_n (x y : UInt64) (h : x.toNat * y.toNat < 18446744073709551616) : (x * y).toNat = x.toNat * y.toNat := by
 rw [UInt64.toNat_mul]; exact Nat.mod_eq_of_lt h
theorem addM_n (x y : UInt64) (h : x.toNat + y.toNat < 18446744073709551616) : (x + y).toNat = x.toNat + y.toNat := by
 rw [UInt64.toNat_add]; exact Nat.mod_eq_of_lt h
theorem shrM_n (x : UInt64) (n : Nat) (h : n < 64) : (shr64 x n).toNat = x.toNat / 2 ^ n := by
 unfold shr64
 rw [if_pos h, UInt64.toNat_shiftRight, UInt64.toNat_ofNat', show n % 2 ^ 64 % 64 = n by omega, Nat.shiftRight_eq_div_pow]
def mhiM (x y : UInt64) : UInt64 := UInt64.ofNat (x.toNat * y.toNat / 18446744073709551616)
theorem mhiM_n (x y : UInt64) : (mhiM x y).toNat = x.toNat * y.toNat / 18446744073709551616 := by
 have h1 := UInt64.toNat_lt x
 have h2 := UInt64.toNat_lt y
 have : x.toNat * y.toNat < 18446744073709551616 * 18446744073709551616 := Nat.mul_lt_mul'' h1 h2
 unfold mhiM; rw [UInt64.toNat_ofNat', Nat.mod_eq_of_lt]; omega
theorem mul64M_eq (a b : UInt64) : shr64 a 32 * shr64 b 32 + shr64 (shr64 a 32 * (b &&& 4294967295) + shr64 ((a &&& 4294967295) * (b &&& 4294967295)) 32) 32 + shr64 ((shr64 a 32 * (b &&& 4294967295) + shr64 ((a &&& 4294967295) * (b &&& 4294967295)) 32 &&& 4294967295) + (a &&& 4294967295) * shr64 b 32) 32 = mhiM a b := by
 have ha := UInt64.toNat_lt a
 have hb := UInt64.toNat_lt b
 have a1 := shrM_n a 32 (by decide)
 have a0 := m32M_n a
 have b1 := shrM_n b 32 (by decide)
 have b0 := m32M_n b
 have eA : a.toNat = a.toNat / 4294967296 * 4294967296 + a.toNat % 4294967296 := by omega
 have eB : b.toNat = b.toNat / 4294967296 * 4294967296 + b.toNat % 4294967296 := by omega
 rw [show (2 : Nat) ^ 32 = 4294967296 from rfl] at a1 b1
 have lA : a.toNat / 4294967296 ≤ 4294967295 := by omega
 have lB : b.toNat / 4294967296 ≤ 4294967295 := by omega
 have kA : a.toNat % 4294967296 ≤ 4294967295 := by omega
 have kB : b.toNat % 4294967296 ≤ 4294967295 := by omega
 apply UInt64.toNat_inj.mp
 rw [mhiM_n]
 generalize shr64 a 32 = A1 at *
 generalize a &&& 4294967295 = A0 at *
 generalize shr64 b 32 = B1 at *
 generalize b &&& 4294967295 = B0 at *
 generalize a.toNat / 4294967296 = x1 at *
 generalize a.toNat % 4294967296 = x0 at *
 generalize b.toNat / 4294967296 = y1 at *
 generalize b.toNat % 4294967296 = y0 at *
 have p11 : x1 * y1 ≤ 4294967295 * 4294967295 := Nat.mul_le_mul lA lB
 have p10 : x1 * y0 ≤ 4294967295 * 4294967295 := Nat.mul_le_mul lA kB
 have p01 : x0 * y1 ≤ 4294967295 * 4294967295 := Nat.mul_le_mul kA lB
 have p00 : x0 * y0 ≤ 4294967295 * 4294967295 := Nat.mul_le_mul kA kB
 have n11 := mulM_n A1 B1 (by rw [a1, b1]; omega)
 have n10 := mulM_n A1 B0 (by rw [a1, b0]; omega)
 have n01 := mulM_n A0 B1 (by rw [a0, b1]; omega)
 have n00 := mulM_n A0 B0 (by rw [a0, b0]; omega)
 rw [a1, b1] at n11
 rw [a1, b0] at n10
 rw [a0, b1] at n01
 rw [a0, b0] at n00
 have s0 := shrM_n (A0 * B0) 32 (by decide)
 rw [show (2 : Nat) ^ 32 = 4294967296 from rfl, n00] at s0
 have nt := addM_n (A1 * B0) (shr64 (A0 * B0) 32) (by rw [n10, s0]; omega)
 rw [n10, s0] at nt
 generalize A1 * B0 + shr64 (A0 * B0) 32 = t at *
 have st := shrM_n t 32 (by decide)
 have mt := m32M_n t
 rw [show (2 : Nat) ^ 32 = 4294967296 from rfl, nt] at st
 rw [nt] at mt
 have nw := addM_n (t &&& 4294967295) (A0 * B1) (by rw [mt, n01]; omega)
 rw [mt, n01] at nw
 generalize (t &&& 4294967295) + A0 * B1 = w at *
 have sw := shrM_n w 32 (by decide)
 rw [show (2 : Nat) ^ 32 = 4294967296 from rfl, nw] at sw
 have prod : a.toNat * b.toNat = x1 * y1 * 18446744073709551616 + (x1 * y0 + x0 * y1) * 4294967296 + x0 * y0 := by rw [eA, eB]; grind
 rw [prod]
 have r1 := addM_n (A1 * B1) (shr64 t 32) (by rw [n11, st]; omega)
 rw [n11, st] at r1
 rw [addM_n _ _ (by rw [r1, sw]; omega), r1, sw]
 generalize x1 * y1 = P at *
 generalize x1 * y0 = Q at *
 generalize x0 * y1 = U at *
 generalize x0 * y0 = V at *
 omega
theorem f86M (a b : UInt64) : SCall Try.prog 86 [.u64 a, .u64 b] [] (.tup [.u64 (mhiM a b), .u64 (a * b)]) [] := by
 have hm := mul64M_eq a b
 refine scall_of ttOk (by kernel_rfl : Try.prog.funcs[86]? = some Try.f86) rfl rfl rfl ?_
 try simp only [List.length_cons, List.length_nil, Nat.zero_add, Nat.reduceAdd]
 refine sw_ok ttOk mixed (by kernel_rfl) ?_
 conv => whnf
 repeat (fail)
 refine ⟨[], ?_, rfl, rfl, ?_, rfl⟩
 ·
  (repeat' (first | (refine wk_tup ?_) | (refine wk_cons ?_ ?_))) <;> first | exact wk_u64 (by first | exact hm | exact hm.symm | fail) | rfl | fail
 ·
  (repeat' (first | exact trivial | fail)) <;> fail
end Go.Sh
namespace Go.Sh
open Go.Proofs
theorem lt_ext {P : Program} {H : Heap} {o : Oper} {R : Env} {x : Operand} {args : Array Operand} {tys : Array TypeId} {f : Nat} {zs : List SV} {z : SV} (ho : o.op = .call ⟨.value x, args, tys⟩)
  (hx : evO R x = some (.fn f [])) (hargs : args.toList.map (evO R) = zs.map some)
  (hrun : ∀ (ρ : Ren) (w : World) (vs : List Value), Rels ρ zs vs → ∃ rv, (callFunc f ⟨vs⟩).run P w = .ok (.value rv) w ∧ Rel ρ z rv) : LT P o R H [] [] (some z) := by
 refine LT.pure (by simp [ho]) fun e w ρ h1 _ => ?_
 have hxr := h1 x (by simp [ho, Op.operands, Call.operands]) _ hx
 simp only [Rel] at hxr
 obtain ⟨cs, he, hcs⟩ := hxr
 rw [Rels.nil_iff] at hcs; subst hcs
 have hv : Rels ρ zs (args.toList.map e) := by
  have : ∀ (l : List Operand) (zs : List SV), (∀ y ∈ l, y ∈ args.toList) → l.map (evO R) = zs.map some → Rels ρ zs (l.map e) := by
   intro l
   induction l with
   | nil => intro zs _ h; cases zs with
    | nil => exact Rels.nil_iff.2 rfl
    | cons _ _ => simp at h
   | cons y l ih =>
    intro zs hm h
    cases zs with
    | nil => simp at h
    | cons z zs =>
     simp only [List.map_cons, List.cons.injEq] at h
     exact Rels.cons (h1 y (by have := hm y (by simp); simp [ho, Op.operands, Call.operands]; exact .inr (by simpa using this)) _ h.1) (ih zs (fun y hy => hm y (by simp [hy])) h.2)
  exact this _ _ (fun _ h => h) hargs
 obtain ⟨rv, hr, hz⟩ := hrun ρ w _ hv
 refine ⟨rv, ?_, hz⟩
 have ea : (⟨args.toList.map e⟩ : Array Value) = args.map e := by
  apply Array.ext'; simp
 rw [ea] at hr
 unfold execOp
 simp only [ho, resolve, he, Deferred.ofValue, Sem.run_bind, Sem.run_pure, Result.andThen, invoke]
 simpa [Result.andThen] using hr
theorem run_add64F {P : Program} {f : FuncId} {fn : Func} (hf : P.funcs[f]? = some fn) (hname : (fn.name == "runtime.NumGoroutine") = false)
  (hb : fn.body.isNone = true) (hn : Extern.findNext fn = none) (he : Extern.find fn = some add64Entry) (x y c : UInt64) (hc : c.toNat ≤ 1) (w : World) :
  (callFunc f #[.int .u64 (x.toNat : Int), .int .u64 (y.toNat : Int), .int .u64 (c.toNat : Int)]).run P w =
   .ok (.value (.tuple #[.int .u64 (((x.toNat + y.toNat + c.toNat) % 18446744073709551616 : Nat) : Int), .int .u64 (((x.toNat + y.toNat + c.toNat) / 18446744073709551616 : Nat) : Int)])) w := by
 rw [run_callFunc_extern hf hname hb hn he, run_add64 _ _ _ (by omega) (by omega) (by omega) (by omega)]
 simp only [Result.andThen]
 congr 5 <;> omega
theorem ok1_add64 {P : Program} {o : Oper} {R : RL} {H : HL} {L : Nat} {k : K1} {x : Operand} {args : Array Operand} {tys : Array TypeId} {f : Nat} (fn : Func) (a b c s t : UInt64)
  (hf : P.funcs[f]? = some fn) (hname : (fn.name == "runtime.NumGoroutine") = false) (hb : fn.body.isNone = true) (hn : Extern.findNext fn = none) (he : Extern.find fn = some add64Entry)
  (ho : o.op = .call ⟨.value x, args, tys⟩) (hx : ev R x = some (.fn f [])) (hargs : evs R args.toList = some [.u64 a, .u64 b, .u64 c]) (hc : c.toNat ≤ 1)
  (hs : s.toNat = (a.toNat + b.toNat + c.toNat) % 18446744073709551616) (ht : t.toNat = (a.toNat + b.toNat + c.toNat) / 18446744073709551616)
  (h : k (some (.tup [.u64 s, .u64 t])) [] [] L) : Ok1 P o R H L k := by
 refine ⟨_, [], [], L, lt_ext (z := .tup [.u64 s, .u64 t]) ho (ev_some hx) (evs_eq hargs) ?_, Nat.le_refl _, by simp, h⟩
 intro ρ w vs hv
 have hv2 : vs = [.int .u64 (a.toNat : Int), .int .u64 (b.toNat : Int), .int .u64 (c.toNat : Int)] := by
  simp only [Rels, Rel] at hv
  obtain ⟨_, _, rfl, rfl, _, _, rfl, rfl, _, _, rfl, rfl, rfl⟩ := hv
  rfl
 subst hv2
 refine ⟨_, run_add64F hf hname hb hn he a b c hc w, ?_⟩
 rw [← hs, ← ht]
 simp only [Rel]
 exact ⟨_, rfl, Rels.cons (by simp only [Rel]) (Rels.cons (by simp only [Rel]) (Rels.nil_iff.2 rfl))⟩
end Go.Sh
namespace Go.Sh
open Go.Proofs
theorem digits_u8 : ∀ (n t : Nat) (acc : Array Value), ∃ l : List UInt8, (Extern.BytealgMakeNoZero.digits n t acc).toList = acc.toList ++ l.map (fun x => Value.int .u8 (x.toNat : Int)) ∧ l.length = n
 | 0, t, acc => ⟨[], by simp [Extern.BytealgMakeNoZero.digits], rfl⟩
 | n + 1, t, acc => by
  obtain ⟨l, h1, h2⟩ := digits_u8 n (t / 256) (acc.push (.int .u8 (Int.ofNat (t % 256))))
  refine ⟨(UInt8.ofNat (t % 256)) :: l, ?_, by simp [h2]⟩
  rw [Extern.BytealgMakeNoZero.digits, h1]
  have : (UInt8.ofNat (t % 256)).toNat = t % 256 := by
   rw [UInt8.toNat_ofNat']; omega
  simp [this]
theorem rels_u8 (ρ : Ren) : ∀ l : List UInt8, Rels ρ (l.map .u8) (l.map (fun x => Value.int .u8 (x.toNat : Int)))
 | [] => Rels.nil_iff.2 rfl
 | x :: l => Rels.cons (by simp only [Rel]) (rels_u8 ρ l)
theorem atoms_u8m (l : List UInt8) : atoms (l.map SV.u8) = true := by simp [atoms, SV.atom]
theorem run_mnz0 {P : Program} {ps : Array TypeId} {t e : TypeId} (ht : P.underlying t = some (.slice e)) (n : Nat) (hn2 : n ≤ 281474976710656) (w : World) :
  ∃ b : Nat, (Extern.BytealgMakeNoZero.makeNoZero ps #[t] #[.int .i64 n]).run P w = .ok (.slice (some ⟨w.heap.size, 0, none⟩) n (Extern.BytealgMakeNoZero.digits (grownCap w n 0 e) b #[]).size) (w.drew.drew.alloc (.cells (Extern.BytealgMakeNoZero.digits (grownCap w n 0 e) b #[]) e)) := by
 have hdef : ∃ q : Question, q.forced = false ∧ Extern.BytealgMakeNoZero.makeNoZero ps #[t] #[.int .i64 n] =
   (do
    let .slice elem ← underlying t | stuck "bytealg.MakeNoZero: slice type expected"
    if (n : Int) < 0 || (n : Int) > 2 ^ 48 then runtimePanic (.error "makeslice: len out of range")
    let cap ← choose (.appendCap (n : Int).toNat 0 elem)
    askRoom cap
    let bytes ← choose q
    let a ← newRow elem (Extern.BytealgMakeNoZero.digits cap bytes #[])
    pure (.slice (some a) (n : Int).toNat cap)) := by
  refine ⟨_, ?_, rfl⟩
  rfl
 obtain ⟨q, hqf, hdef⟩ := hdef
 refine ⟨q.cut (w.tape (w.drawn + 1) q), ?_⟩
 rw [hdef]
 have h1 : ¬ (n : Int) < 0 := by omega
 have h2 : ¬ (281474976710656 : Int) < (n : Int) := by omega
 have hq2 : (Question.appendCap n 0 e).forced = false := rfl
 simp [run_underlying ht, h1, h2, hqf, hq2, newRow, Lib.size_digits, grownCap]
theorem run_mnz {P : Program} {f : FuncId} {fn : Func} {t e : TypeId} (hf : P.funcs[f]? = some fn) (hname : (fn.name == "runtime.NumGoroutine") = false) (hb : fn.body.isNone = true) (hn : Extern.findNext fn = none)
  (he : Extern.find fn = some (Extern.BytealgMakeNoZero.makeNoZero fn.params #[t])) (ht : P.underlying t = some (.slice e)) (n : Nat) (hn2 : n ≤ 281474976710656) (w : World) :
  ∃ (cs : Array Value) (l : List UInt8), (callFunc f #[.int .i64 (n : Int)]).run P w = .ok (.value (.slice (some ⟨w.heap.size, 0, none⟩) n cs.size)) (w.drew.drew.alloc (.cells cs e)) ∧ n ≤ cs.size ∧ l.length = n ∧ cs.toList.take n = l.map (fun x => Value.int .u8 (x.toNat : Int)) := by
 obtain ⟨b, hr⟩ := run_mnz0 (ps := fn.params) ht n hn2 w
 obtain ⟨l, hl1, hl2⟩ := digits_u8 (grownCap w n 0 e) b #[]
 have hge : n ≤ grownCap w n 0 e := by simpa using grownCap_ge w n 0 e
 refine ⟨Extern.BytealgMakeNoZero.digits (grownCap w n 0 e) b #[], l.take n, ?_, ?_, ?_, ?_⟩
 ·
  rw [run_callFunc_extern hf hname hb hn he, hr]; rfl
 ·
  rw [Lib.size_digits]; simpa using hge
 ·
  rw [List.length_take, hl2]; omega
 ·
  rw [hl1]; simp [List.map_take]
section
variable {P : Program} {ops : Array Oper} {N B : Nat}
theorem good_step_at {o : Oper} {i : Nat} {R Ri : Env} {H Hi : Heap} {e : En} {L L' n : Nat} {r : Option Nat} {ρ : Ren} {a : Act} {w : World} {K : Act → World → Prop} {Q : Exit → Act → World → Prop}
  (hi : ops[i]? = some o) (hd : e.lg.dst = o.dst) (hWi : e.lg.Wi = e.W.map (·.1)) (hgd : o.guard = none) (hN : ∀ d, o.dst = some d → d < N)
  (hlt : (∀ t ∈ readsOf o, ∀ v, Ri t = some v → Rel ρ v (a.tmps.getD t undef)) → ∀ next : Act → World → Prop, (∀ rv w' ρ', Chg ρ Hi w e.W ρ' w' → (∀ v, e.out = some v → Rel ρ' v rv) → next (a.put o.dst rv) w') → o.wpIn (Fw r) n P a w next Q)
  (hR : ∀ t, R t = Ri t) (hH : ∀ id, (id ∈ e.lg.F ∨ id ∈ e.lg.Wi) → H id = Hi id) (hs : Sim N B L ρ R H a w)
  (hfresh : ∀ id ob, (id, ob) ∈ e.W → id ∉ e.lg.F → ρ id = none) (hL : L ≤ L') (hW : ∀ id ob, (id, ob) ∈ e.W → id < L')
  (hk : ∀ a' w' ρ', Sim N B L' ρ' (appL R (wr e)) (appL H e.W) a' w' → Ev ρ H w ρ' (appL H e.W) w' → (∀ id rb, ρ' id = some rb → ρ id = some rb ∨ ∃ ob, (id, ob) ∈ e.W) → K a' w') :
  wpOpIn (Fw r) n P ops Q i K a w := by
 have put : ∀ (rv : Value) (w' : World) (ρ' : Ren), Chg ρ Hi w e.W ρ' w' → (∀ v, e.out = some v → Rel ρ' v rv) → K (a.put o.dst rv) w' := by
  intro rv w' ρ' hc hv
  have hev := hc.evo (H := H) (fun id ob hm => (hH id (.inr (by rw [hWi]; exact List.mem_map.2 ⟨_, hm, rfl⟩))).symm) hs.heap hs.sep
  rw [updW_app] at hev
  refine hk _ _ ρ' ⟨?_, ?_, hev.heap, hev.sep, ?_, ?_⟩ hev.ev hc.dom
  ·
   cases hdst : o.dst <;> simp [Act.put, hdst, hs.size]
  ·
   intro t v ht
   cases hdst : o.dst with
   | none =>
    rw [hdst] at hd
    simp only [wr, hd, appL, List.lookup_nil] at ht
    simp only [Act.put]
    exact (hs.regs t v ht).ext hev.ext
   | some d =>
    rw [hdst] at hd
    have hdN : d < a.tmps.size := by rw [hs.size]; exact hN d hdst
    simp only [wr, hd, appL, List.lookup_cons, List.lookup_nil] at ht
    simp only [Act.put]
    by_cases htd : t = d
    ·
     subst htd
     simp at ht
     rw [Array.getD_eq_getD_getElem?, Array.getElem?_setIfInBounds_self_of_lt hdN]
     exact hv v ht
    ·
     have : (t == d) = false := by simpa using htd
     simp only [this] at ht
     rw [Array.getD_eq_getD_getElem?, Array.getElem?_setIfInBounds_ne (fun e => htd e.symm), ← Array.getD_eq_getD_getElem?]
     exact (hs.regs t v ht).ext hev.ext
  ·
   intro id hid
   cases hr : ρ' id with
   | none => rfl
   | some rb =>
    rcases hc.dom id rb hr with h | ⟨ob, hm⟩
    ·
     rw [hs.fresh id (by omega)] at h; cases h
    ·
     have := hW id ob hm; omega
  ·
   have : (a.put o.dst rv).defers = a.defers := by cases hdst : o.dst <;> simp [Act.put]
   rw [this]
   exact hs.dfr.fr hev.fr
 unfold wpOpIn
 simp only [hi]
 have hw : Region.wanted o (yielded ops a.tmps) = true := by unfold Region.wanted; simp only [hgd]
 simp only [hw, if_true]
 exact hlt (fun t ht v hv => hs.regs t v ((hR t).trans hv)) K put
end
def swx (j : Nat) (T : TT) (P : Program) (M : Option Nat → Prop) (N A : Nat) (c : Code) : (Exit → RL → HL → Nat → Prop) → RL → HL → Nat → Prop :=
 @Code.rec (fun _ => (Exit → RL → HL → Nat → Prop) → RL → HL → Nat → Prop)
  (fun Q => Q .normal)
  (fun id ops draw Q R H L => match Nat.beq id j with
   | true => SWp P M N A (.region id ops draw) Q R H L
   | false => sw T P M N A (.region id ops draw) Q R H L)
  (fun _ _ iha ihb Q => iha fun e => match e with | .normal => ihb Q | e => Q e)
  (fun c _ _ ihx ihy Q R H L => match ev R c with
   | some (.b t) => (t = true → ihx Q R H L) ∧ (t = false → ihy Q R H L)
   | _ => False)
  (fun id _ ih Q => ih fun e => match e with
   | .exit i => match Nat.beq i id with | true => Q .normal | false => Q (.exit i)
   | e => Q e)
  (fun c _ Q => SWp P M N A (.loop c) Q)
  (fun f ps x y _ _ Q => SWp P M N A (.rangeFunc f ps x y) Q)
  (fun id Q => Q (.exit id))
  (fun c _ Q => SWp P M N A (.scope c) Q)
  (fun l Q => SWp P M N A (.label l) Q)
  (fun l Q => SWp P M N A (.goto l) Q)
  (fun Q => Q .ret)
  (fun s Q => SWp P M N A (.refuse s) Q) c
theorem swx_ok {j : Nat} {T : TT} {P : Program} {M : Option Nat → Prop} {N A : Nat} (hT : TOk P T) (hm : P.follows .mixedOrders = true) : ∀ {c : Code} {Q : Exit → RL → HL → Nat → Prop} {R : RL} {H : HL} {L : Nat}, codeOk N c = true →
  swx j T P M N A c Q R H L → SWp P M N A c Q R H L
 | .skip, Q, R, H, L, _, h => ⟨fun r n B ρ a w hM hs hl => wpIn_skip ⟨R, H, L, ρ, h, hl, hs, EvA.refl _ _ _ _⟩⟩
 | .exit id, Q, R, H, L, _, h => ⟨fun r n B ρ a w hM hs hl => wpIn_exit ⟨R, H, L, ρ, h, hl, hs, EvA.refl _ _ _ _⟩⟩
 | .ret, Q, R, H, L, _, h => ⟨fun r n B ρ a w hM hs hl => wpIn_ret ⟨R, H, L, ρ, h, hl, hs, EvA.refl _ _ _ _⟩⟩
 | .region id ops draw, Q, R, H, L, hc, h => by
  have h : (match Nat.beq id j with
   | true => SWp P M N A (.region id ops draw) Q R H L
   | false => sw T P M N A (.region id ops draw) Q R H L) := h
  cases hb : Nat.beq id j with
  | true => rw [hb] at h; exact h
  | false => rw [hb] at h; exact sw_ok hT hm hc h
 | .seq x y, Q, R, H, L, hc, h => by
  simp only [codeOk, Bool.and_eq_true] at hc
  have h : swx j T P M N A x (fun e => match e with | .normal => swx j T P M N A y Q | e => Q e) R H L := h
  exact (swx_ok hT hm hc.1 h).seq (fun R H L h => swx_ok hT hm hc.2 h) (fun e R H L hne h => by cases e <;> first | exact absurd rfl hne | exact h)
 | .cond c x y, Q, R, H, L, hc, h => by
  simp only [codeOk, Bool.and_eq_true] at hc
  have h : (match ev R c with
   | some (.b t) => (t = true → swx j T P M N A x Q R H L) ∧ (t = false → swx j T P M N A y Q R H L)
   | _ => False) := h
  split at h
  ·
   rename_i t ht
   refine ⟨fun r n B ρ a w hM hs hl => ?_⟩
   have hcv : a.eval c = .bool t := by
    cases c with
    | tmp k =>
     have h1 := hs.regs k (.b t) (by rw [rg, ← lk_eq]; exact ht)
     simp only [Rel] at h1
     exact h1
    | const v =>
     have h1 := (ofVal_rel (ρ := ρ) ht).1
     simp only [Rel] at h1
     exact h1
    | func f => cases ht
    | global g => cases ht
   refine wpIn_cond_split hcv (fun ht => (swx_ok hT hm hc.1 (h.1 ht)).run r n B ρ a w hM hs hl) (fun ht => (swx_ok hT hm hc.2 (h.2 ht)).run r n B ρ a w hM hs hl)
  ·
   exact h.elim
 | .block id c, Q, R, H, L, hc, h => by
  refine ⟨fun r n B ρ a w hM hs hl => ?_⟩
  have h : swx j T P M N A c (fun e => match e with
   | .exit i => match Nat.beq i id with | true => Q .normal | false => Q (.exit i)
   | e => Q e) R H L := h
  simp only [codeOk] at hc
  refine wpIn_block (wpIn_mono ((swx_ok hT hm hc h).run r n B ρ a w hM hs hl) ?_)
  rintro e a2 w2 ⟨R2, H2, L2, ρ2, hq2, rest⟩
  cases e with
  | exit i =>
   simp only [Exit.inBlock]
   cases hb : Nat.beq i id with
   | true => simp only [hb] at hq2; rw [if_pos (beqE hb)]; exact ⟨R2, H2, L2, ρ2, hq2, rest⟩
   | false => simp only [hb] at hq2; rw [if_neg (fun e => by subst e; simp at hb)]; exact ⟨R2, H2, L2, ρ2, hq2, rest⟩
  | _ => exact ⟨R2, H2, L2, ρ2, hq2, rest⟩
 | .loop c, Q, R, H, L, _, h => h
 | .rangeFunc f ps x y, Q, R, H, L, _, h => h
 | .scope c, Q, R, H, L, _, h => h
 | .label l, Q, R, H, L, _, h => h
 | .goto l, Q, R, H, L, _, h => h
 | .refuse s, Q, R, H, L, _, h => h
theorem swp_mnz {T : TT} {P : Program} {M : Option Nat → Prop} {N A : Nat} {id : Nat} {ops : Array Oper} {o1 o2 : Oper} {post : List Oper} {Q : Exit → RL → HL → Nat → Prop} {R R1 : RL} {H H1 : HL} {L L1 n f : Nat} {x : Operand} {tys : Array TypeId} {fn : Func} {t e d : TypeId}
  (hT : TOk P T) (hd : dstOk N ops = true) (hops : ops.toList = o1 :: o2 :: post)
  (h1 : rops T P ops [o1] R H L [] fun R' H' L' _ => R' = R1 ∧ H' = H1 ∧ L' = L1)
  (ho : o2.op = .call ⟨.value (.func f), #[x], tys⟩) (hgd : o2.guard = none) (hdst : o2.dst = some d) (hx : evO (rg R1) x = some (.i (n : Int))) (hn2 : n ≤ 281474976710656)
  (hf : P.funcs[f]? = some fn) (hname : (fn.name == "runtime.NumGoroutine") = false) (hb : fn.body.isNone = true) (hn : Extern.findNext fn = none)
  (he : Extern.find fn = some (Extern.BytealgMakeNoZero.makeNoZero fn.params #[t])) (ht : P.underlying t = some (.slice e))
  (h2 : ∀ l : List UInt8, l.length = n → rops T P ops post ((d, .sl L1 0 n 1 false) :: R1) (hupd H1 [(L1, some (.row e (l.map .u8)))]) (L1 + 1) [] fun R' H' L' _ => Q .normal R' H' L') :
  SWp P M N A (.region id ops false) Q R H L := by
 refine ⟨fun r nn B ρ a w hM hs hl => ?_⟩
 have hN : ∀ (i : Nat) (o : Oper) (d : Nat), ops[i]? = some o → o.dst = some d → d < N := by
  intro i o d ho hdst
  simp only [dstOk, List.all_eq_true] at hd
  have := hd o (by simpa using Array.mem_of_getElem? ho)
  simpa [hdst] using this
 have hget : ∀ j, ops[j]? = (o1 :: o2 :: post)[j]? := fun j => by rw [← hops, Array.getElem?_toList]
 obtain ⟨es, R', H', L', hr, hl', hq1, hq2, hq3⟩ := rops_ok hT h1 hl
 subst hq1 hq2 hq3
 obtain ⟨e1, es1, L0, rfl, hg1, hL1, hW1, hr0⟩ := hr
 obtain ⟨rfl, hR1, hH1, hLL⟩ := hr0
 subst hLL
 refine wpIn_region ?_
 have hsz : ops.size = post.length + 1 + 1 := by rw [← Array.length_toList, hops]; simp
 rw [List.range_eq_range', hsz, List.range'_succ, List.range'_succ, wpOpsIn_cons]
 refine good_step (L' := L0) (hget 0) hg1 (fun d hd => hN 0 o1 d (hget 0) hd) (fun _ _ => rfl) (fun _ _ => rfl) hs (fun id ob hm hF => hs.fresh id ((hW1 id ob hm).2 hF)) hL1 (fun id ob hm => (hW1 id ob hm).1) ?_
 intro a1 w1 ρ1 hs1 hev1 _
 rw [wpOpsIn_cons]
 rw [hR1, hH1] at hs1
 rw [hH1] at hev1
 obtain ⟨cs, l, hrun, hcs, hll, hlt⟩ := run_mnz hf hname hb hn he ht n hn2 w1
 have hch : ∀ Hx : Heap, Chg ρ1 Hx w1 [(L0, some (.row e (l.map .u8)))] (setR ρ1 L0 ⟨w1.heap.size, 0, cs.size, false⟩) (w1.drew.drew.alloc (.cells cs e)) := fun Hx =>
  Chg.row (H := Hx) (w := w1) (fz := (0, 0)) (t := e) (w1.drawn + 2) (hs1.fresh L0 (Nat.le_refl _)) (atoms_u8m l) (by rw [List.length_map, hll, hlt]; exact rels_u8 ρ1 l) (by rw [List.length_map, hll]; exact hcs) (.inl rfl)
 refine good_step_at (L' := L0 + 1) (Ri := rg R') (Hi := hg H') (e := ⟨⟨o2.dst, [], [], [L0]⟩, some (.sl L0 0 n 1 false), [(L0, some (.row e (l.map .u8)))]⟩) (hget 1) rfl rfl hgd (fun d hd => hN 1 o2 d (hget 1) hd) ?_ (fun _ => rfl) (fun _ _ => rfl) hs1 ?_ (by omega) ?_ ?_
 ·
  intro hreg next hnext
  refine ⟨fun _ _ => trivial, ?_⟩
  rw [Oper.semAt_eq _ _ _ (by simp [ho])]
  have hxv : a1.eval x = .int .i64 (n : Int) := by
   have hrel : Rel ρ1 (.i (n : Int)) (a1.eval x) := by
    cases x with
    | tmp t => exact hreg t (by simp only [readsOf, List.mem_filterMap]; exact ⟨.tmp t, by simp [ho, Op.operands, Call.operands], rfl⟩) _ hx
    | const u => exact (ofVal_rel hx).1
    | func f => simp only [evO, Option.some.injEq] at hx; cases hx
    | global g => cases hx
   simpa only [Rel] using hrel
  have hexe : (execOp a1.eval o2).run P w1 = .ok (.value (.slice (some ⟨w1.heap.size, 0, none⟩) n cs.size)) (w1.drew.drew.alloc (.cells cs e)) := by
   unfold execOp
   have hr := hrun
   rw [← hxv] at hr
   have hfe : a1.eval (.func f) = .func (.func f) #[] #[] := rfl
   simp only [ho, resolve, hfe, Deferred.ofValue, Sem.run_bind, Sem.run_pure, Result.andThen, invoke]
   simpa [Result.andThen] using hr
  rw [hexe]
  refine hnext _ _ _ (hch _) ?_
  intro v hv
  cases hv
  simp only [Rel]
  refine ⟨⟨w1.heap.size, 0, cs.size, false⟩, some ⟨w1.heap.size, 0, none⟩, cs.size, by simp [setR], rfl, hcs, by simp, .inr ⟨rfl, by simp, by simp⟩⟩
 ·
  intro id ob hm hF
  simp at hm
  rw [hm.1]; exact hs1.fresh L0 (Nat.le_refl _)
 ·
  intro id ob hm
  simp at hm
  rw [hm.1]; omega
 ·
  intro a2 w2 ρ2 hs2 hev2 _
  rw [appL_wr rfl, ← updW_app, ← hg_hupd] at hs2
  rw [← updW_app, ← hg_hupd] at hev2
  have hrp : rput R' o2.dst (some (.sl L0 0 n 1 false)) = (d, .sl L0 0 n 1 false) :: R' := by rw [hdst]; rfl
  rw [hrp] at hs2
  obtain ⟨es, R2, H2, L2, hr2, hl2, hq2⟩ := rops_ok hT (h2 l hll) (hupd_le (by omega) (fun id ob hm => by simp at hm; rw [hm.1]; omega))
  have hfin := region_text (r := r) (n := nn) (Q := fun e a' w' => ∃ R' H' L' ρ', Q e R' H' L' ∧ H'.length ≤ L' ∧ Sim N B L' ρ' (rg R') (hg H') a' w' ∧ EvA A ρ (hg H) w ρ' (hg H') w') hN post 2 _ _ _ es ρ2 a2 w2 (fun j => by rw [hget]; simp [Nat.add_comm 2 j]) hr2 hs2
   (fun a' w' ρ' hs' hev => ⟨R2, H2, L2, ρ', hq2, hl2, hs', ((hev1.trans hev2).trans hev).toA⟩)
  exact hfin
end Go.Sh
namespace Go.Sh
open Go.Proofs
set_option maxHeartbeats 4000000
theorem f152 (a b : UInt64) : SCall Try.prog 152 [.u64 a, .u64 b] [] (.tup [.u64 (mhiM a b), .u64 (a * b)]) [] := by
 have q86 := f86M a b
 refine scall_of ttOk (by kernel_rfl : Try.prog.funcs[152]? = some Try.f152) rfl rfl rfl ?_
 try simp only [List.length_cons, List.length_nil, Nat.zero_add, Nat.reduceAdd]
 refine sw_ok ttOk mixed (by kernel_rfl) ?_
 conv => whnf
 repeat (first | (refine brF rfl ?_; conv => whnf) | fail)
 refine ok1_callF [] [] true (q86) rfl rfl ⟨⟨rfl, by first | rfl | fail⟩, trivial, by first | rfl | fail, by first | rfl | fail, ?_⟩
 conv => whnf
 repeat (fail)
 refine ⟨[], ?_, rfl, rfl, ?_, rfl⟩
 ·
  (repeat' (first | (refine wk_tup ?_) | (refine wk_cons ?_ ?_))) <;> first | rfl | fail
 ·
  (repeat' (first | exact trivial | fail)) <;> fail
theorem rep_step {c : UInt8} {l : List UInt8} {b n m : Nat} (hl : l.length = n) (hb : b ≤ n) (hm : m ≤ b) (hbm : b + m ≤ n) :
  (List.replicate (b + m) c ++ l.drop (b + m)).map SV.u8 = sput ((List.replicate b c ++ l.drop b).map SV.u8) (0 + b * 1) (.agg (List.take (m * 1) (List.take ((b - 0) * 1) (List.drop (0 + 0 * 1) ((List.replicate b c ++ l.drop b).map SV.u8))))) := by
 have h1 : List.take (m * 1) (List.take ((b - 0) * 1) (List.drop (0 + 0 * 1) ((List.replicate b c ++ l.drop b).map SV.u8))) = (List.replicate m c).map SV.u8 := by
  rw [Nat.mul_one, Nat.sub_zero, Nat.mul_one, Nat.zero_mul, Nat.zero_add, List.drop_zero, List.take_take, Nat.min_eq_left hm, ← List.map_take, List.take_append_of_le_length (by rw [List.length_replicate]; exact hm), List.take_replicate, Nat.min_eq_left hm]
 have h2 : List.drop (b + m) (List.replicate b c) = [] := by rw [List.drop_eq_nil_iff, List.length_replicate]; omega
 rw [h1]
 show _ = List.take (0 + b * 1) ((List.replicate b c ++ l.drop b).map SV.u8) ++ (List.replicate m c).map SV.u8 ++ List.drop (0 + b * 1 + ((List.replicate m c).map SV.u8).length) ((List.replicate b c ++ l.drop b).map SV.u8)
 rw [List.length_map, List.length_replicate, Nat.zero_add, Nat.mul_one, ← List.map_take, ← List.map_drop, List.take_left' (by simp), List.drop_append, List.length_replicate, h2, List.nil_append, show b + m - b = m by omega, List.drop_drop, ← List.map_append, ← List.map_append, List.replicate_append_replicate]
theorem f135 (c : UInt8) (n : Nat) (hn1 : 1 ≤ n) (hn : n ≤ 8192) (f : Bool) : SCall Try.prog 135 [.sl 0 0 1 1 f, .i (n : Int)] [some (.ro [.u8 c])] (.sl 1 0 n 1 true) [some (.ro [.u8 c]), some (.row 5 ((List.replicate n c).map .u8))] := by
 have e0 : ((n : Int) == 0) = false := by simp; omega
 have e1 : decide ((n : Int) < 0) = false := by simp
 have hun : u64i (n : Int) = UInt64.ofNat n := by unfold u64i; congr 1; omega
 have hnn : (u64i (n : Int)).toNat = n := by rw [hun, UInt64.toNat_ofNat']; omega
 have hu1 : u64i ((1 : Nat) : Int) = 1 := rfl
 have q152 := f152 (u64i ((1 : Nat) : Int)) (u64i (n : Int))
 have hm0 : mhiM (u64i ((1 : Nat) : Int)) (u64i (n : Int)) = 0 := by
  apply UInt64.toNat_inj.1
  rw [mhiM_n, hnn, hu1]; show 1 * n / 18446744073709551616 = 0; omega
 have hm1 : u64i ((1 : Nat) : Int) * u64i (n : Int) = u64i (n : Int) := by rw [hu1, UInt64.one_mul]
 rw [hm0, hm1] at q152
 have e2 : decide (u64i (n : Int) > UInt64.ofNat (Int.toNat 9223372036854775807)) = false := by
  rw [decide_eq_false_iff_not]
  intro hgt
  have h := UInt64.lt_iff_toNat_lt.1 hgt
  rw [hnn] at h
  have h9 : (UInt64.ofNat (Int.toNat 9223372036854775807)).toNat = 9223372036854775807 := by decide
  omega
 refine scall_of ttOk (by kernel_rfl : Try.prog.funcs[135]? = some Try.f135) rfl rfl rfl ?_
 try simp only [List.length_cons, List.length_nil, Nat.zero_add, Nat.reduceAdd]
 refine swx_ok (j := 16) ttOk mixed (by kernel_rfl) ?_
 conv => whnf
 repeat (first | (refine And.intro (by first | omega | (simp; omega) | fail) ?_; conv => whnf) | fail)
 first | intro _
 conv => whnf
 repeat (first | (refine brF rfl ?_; conv => whnf) | fail)
 refine ok1_callF [] [] true (q152) rfl rfl ⟨⟨rfl, by first | rfl | fail⟩, trivial, by first | rfl | fail, by first | rfl | fail, ?_⟩
 conv => whnf
 repeat (first | (refine gdT rfl ?_; conv => whnf) | (refine Exists.intro _ (And.intro rfl ?_); conv => whnf) | fail)
 first | refine brF (by exact e2) ?_ | fail
 conv => whnf
 repeat (first | (refine brF rfl ?_; conv => whnf) | fail)
 have hwn : w64 ((u64i (n : Int)).toNat : Int) = (n : Int) := by rw [hnn]; simp only [w64_eq]; omega
 have e3 : decide ((n : Int) > 8192) = false := by simp; omega
 rw [hwn]
 first | refine brF (by exact e3) ?_ | fail
 conv => whnf
 refine swp_mnz (n := n) (T := tt) (fn := Try.f153) (t := 34) (e := 5) ttOk (by kernel_rfl) rfl ⟨rfl, rfl, rfl⟩ rfl rfl rfl rfl (by omega) (by kernel_rfl : Try.prog.funcs[153]? = some Try.f153) (by kernel_rfl) (by kernel_rfl) (by kernel_rfl) (by kernel_rfl) (by kernel_rfl) ?_
 intro l hl
 conv => whnf
 repeat (first | (refine Exists.intro _ (And.intro rfl ?_); conv => whnf) | (refine And.intro (by first | omega | (simp; omega) | fail) ?_; conv => whnf) | fail)
 have hnt : ((n : Int)).toNat = n := Int.toNat_natCast n
 refine loop_rule ttOk mixed (by kernel_rfl) (ι := { b : Nat // 1 ≤ b ∧ b ≤ n }) (fun b => [(7, .i n), (8, .i n), (9, .sl 1 0 n 1 true), (10, .i (b.1 : Int))]) (fun b => [some (.ro [.u8 c]), some (.row 5 ((List.replicate b.1 c ++ l.drop b.1).map .u8))]) (fun _ => 2) (fun b => n - b.1) ⟨1, by omega, by omega⟩ ?_ ?_
 ·
  dsimp only
  have hmin : min 1 (n - 0) = 1 := by omega
  have hdn : decide (n = n) = true := by simp
  rw [hnt, hmin, hdn]
  have hr0 : (List.replicate 1 c ++ l.drop 1).map SV.u8 = sput (l.map SV.u8) (0 + 0 * 1) (.agg (List.take (1 * 1) (List.take (1 * 1) (List.drop 0 [SV.u8 c])))) := by
   show _ = List.take 0 (l.map SV.u8) ++ [SV.u8 c] ++ List.drop 1 (l.map SV.u8)
   rw [List.take_zero, List.map_append, List.map_drop]; rfl
  refine Weak.sel [0, 1] rfl rfl ?_ ?_ rfl rfl
  ·
   (repeat' (first | exact trivial | refine And.intro ?_ ?_ | fail)) <;> first | rfl | fail
  ·
   (repeat' (first | exact trivial | exact ren_eq (plainL_u8 _) hr0 | refine And.intro ?_ ?_ | (refine wk_cons ?_ ?_))) <;> first | rfl | fail
 ·
  rintro ⟨b, hb1, hb⟩
  dsimp only
  by_cases hbn : b < n
  ·
   have hlt : decide ((b : Int) < (n : Int)) = true := by simp; omega
   conv => whnf
   first | refine brT (by exact hlt) ?_ | fail
   conv => whnf
   repeat (first | (refine Exists.intro _ (And.intro rfl ?_); conv => whnf) | (refine And.intro (by first | omega | fail) ?_; conv => whnf) | fail)
   have hif : ¬ ((n : Int) < (b : Int)) := by omega
   rw [if_neg hif]
   repeat (first | (refine Exists.intro _ (And.intro (evb_i (m := b) rfl (by first | rfl | fail)) ?_); conv => whnf) | (refine And.intro (by first | omega | (simp; omega) | fail) ?_; conv => whnf) | (refine And.intro (by kernel_rfl) ?_; conv => whnf) | fail)
   rw [Int.toNat_natCast]
   obtain ⟨m, hm⟩ : ∃ m, m = min (b - 0) (n - b) := ⟨_, rfl⟩
   have hst := rep_step (c := c) (l := l) (b := b) (n := n) (m := m) hl hb (by omega) (by omega)
   rw [← hm]
   have hp : w64 ((b : Int) + (m : Int)) = ((b + m : Nat) : Int) := by simp only [w64_eq]; omega
   refine ⟨⟨b + m, by omega, by omega⟩, by simp only; omega, ?_⟩
   dsimp only
   refine Weak.sel [0, 1] rfl rfl ?_ ?_ rfl rfl
   ·
    (repeat' (first | exact trivial | refine And.intro ?_ ?_ | fail)) <;> first | exact wk_i (by first | exact hp | exact hp.symm | fail) | rfl | fail
   ·
    (repeat' (first | exact trivial | exact ren_eq (plainL_u8 _) hst | refine And.intro ?_ ?_ | (refine wk_cons ?_ ?_))) <;> first | rfl | fail
  ·
   obtain rfl : b = n := by omega
   have hlt : decide ((b : Int) < (b : Int)) = false := by simp
   conv => whnf
   first | refine brF (by exact hlt) ?_ | fail
   conv => whnf
   repeat (fail)
   have hd : l.drop b = [] := by rw [List.drop_eq_nil_iff]; omega
   rw [hd, List.append_nil]
   refine ⟨[0, 1], ?_, rfl, rfl, ?_, rfl⟩
   ·
    (repeat' (fail)) <;> first | rfl | fail
   ·
    (repeat' (first | exact trivial | refine And.intro ?_ ?_ | (refine wk_cons ?_ ?_))) <;> first | rfl | exact ren_m8 (by first | rfl | fail) | fail
end Go.Sh
namespace Go.Sh
open Go.Proofs
set_option maxHeartbeats 4000000
attribute [local irreducible] comp_w
theorem f140D (h k : List UInt64) (D : List UInt8) (o : Nat) (hh : h.length = 8) (hk : k.length = 80) (ho : o + 128 ≤ D.length) (fl : Bool) : SCall Try.prog 140 [.p 0 0, .sl 3 o 128 1 fl] [some (.ro (mach_w 1 2)), some (.row 25 (h.map .u64)), some (.ro (k.map .u64)), some (.ro (D.map .u8))] (.tup []) [some (.ro (mach_w 1 2)), some (.row 25 ((comp_w k h ((D.drop o).take 128)).map .u64)), some (.ro (k.map .u64)), some (.ro (D.map .u8))] :=
 have hl : ((D.drop o).take 128).length = 128 := (by rw [List.length_take, List.length_drop]; omega)
 (f140 h k ((D.drop o).take 128) hh hk hl fl).sub 3 o (D.map .u8) (((D.drop o).take 128).map .u8) 4 rfl rfl (by rw [List.length_map, hl, ← List.map_drop, ← List.map_take]) (plainL_u8 _) (plainL_u8 _) (by decide) ⟨.inr ⟨rfl, rfl⟩, .inl rfl, trivial⟩ rfl
  ⟨.inr (.inr rfl), .inr (.inl (by simp [plainB])), .inr (.inl (by simp [plainB])), .inl rfl, trivial⟩ ⟨.inr (.inr rfl), .inr (.inl (by simp [plainB])), .inr (.inl (by simp [plainB])), .inl rfl, trivial⟩
theorem blks_s_w (k h : List UInt64) (D : List UInt8) (j : Nat) : blks_w k h D (j + 1) = comp_w k (blks_w k h D j) ((D.drop (128 * j)).take 128) := rfl
theorem blks_z_w (k h : List UInt64) (D : List UInt8) : blks_w k h D 0 = h := rfl
theorem cat8w {E b : List UInt8} {o n m : Nat} (hn : n = E.length - o) (hm : m = b.length) : List.take (n * 1) (List.drop o (E.map SV.u8)) ++ List.take (m * 1) (List.drop 0 (b.map SV.u8)) = (E.drop o ++ b).map SV.u8 := by
 subst hn; subst hm
 rw [Nat.mul_one, Nat.mul_one, List.drop_zero, List.take_of_length_le (l := b.map SV.u8) (by rw [List.length_map]; exact Nat.le_refl _), List.take_of_length_le (by rw [List.length_drop, List.length_map]; exact Nat.le_refl _), List.map_append, List.map_drop]
theorem outl_z_w (H : List UInt64) : outl_w H (8 * 0) = [] := rfl
theorem outl_s_w (H : List UInt64) (i m : Nat) (hm : m < 8) : outl_w H (8 * i + (m + 1)) = outl_w H (8 * i + m) ++ [(shr64 (H.getD i 0) (8 * (7 - m))).toUInt8] := by
 show outl_w H (8 * i + m) ++ [(shr64 (H.getD ((8 * i + m) / 8) 0) (8 * (8 - 1 - (8 * i + m) % 8))).toUInt8] = _
 rw [show (8 * i + m) / 8 = i by omega, show 8 - 1 - (8 * i + m) % 8 = 7 - m by omega]
theorem outb_e_w (H : List UInt64) : outb_w H = outl_w H (8 * 8) := rfl
theorem lset_z_w (N : Nat) : lset_w N 0 = List.replicate 16 0 := rfl
theorem lset_s_w (N i : Nat) : lset_w N (i + 1) = (lset_w N i).set (15 - i) (shr64 (shl64 (UInt64.ofNat N) (UInt64.ofNat (Int.toNat 3)).toNat) (8 * i)).toUInt8 := rfl
theorem last_e_w (T : List UInt8) : rest_w T ++ [128] ++ List.replicate (pz_w T.length) 0 ++ lset_w T.length 8 = last_w T := rfl
attribute [local irreducible] blks_w st_w rest_w hash_w pz_w outl_w outb_w lset_w last_w
end Go.Sh
namespace Go.Sh
open Go.Proofs
set_option maxHeartbeats 4000000
attribute [local irreducible] comp_n
theorem f139D (h k : List UInt32) (D : List UInt8) (o : Nat) (hh : h.length = 8) (hk : k.length = 64) (ho : o + 64 ≤ D.length) (fl : Bool) : SCall Try.prog 139 [.p 0 0, .sl 3 o 64 1 fl] [some (.ro (mach_n 1 2)), some (.row 23 (h.map .u32)), some (.ro (k.map .u32)), some (.ro (D.map .u8))] (.tup []) [some (.ro (mach_n 1 2)), some (.row 23 ((comp_n k h ((D.drop o).take 64)).map .u32)), some (.ro (k.map .u32)), some (.ro (D.map .u8))] :=
 have hl : ((D.drop o).take 64).length = 64 := (by rw [List.length_take, List.length_drop]; omega)
 (f139 h k ((D.drop o).take 64) hh hk hl fl).sub 3 o (D.map .u8) (((D.drop o).take 64).map .u8) 4 rfl rfl (by rw [List.length_map, hl, ← List.map_drop, ← List.map_take]) (plainL_u8 _) (plainL_u8 _) (by decide) ⟨.inr ⟨rfl, rfl⟩, .inl rfl, trivial⟩ rfl
  ⟨.inr (.inr rfl), .inr (.inl (by simp [plainB])), .inr (.inl (by simp [plainB])), .inl rfl, trivial⟩ ⟨.inr (.inr rfl), .inr (.inl (by simp [plainB])), .inr (.inl (by simp [plainB])), .inl rfl, trivial⟩
theorem blks_s_n (k h : List UInt32) (D : List UInt8) (j : Nat) : blks_n k h D (j + 1) = comp_n k (blks_n k h D j) ((D.drop (64 * j)).take 64) := rfl
theorem blks_z_n (k h : List UInt32) (D : List UInt8) : blks_n k h D 0 = h := rfl
theorem cat8 {E b : List UInt8} {o n m : Nat} (hn : n = E.length - o) (hm : m = b.length) : List.take (n * 1) (List.drop o (E.map SV.u8)) ++ List.take (m * 1) (List.drop 0 (b.map SV.u8)) = (E.drop o ++ b).map SV.u8 := by
 subst hn; subst hm
 rw [Nat.mul_one, Nat.mul_one, List.drop_zero, List.take_of_length_le (l := b.map SV.u8) (by rw [List.length_map]; exact Nat.le_refl _), List.take_of_length_le (by rw [List.length_drop, List.length_map]; exact Nat.le_refl _), List.map_append, List.map_drop]
theorem outl_z_n (H : List UInt32) : outl_n H (4 * 0) = [] := rfl
theorem outl_s_n (H : List UInt32) (i m : Nat) (hm : m < 4) : outl_n H (4 * i + (m + 1)) = outl_n H (4 * i + m) ++ [(shr32 (H.getD i 0) (8 * (3 - m))).toUInt8] := by
 show outl_n H (4 * i + m) ++ [(shr32 (H.getD ((4 * i + m) / 4) 0) (8 * (4 - 1 - (4 * i + m) % 4))).toUInt8] = _
 rw [show (4 * i + m) / 4 = i by omega, show 4 - 1 - (4 * i + m) % 4 = 3 - m by omega]
theorem outb_e_n (H : List UInt32) : outb_n H = outl_n H (4 * 8) := rfl
theorem lset_z_n (N : Nat) : lset_n N 0 = List.replicate 8 0 := rfl
theorem lset_s_n (N i : Nat) : lset_n N (i + 1) = (lset_n N i).set (7 - i) (shr64 (shl64 (UInt64.ofNat N) (UInt64.ofNat (Int.toNat 3)).toNat) (8 * i)).toUInt8 := rfl
theorem last_e_n (T : List UInt8) : rest_n T ++ [128] ++ List.replicate (pz_n T.length) 0 ++ lset_n T.length 8 = last_n T := rfl
attribute [local irreducible] blks_n st_n rest_n hash_n pz_n outl_n outb_n lset_n last_n
end Go.Sh
namespace Go.Sh
open Go.Proofs
section
variable {P : Program} {ops : Array Oper} {N B : Nat}
theorem step_put {o : Oper} {R : Env} {H : Heap} {e : En} {L L' : Nat} {ρ : Ren} {a : Act} {w : World} (hd : e.lg.dst = o.dst) (hN : ∀ d, o.dst = some d → d < N) (hs : Sim N B L ρ R H a w) (hL : L ≤ L') (hW : ∀ id ob, (id, ob) ∈ e.W → id < L')
  {rv : Value} {w' : World} {ρ' : Ren} (hc : Chg ρ H w e.W ρ' w') (hv : ∀ v, e.out = some v → Rel ρ' v rv) : Sim N B L' ρ' (appL R (wr e)) (appL H e.W) (a.put o.dst rv) w' ∧ Ev ρ H w ρ' (appL H e.W) w' := by
  have hev := hc.evo (H := H) (fun id ob hm => rfl) hs.heap hs.sep
  rw [updW_app] at hev
  refine ⟨⟨?_, ?_, hev.heap, hev.sep, ?_, ?_⟩, hev.ev⟩
  ·
   cases hdst : o.dst <;> simp [Act.put, hdst, hs.size]
  ·
   intro t v ht
   cases hdst : o.dst with
   | none =>
    rw [hdst] at hd
    simp only [wr, hd, appL, List.lookup_nil] at ht
    simp only [Act.put]
    exact (hs.regs t v ht).ext hev.ext
   | some d =>
    rw [hdst] at hd
    have hdN : d < a.tmps.size := by rw [hs.size]; exact hN d hdst
    simp only [wr, hd, appL, List.lookup_cons, List.lookup_nil] at ht
    simp only [Act.put]
    by_cases htd : t = d
    ·
     subst htd
     simp at ht
     rw [Array.getD_eq_getD_getElem?, Array.getElem?_setIfInBounds_self_of_lt hdN]
     exact hv v ht
    ·
     have : (t == d) = false := by simpa using htd
     simp only [this] at ht
     rw [Array.getD_eq_getD_getElem?, Array.getElem?_setIfInBounds_ne (fun e => htd e.symm), ← Array.getD_eq_getD_getElem?]
     exact (hs.regs t v ht).ext hev.ext
  ·
   intro id hid
   cases hr : ρ' id with
   | none => rfl
   | some rb =>
    rcases hc.dom id rb hr with h | ⟨ob, hm⟩
    ·
     rw [hs.fresh id (by omega)] at h; cases h
    ·
     have := hW id ob hm; omega
  ·
   have : (a.put o.dst rv).defers = a.defers := by cases hdst : o.dst <;> simp [Act.put]
   rw [this]
   exact hs.dfr.fr hev.fr
theorem region_pre {r : Option Nat} {n : Nat} {Q : Exit → Act → World → Prop} {R' : Env} {H' : Heap} {Lf : Nat} {rest : List Nat} (hN : ∀ (i : Nat) (o : Oper) (d : Nat), ops[i]? = some o → o.dst = some d → d < N) :
  ∀ (os : List Oper) (k : Nat) (R : Env) (H : Heap) (L : Nat) (es : List En) (ρ : Ren) (a : Act) (w : World), (∀ j, j < os.length → os[j]? = ops[k + j]?) → RunT P ops os R H L es R' H' Lf → Sim N B L ρ R H a w →
   (∀ a' w' ρ', Sim N B Lf ρ' R' H' a' w' → Ev ρ H w ρ' H' w' → wpOpsIn (Fw r) n P ops Q rest a' w') → wpOpsIn (Fw r) n P ops Q (List.range' k os.length ++ rest) a w
 | [], k, R, H, L, es, ρ, a, w, _, hr, hs, hk => by
  obtain ⟨rfl, rfl, rfl, rfl⟩ := hr
  exact hk a w ρ hs (Ev.refl _ _ _)
 | o :: os, k, R, H, L, es, ρ, a, w, hos, hr, hs, hk => by
  obtain ⟨e, es', L', rfl, hg, hL, hW, hr'⟩ := hr
  have h0 : ops[k]? = some o := by have := hos 0 (by simp); simpa using this.symm
  rw [List.length_cons, List.range'_succ, List.cons_append, wpOpsIn_cons]
  refine good_step (L' := L') h0 hg (fun d hd => hN k o d h0 hd) (fun _ _ => rfl) (fun _ _ => rfl) hs (fun id ob hm hF => hs.fresh id ((hW id ob hm).2 hF)) hL (fun id ob hm => (hW id ob hm).1) ?_
  intro a' w' ρ' hs' hev _
  refine region_pre hN os (k + 1) _ _ L' es' ρ' a' w' (fun j hj => by have := hos (j + 1) (by simp; omega); simp only [List.getElem?_cons_succ] at this; rw [this]; congr 1; omega) hr' hs' ?_
  intro a2 w2 ρ2 hs2 hev2
  exact hk a2 w2 ρ2 hs2 (hev.trans hev2)
end
structure SOps (P : Program) (N : Nat) (ops : Array Oper) (Q : RL → HL → Nat → Prop) (os : List Oper) (R : RL) (H : HL) (L : Nat) : Prop where
 run : ∀ (r : Option Nat) (n B : Nat) (ρ : Ren) (a : Act) (w : World) (k : Nat) (K : Exit → Act → World → Prop), (∀ j, os[j]? = ops[k + j]?) → Sim N B L ρ (rg R) (hg H) a w → H.length ≤ L →
  (∀ a' w' R' H' L' ρ', Q R' H' L' → H'.length ≤ L' → Sim N B L' ρ' (rg R') (hg H') a' w' → Ev ρ (hg H) w ρ' (hg H') w' → K .normal a' w') → wpOpsIn (Fw r) n P ops K (List.range' k os.length) a w
section
variable {T : TT} {P : Program} {N : Nat} {ops : Array Oper}
theorem sops_end {Q : RL → HL → Nat → Prop} {os : List Oper} {R : RL} {H : HL} {L : Nat} (hT : TOk P T) (hd : dstOk N ops = true) (h : rops T P ops os R H L [] fun R' H' L' _ => Q R' H' L') : SOps P N ops Q os R H L := by
 refine ⟨fun r n B ρ a w k K hos hs hl hK => ?_⟩
 have hN : ∀ (i : Nat) (o : Oper) (d : Nat), ops[i]? = some o → o.dst = some d → d < N := by
  intro i o d ho hdst
  simp only [dstOk, List.all_eq_true] at hd
  have := hd o (by simpa using Array.mem_of_getElem? ho)
  simpa [hdst] using this
 obtain ⟨es, R2, H2, L2, hr2, hl2, hq2⟩ := rops_ok hT h hl
 exact region_text hN os k _ _ _ es ρ a w hos hr2 hs (fun a' w' ρ' hs' hev => hK a' w' R2 H2 L2 ρ' hq2 hl2 hs' hev)
theorem sops_pre {Q : RL → HL → Nat → Prop} {pre os : List Oper} {R : RL} {H : HL} {L : Nat} (hT : TOk P T) (hd : dstOk N ops = true) (h : rops T P ops pre R H L [] fun R' H' L' _ => SOps P N ops Q os R' H' L') : SOps P N ops Q (pre ++ os) R H L := by
 refine ⟨fun r n B ρ a w k K hos hs hl hK => ?_⟩
 have hN : ∀ (i : Nat) (o : Oper) (d : Nat), ops[i]? = some o → o.dst = some d → d < N := by
  intro i o d ho hdst
  simp only [dstOk, List.all_eq_true] at hd
  have := hd o (by simpa using Array.mem_of_getElem? ho)
  simpa [hdst] using this
 obtain ⟨es, R2, H2, L2, hr2, hl2, hq2⟩ := rops_ok hT h hl
 rw [List.length_append, List.range'_append_1.symm]
 refine region_pre hN pre k _ _ _ es ρ a w (fun j hj => by rw [← hos, List.getElem?_append_left hj]) hr2 hs (fun a' w' ρ' hs' hev => ?_)
 refine hq2.run r n B ρ' a' w' (k + pre.length) K (fun j => ?_) hs' hl2 (fun a2 w2 R3 H3 L3 ρ3 hq3 hl3 hs3 hev3 => hK a2 w2 R3 H3 L3 ρ3 hq3 hl3 hs3 (hev.trans hev3))
 have := hos (pre.length + j)
 rw [List.getElem?_append_right (by omega), show pre.length + j - pre.length = j by omega] at this
 rw [this]; congr 1; omega
theorem swp_sops {M : Option Nat → Prop} {A id : Nat} {Q : Exit → RL → HL → Nat → Prop} {R : RL} {H : HL} {L : Nat} {os : List Oper} (ho : ops.toList = os) (h : SOps P N ops (fun R' H' L' => Q .normal R' H' L') os R H L) : SWp P M N A (.region id ops false) Q R H L := by
 refine ⟨fun r nn B ρ a w hM hs hl => ?_⟩
 refine wpIn_region ?_
 have hsz : ops.size = os.length := by rw [← ho]; simp
 rw [List.range_eq_range', hsz]
 exact h.run r nn B ρ a w 0 _ (fun j => by rw [← ho, Array.getElem?_toList, Nat.zero_add]) hs hl (fun a' w' R' H' L' ρ' hq hl' hs' hev => ⟨R', H', L', ρ', hq, hl', hs', hev.toA⟩)
theorem run_conv_same {t el : TypeId} {b n : Nat} {cs : Array Value} (hu : P.underlying t = some (.slice el)) (he : P.underlying el = some (.int .u8)) (w : World) :
  (convert t t (.slice (some ⟨w.heap.size, 0, none⟩) n n)).run P (w.alloc (.cells cs el)) = .ok (.slice (some ⟨w.heap.size, 0, none⟩) n n) (w.alloc (.cells cs el (cs.size, cs.size + 1))) := by
 have hfrz : (w.alloc (.cells cs el)).freeze ⟨w.heap.size, cs.size, none⟩ 1 = w.alloc (.cells cs el (cs.size, cs.size + 1)) := by
  have hh : ((w.alloc (.cells cs el)).freeze ⟨w.heap.size, cs.size, none⟩ 1).heap = (w.alloc (.cells cs el (cs.size, cs.size + 1))).heap := by
   simp only [World.freeze, World.alloc, Nat.one_ne_zero, if_false]
   apply Array.ext_getElem?
   intro j
   rw [Array.getElem?_modify]
   by_cases hj : w.heap.size = j
   ·
    subst hj; simp
   ·
    rw [if_neg hj, Array.getElem?_push, Array.getElem?_push, if_neg (fun e => hj e.symm), if_neg (fun e => hj e.symm)]
  simp only [World.freeze, World.alloc, Nat.one_ne_zero, if_false] at hh ⊢
  rw [hh]
 have hsh : (w.alloc (.cells cs el)).shape? w.heap.size = some (el, cs.size) := by
  have hh := alloc_heap_new w (.cells cs el)
  simp only [World.shape?]
  rw [show (w.alloc (.cells cs el)).heap[w.heap.size]? = some (.cells cs el) from hh]
 have hmark : (markStringish ⟨w.heap.size, 0, none⟩).run P (w.alloc (.cells cs el)) = .ok () ((w.alloc (.cells cs el)).freeze ⟨w.heap.size, cs.size, none⟩ 1) := by
  simp only [markStringish, Sem.run_bind, run_shape, hsh, Result.andThen_ok, run_freeze]
 have hbe : (t == t) = true := by simp
 simp only [convert, Sem.run_bind, run_und hu, run_und he, Result.andThen_ok, hbe, hmark, hfrz, Sem.run_pure]
theorem sops_lit {Q : RL → HL → Nat → Prop} {o1 o2 : Oper} {os : List Oper} {R : RL} {H : HL} {L d1 d2 t n el sz : Nat} {parts : Array (Nat × Operand)} {xs : List (Nat × SV)} {z : SV} {l : List SV} (hd : dstOk N ops = true)
  (ho1 : o1.op = .buildSlice t n parts) (hg1 : o1.guard = none) (hd1 : o1.dst = some d1) (ho2 : o2.op = .convert t t (.tmp d1)) (hg2 : o2.guard = none) (hd2 : o2.dst = some d2)
  (hx : parts.toList.map (fun p => (p.1, evO (rg R) p.2)) = xs.map (fun p => (p.1, some p.2))) (hu : P.underlying t = some (.slice el)) (he : P.underlying el = some (.int .u8)) (hz : pzero P el = some z) (hs : psz P el = some sz) (hzs : z.cells.length = sz)
  (hn : n * sz ≤ 16777216) (hf : sfill (fun i => some (i * sz, sz)) (reps n z.cells) xs = some l)
  (h : SOps P N ops Q os ((d2, .sl L 0 n sz true) :: (d1, .sl L 0 n sz true) :: R) (hupd H [(L, some (.row el l))]) (L + 1)) : SOps P N ops Q (o1 :: o2 :: os) R H L := by
 refine ⟨fun r nn B ρ a w k K hos hsim hl hK => ?_⟩
 have hN : ∀ (i : Nat) (o : Oper) (d : Nat), ops[i]? = some o → o.dst = some d → d < N := by
  intro i o d ho hdst
  simp only [dstOk, List.all_eq_true] at hd
  have := hd o (by simpa using Array.mem_of_getElem? ho)
  simpa [hdst] using this
 have e1 : ops[k]? = some o1 := by have := hos 0; simpa using this.symm
 have e2 : ops[k + 1]? = some o2 := by have := hos 1; simpa using this.symm
 have h1 : ∀ x ∈ o1.op.operands, ∀ v, evO (rg R) x = some v → Rel ρ v (a.eval x) := fun x hx v hv => by
  cases x with
  | tmp t => exact hsim.regs t v hv
  | const u => exact (ofVal_rel hv).1
  | func f => simp only [evO, Option.some.injEq] at hv; subst hv; simp only [Rel]; exact ⟨[], rfl, Rels.nil_iff.2 rfl⟩
  | global g => cases hv
 obtain ⟨e, hee⟩ : ∃ e : Operand → Value, e = a.eval := ⟨_, rfl⟩
 rw [← hee] at h1
 obtain ⟨i, v, hi, hv, hr, ht⟩ := zero_of hz
 obtain ⟨zr, za⟩ := (hr ρ).cells_rel ht
 have hzl := zr.length
 simp only [Array.length_toList] at hzl
 obtain ⟨mr, ma⟩ := made_rel zr za n
 rw [hzl, hzs] at mr
 obtain ⟨cs, g1, g2, g3⟩ := fill_ok (relParts_map (parts_ops (fun x hx => by obtain ⟨p, hp, rfl⟩ := hx; simp [ho1, Op.operands]; exact ⟨p.1, by simpa using hp⟩) h1) hx) mr ma hf
 have hcl := g2.length
 simp only [Array.length_toList] at hcl
 have hlen : l.length = n * sz := by
  have : ∀ (ys : List (Nat × SV)) (l l' : List SV), sfill (fun i => some (i * sz, sz)) l ys = some l' → l'.length = l.length := by
   intro ys
   induction ys with
   | nil => intro l l' h; simp only [sfill, Option.some.injEq] at h; rw [h]
   | cons y ys ih =>
    intro l l' h
    obtain ⟨i, y⟩ := y
    simp only [sfill] at h
    split at h
    ·
     rename_i hc
     rw [ih _ _ h, sput_eq _ _ _ (by omega)]
     simp; omega
    ·
     cases h
  rw [this _ _ _ hf, reps_length, hzs]
 rw [← map_parts] at g1
 have hrun1 : (execOp a.eval o1).run P w = .ok (.value (.slice (some ⟨w.heap.size, 0, none⟩) n n)) (w.alloc (.cells cs el)) := by
  rw [← hee]
  simp only [execOp, ho1, Sem.run_bind, run_buildSlice' hu hs hi hv hn g1, Result.andThen_ok, Sem.run_pure]
 have hch : Chg ρ (hg H) w [(L, some (.row el l))] (setR ρ L ⟨w.heap.size, 0, cs.size, false⟩) (w.alloc (.cells cs el (cs.size, cs.size + 1))) :=
  Chg.row w.drawn (hsim.fresh L (Nat.le_refl _)) g3 (by rw [List.take_of_length_le (by simp; omega)]; exact g2) (by omega) (.inr (Nat.le_refl _))
 have hrel : Rel (setR ρ L ⟨w.heap.size, 0, cs.size, false⟩) (.sl L 0 n sz true) (.slice (some ⟨w.heap.size, 0, none⟩) n n) := by
  simp only [Rel]
  exact ⟨_, _, n, setR_same _ _ _, rfl, Nat.le_refl _, fun _ => rfl, .inr ⟨rfl, rfl, by simp only; omega⟩⟩
 rw [List.length_cons, List.length_cons, List.range'_succ, List.range'_succ, wpOpsIn_cons]
 have hw1 : Region.wanted o1 (yielded ops a.tmps) = true := by unfold Region.wanted; simp only [hg1]
 unfold wpOpIn
 simp only [e1, hw1, if_true]
 refine ⟨fun _ _ => trivial, ?_⟩
 rw [Oper.semAt_eq _ _ _ (by simp [ho1]), hrun1]
 show wpOpsIn (Fw r) nn P ops K ((k + 1) :: List.range' (k + 1 + 1) os.length) (a.put o1.dst (.slice (some ⟨w.heap.size, 0, none⟩) n n)) (w.alloc (.cells cs el))
 rw [wpOpsIn_cons]
 obtain ⟨a1, ha1⟩ : ∃ a1, a1 = a.put o1.dst (.slice (some ⟨w.heap.size, 0, none⟩) n n) := ⟨_, rfl⟩
 rw [← ha1]
 have hw2 : Region.wanted o2 (yielded ops a1.tmps) = true := by unfold Region.wanted; simp only [hg2]
 unfold wpOpIn
 simp only [e2, hw2, if_true]
 refine ⟨fun _ _ => trivial, ?_⟩
 have hd1N : d1 < a.tmps.size := by rw [hsim.size]; exact hN k o1 d1 e1 hd1
 have hev : a1.eval (.tmp d1) = .slice (some ⟨w.heap.size, 0, none⟩) n n := by
  rw [ha1, hd1]
  show (a.tmps.setIfInBounds d1 _).getD d1 undef = _
  rw [Array.getD_eq_getD_getElem?, Array.getElem?_setIfInBounds_self_of_lt hd1N]; rfl
 have hrun2 : (execOp a1.eval o2).run P (w.alloc (.cells cs el)) = .ok (.value (.slice (some ⟨w.heap.size, 0, none⟩) n n)) (w.alloc (.cells cs el (cs.size, cs.size + 1))) := by
  simp only [execOp, ho2, hev, Sem.run_bind, run_conv_same (b := 0) hu he w, Result.andThen_ok, Sem.run_pure]
 rw [Oper.semAt_eq _ _ _ (by simp [ho2]), hrun2]
 show wpOpsIn (Fw r) nn P ops K (List.range' (k + 1 + 1) os.length) (a1.put o2.dst (.slice (some ⟨w.heap.size, 0, none⟩) n n)) (w.alloc (.cells cs el (cs.size, cs.size + 1)))
 have hnL : ∀ id ob, (id, ob) ∈ [(L, some (SB.row el l))] → id < L + 1 := fun id ob hm => by simp at hm; omega
 obtain ⟨s1, ev1⟩ := step_put (o := o1) (e := ⟨⟨o1.dst, [], [], [L]⟩, some (.sl L 0 n sz true), [(L, some (.row el l))]⟩) (L' := L + 1) rfl (fun d hd => hN k o1 d e1 hd) hsim (by omega) hnL hch (rv := .slice (some ⟨w.heap.size, 0, none⟩) n n) (fun v hv => by cases hv; exact hrel)
 rw [appL_wr rfl, ← updW_app, ← hg_hupd, ← ha1] at s1
 rw [← updW_app, ← hg_hupd] at ev1
 obtain ⟨s2, ev2⟩ := step_put (o := o2) (e := ⟨⟨o2.dst, [], [], []⟩, some (.sl L 0 n sz true), []⟩) (L' := L + 1) rfl (fun d hd => hN (k + 1) o2 d e2 hd) s1 (Nat.le_refl _) (fun id ob hm => by simp at hm) (Chg.zero _ _ _) (rv := .slice (some ⟨w.heap.size, 0, none⟩) n n) (fun v hv => by cases hv; exact hrel)
 rw [appL_wr rfl, ← updW_app, ← hg_hupd] at s2
 rw [← updW_app, ← hg_hupd] at ev2
 have hr1 : rput R o1.dst (some (.sl L 0 n sz true)) = (d1, .sl L 0 n sz true) :: R := by rw [hd1]; rfl
 have hr2 : ∀ R', rput R' o2.dst (some (.sl L 0 n sz true)) = (d2, .sl L 0 n sz true) :: R' := fun R' => by rw [hd2]; rfl
 rw [hr1, hr2] at s2
 have hz0 : hupd (hupd H [(L, some (.row el l))]) [] = hupd H [(L, some (.row el l))] := rfl
 rw [hz0] at s2 ev2
 refine h.run r nn B _ _ _ (k + 1 + 1) K (fun j => ?_) s2 (hupd_le (by omega) hnL) (fun a2 w2 R3 H3 L3 ρ3 hq3 hl3 hs3 hev3 => hK a2 w2 R3 H3 L3 ρ3 hq3 hl3 hs3 ((ev1.trans ev2).trans hev3))
 have := hos (j + 2)
 simp only [List.getElem?_cons_succ] at this
 rw [this]; congr 1; omega
end
def memN : Nat → List Nat → Bool
 | _, [] => false
 | x, y :: ys => match Nat.beq x y with | true => true | false => memN x ys
def swxs (J : List Nat) (T : TT) (P : Program) (M : Option Nat → Prop) (N A : Nat) (c : Code) : (Exit → RL → HL → Nat → Prop) → RL → HL → Nat → Prop :=
 @Code.rec (fun _ => (Exit → RL → HL → Nat → Prop) → RL → HL → Nat → Prop)
  (fun Q => Q .normal)
  (fun id ops draw Q R H L => match memN id J with
   | true => SWp P M N A (.region id ops draw) Q R H L
   | false => sw T P M N A (.region id ops draw) Q R H L)
  (fun _ _ iha ihb Q => iha fun e => match e with | .normal => ihb Q | e => Q e)
  (fun c _ _ ihx ihy Q R H L => match ev R c with
   | some (.b t) => (t = true → ihx Q R H L) ∧ (t = false → ihy Q R H L)
   | _ => False)
  (fun id _ ih Q => ih fun e => match e with
   | .exit i => match Nat.beq i id with | true => Q .normal | false => Q (.exit i)
   | e => Q e)
  (fun c _ Q => SWp P M N A (.loop c) Q)
  (fun f ps x y _ _ Q => SWp P M N A (.rangeFunc f ps x y) Q)
  (fun id Q => Q (.exit id))
  (fun c _ Q => SWp P M N A (.scope c) Q)
  (fun l Q => SWp P M N A (.label l) Q)
  (fun l Q => SWp P M N A (.goto l) Q)
  (fun Q => Q .ret)
  (fun s Q => SWp P M N A (.refuse s) Q) c
theorem swxs_ok {J : List Nat} {T : TT} {P : Program} {M : Option Nat → Prop} {N A : Nat} (hT : TOk P T) (hm : P.follows .mixedOrders = true) : ∀ {c : Code} {Q : Exit → RL → HL → Nat → Prop} {R : RL} {H : HL} {L : Nat}, codeOk N c = true →
  swxs J T P M N A c Q R H L → SWp P M N A c Q R H L
 | .skip, Q, R, H, L, _, h => ⟨fun r n B ρ a w hM hs hl => wpIn_skip ⟨R, H, L, ρ, h, hl, hs, EvA.refl _ _ _ _⟩⟩
 | .exit id, Q, R, H, L, _, h => ⟨fun r n B ρ a w hM hs hl => wpIn_exit ⟨R, H, L, ρ, h, hl, hs, EvA.refl _ _ _ _⟩⟩
 | .ret, Q, R, H, L, _, h => ⟨fun r n B ρ a w hM hs hl => wpIn_ret ⟨R, H, L, ρ, h, hl, hs, EvA.refl _ _ _ _⟩⟩
 | .region id ops draw, Q, R, H, L, hc, h => by
  have h : (match memN id J with
   | true => SWp P M N A (.region id ops draw) Q R H L
   | false => sw T P M N A (.region id ops draw) Q R H L) := h
  cases hb : memN id J with
  | true => rw [hb] at h; exact h
  | false => rw [hb] at h; exact sw_ok hT hm hc h
 | .seq x y, Q, R, H, L, hc, h => by
  simp only [codeOk, Bool.and_eq_true] at hc
  have h : swxs J T P M N A x (fun e => match e with | .normal => swxs J T P M N A y Q | e => Q e) R H L := h
  exact (swxs_ok hT hm hc.1 h).seq (fun R H L h => swxs_ok hT hm hc.2 h) (fun e R H L hne h => by cases e <;> first | exact absurd rfl hne | exact h)
 | .cond c x y, Q, R, H, L, hc, h => by
  simp only [codeOk, Bool.and_eq_true] at hc
  have h : (match ev R c with
   | some (.b t) => (t = true → swxs J T P M N A x Q R H L) ∧ (t = false → swxs J T P M N A y Q R H L)
   | _ => False) := h
  split at h
  ·
   rename_i t ht
   refine ⟨fun r n B ρ a w hM hs hl => ?_⟩
   have hcv : a.eval c = .bool t := by
    cases c with
    | tmp k =>
     have h1 := hs.regs k (.b t) (by rw [rg, ← lk_eq]; exact ht)
     simp only [Rel] at h1
     exact h1
    | const v =>
     have h1 := (ofVal_rel (ρ := ρ) ht).1
     simp only [Rel] at h1
     exact h1
    | func f => cases ht
    | global g => cases ht
   refine wpIn_cond_split hcv (fun ht => (swxs_ok hT hm hc.1 (h.1 ht)).run r n B ρ a w hM hs hl) (fun ht => (swxs_ok hT hm hc.2 (h.2 ht)).run r n B ρ a w hM hs hl)
  ·
   exact h.elim
 | .block id c, Q, R, H, L, hc, h => by
  refine ⟨fun r n B ρ a w hM hs hl => ?_⟩
  have h : swxs J T P M N A c (fun e => match e with
   | .exit i => match Nat.beq i id with | true => Q .normal | false => Q (.exit i)
   | e => Q e) R H L := h
  simp only [codeOk] at hc
  refine wpIn_block (wpIn_mono ((swxs_ok hT hm hc h).run r n B ρ a w hM hs hl) ?_)
  rintro e a2 w2 ⟨R2, H2, L2, ρ2, hq2, rest⟩
  cases e with
  | exit i =>
   simp only [Exit.inBlock]
   cases hb : Nat.beq i id with
   | true => simp only [hb] at hq2; rw [if_pos (beqE hb)]; exact ⟨R2, H2, L2, ρ2, hq2, rest⟩
   | false => simp only [hb] at hq2; rw [if_neg (fun e => by subst e; simp at hb)]; exact ⟨R2, H2, L2, ρ2, hq2, rest⟩
  | _ => exact ⟨R2, H2, L2, ρ2, hq2, rest⟩
 | .loop c, Q, R, H, L, _, h => h
 | .rangeFunc f ps x y, Q, R, H, L, _, h => h
 | .scope c, Q, R, H, L, _, h => h
 | .label l, Q, R, H, L, _, h => h
 | .goto l, Q, R, H, L, _, h => h
 | .refuse s, Q, R, H, L, _, h => h
end Go.Sh
namespace Go.Sh
open Go.Proofs
section
variable {P : Program} {ρ : Ren} {H : Heap} {w : World}
theorem app_row2 {o : Oper} {x y : Operand} {t xT el sz by_ id nid n m : Nat} {full : Bool} {z : SV} {l ys : List SV} {rb : RB} {e : Operand → Value} (ho : o.op = .call { callee := .builtin .append, args := #[x, y], argTypes := #[t, xT] })
  (hty : AppTy P t xT el sz by_ z) (hx : Rel ρ (.sl id 0 n sz full) (e x)) (hid : H id = some (.row el l)) (hr : ρ id = some rb) (hb : BRel ρ w rb (.row el l)) (hln : n * sz = l.length) (hsrc : Src P ρ w (e y) sz m ys)
  (hm : (n + m) * by_ ≤ 140737488355328) (hm0 : 0 < m) (hn : ρ nid = none) :
  ∃ v w', (execOp e o).run P w = .ok (.value v) w' ∧ ((Chg ρ H w [(id, some (.row el (l ++ ys)))] ρ w' ∧ Rel ρ (.sl id 0 (n + m) sz false) v) ∨ (∃ ρ', Chg ρ H w [(nid, some (.row el (l ++ ys)))] ρ' w' ∧ Rel ρ' (.sl nid 0 (n + m) sz false) v)) := by
 obtain ⟨i, v, dx, hi, hv, hvs, his, hib, hdx, hdx2⟩ := hty.facts
 have hsrcx : Src P ρ w (e x) sz n ((l.drop 0).take (n * sz)) := src_sl hx hr hb (by show 0 + n * sz ≤ l.length; omega)
 rw [List.drop_zero, hln, List.take_length] at hsrcx
 obtain ⟨news, hl, hf, hrn, ha, hlen, _⟩ := hsrc
 obtain ⟨olds, _, hfo, hro, hao, hleno, _⟩ := hsrcx
 have hl0 := hl w.drawn
 have hf0 := hf w.drawn
 have hf1 := hf (w.drawn + 1)
 have hfo1 := hfo (w.drawn + 1)
 have hnl := hrn.length
 have hx0 := hx
 simp only [Rel] at hx
 obtain ⟨rb', a, c, hr', he, hnc, hfull, hdis⟩ := hx
 rw [hr] at hr'; cases hr'
 by_cases hroom : n + m ≤ c
 ·
  have hc0 : c ≠ 0 := by omega
  obtain ⟨hvirt, ha2, hcap⟩ := hdis.resolve_left hc0
  rcases hb with ⟨hv1, _⟩ | ⟨_, ca, fz, hca, hz, hcs, hla, hlr, hll⟩
  ·
   rw [hvirt] at hv1; cases hv1
  have hcm : (n + m) * sz ≤ c * sz := Nat.mul_le_mul_right _ hroom
  rw [Nat.add_mul] at hcm
  have hst := run_puts (P := P) (o := rb.off + n * sz) news 0 hca hz (by omega) (hrn.oneCell ha)
  have hps : (putAt ca (rb.off + n * sz) news).size = ca.size := putAt_size _ _ _ (by omega)
  refine ⟨.slice a (n + m) c, World.putCells w rb.blk (rb.off + n * sz) news, app_run ho ?_, .inl ⟨?_, ?_⟩⟩
  ·
   rw [he, app_room hty.hT hdx hdx2 hty.hs hl0 hf0 hroom, ha2]
   simp only [add_addr, Nat.add_zero, hst]
   rfl
  ·
   refine Chg.put hid hr rfl ?_ (.inr ⟨hvirt, _, fz, World.putCells_heap w rb.blk _ news hca, hz.put _ _ (by omega), ?_, ?_, ?_, ?_⟩) ?_
   ·
    rintro i o2 ⟨h1, h2, h3⟩
    exact ⟨h1, h2, h3⟩
   ·
    rw [hps]; omega
   ·
    simp [atoms] at hao ha ⊢; exact ⟨hao, ha⟩
   ·
    have e1 : ((putAt ca (rb.off + n * sz) news).toList.drop rb.off).take (l ++ ys).length = List.take l.length (ca.toList.drop rb.off) ++ news := by
     have h1 : (l ++ ys).length = n * sz + news.length := by rw [List.length_append, hnl, hln]
     rw [h1]
     apply List.ext_getElem?
     intro j
     by_cases hj : j < n * sz + news.length
     ·
      rw [drop_take_get hj, Array.getElem?_toList, putAt_getElem? _ _ _ (by omega)]
      by_cases h2 : j < n * sz
      ·
       rw [if_neg (by omega)]
       rw [List.getElem?_append_left (by simp; omega), List.getElem?_take_of_lt (by omega), List.getElem?_drop, Array.getElem?_toList]
      ·
       rw [if_pos (by omega)]
       rw [List.getElem?_append_right (by simp; omega)]
       congr 1
       simp; omega
     ·
      rw [List.getElem?_eq_none (by simp; omega)]
      rw [List.getElem?_eq_none (by simp; omega)]
    rw [e1]
    exact hlr.append hrn
   ·
    simp only [List.length_append, hlen]; omega
   ·
    exact Fr.putCells _ _ _ _ _ hca (by omega) (fun o2 h1 h2 => ⟨hvirt, rfl, by omega⟩)
  ·
   simp only [Rel]
   refine ⟨_, a, c, hr, rfl, hroom, fun h => (by cases h), .inr ⟨hvirt, by rw [ha2], by omega⟩⟩
 ·
  rw [he] at hfo1
  have hg := app_grow (ty := o.type) (a := a) (n := n) (c := c) hty.hT hdx hdx2 hi hv his hl0 hf1 hfo1 (by omega) (by rw [hib]; exact hty.hb0) (by rw [hib]; exact growslice_fits (by omega) hm)
  have hge := grownCap_ge w (n + m) c el
  obtain ⟨g1, g2⟩ := grown_row (ρ := ρ) (w := w) (nid := nid) (el := el) hro hao hrn ha hln.symm hlen hvs hge
  exact ⟨_, _, app_run ho (by rw [he]; exact hg), .inr ⟨_, Chg.new (w.drawn + 1) hn rfl g1, g2⟩⟩
end
section
variable {T : TT} {P : Program} {N : Nat} {ops : Array Oper}
theorem wanted_of_gpass {B L : Nat} {o : Oper} {R : Env} {H : Heap} {ρ : Ren} {a : Act} {w : World} {t : Bool} (hs : Sim N B L ρ R H a w) (ht : gpass ops o R = some t) : Region.wanted o (yielded ops a.tmps) = t := by
 unfold gpass at ht
 unfold Region.wanted
 split at ht
 ·
  rename_i hgd; simp only [hgd]; cases ht; rfl
 ·
  rename_i j want hgd
  simp only [hgd]
  cases hsl : (ops[j]?).bind (·.dst) with
  | none => rw [hsl] at ht; cases ht
  | some s =>
   rw [hsl] at ht
   simp only [Option.bind_some] at ht
   cases hRs : R s with
   | none => rw [hRs] at ht; cases ht
   | some v =>
    rw [hRs] at ht
    cases v with
    | b b =>
     have hrel := hs.regs s _ hRs
     simp only [Rel] at hrel
     have hyi : yielded ops a.tmps j = some b := by
      unfold yielded
      rw [hsl, Option.bind_some]
      have hsz : s < a.tmps.size := by
       refine Nat.lt_of_not_le fun hlt => ?_
       rw [Array.getD_eq_getD_getElem?, Array.getElem?_eq_none hlt] at hrel
       cases hrel
      have : a.tmps[s]? = some (.bool b) := by
       rw [Array.getD_eq_getD_getElem?, Array.getElem?_eq_getElem hsz] at hrel
       rw [Array.getElem?_eq_getElem hsz]; exact congrArg some hrel
      rw [this]
     rw [hyi]
     cases ht
     cases b <;> cases want <;> rfl
    | tup l =>
     cases l with
     | cons _ _ => cases ht
     | nil =>
      cases ht
      have hrel := hs.regs s _ hRs
      simp only [Rel, Rels] at hrel
      obtain ⟨cs, e, rfl⟩ := hrel
      have hyi : yielded ops a.tmps j = none := by
       unfold yielded
       rw [hsl, Option.bind_some]
       cases hg : a.tmps[s]? with
       | none => rfl
       | some x => rw [Array.getD_eq_getD_getElem?, hg] at e; simp only [Option.getD_some] at e; subst e; rfl
      rw [hyi]
      cases want <;> rfl
    | _ => cases ht
theorem sops_app2 {Q : RL → HL → Nat → Prop} {o : Oper} {os : List Oper} {R : RL} {H : HL} {L d t xT el sz by_ id id2 n m o2 : Nat} {full full2 : Bool} {x y : Operand} {z : SV} {l : List SV} {b : SB} (hd : dstOk N ops = true)
  (ho : o.op = .call { callee := .builtin .append, args := #[x, y], argTypes := #[t, xT] }) (hgp : gpass ops o (rg R) = some true) (hdst : o.dst = some d) (hty : AppTy P t xT el sz by_ z)
  (hx : evO (rg R) x = some (.sl id 0 n sz full)) (hid : hg H id = some (.row el l)) (hln : n * sz = l.length) (hy : evO (rg R) y = some (.sl id2 o2 m sz full2)) (hb : hg H id2 = some b) (hin : o2 + m * sz ≤ b.cells.length)
  (hm : (n + m) * by_ ≤ 140737488355328) (hm0 : 0 < m) (hidL : id < L)
  (hA : SOps P N ops Q os ((d, .sl id 0 (n + m) sz false) :: R) (hupd H [(id, some (.row el (l ++ (b.cells.drop o2).take (m * sz))))]) L)
  (hB : SOps P N ops Q os ((d, .sl L 0 (n + m) sz false) :: R) (hupd H [(L, some (.row el (l ++ (b.cells.drop o2).take (m * sz))))]) (L + 1)) : SOps P N ops Q (o :: os) R H L := by
 refine ⟨fun r nn B ρ a w k K hos hsim hl hK => ?_⟩
 have hN : ∀ (i : Nat) (o : Oper) (d : Nat), ops[i]? = some o → o.dst = some d → d < N := by
  intro i o d ho hdst
  simp only [dstOk, List.all_eq_true] at hd
  have := hd o (by simpa using Array.mem_of_getElem? ho)
  simpa [hdst] using this
 have e1 : ops[k]? = some o := by have := hos 0; simpa using this.symm
 have h1 : ∀ x v, evO (rg R) x = some v → Rel ρ v (a.eval x) := fun x v hv => by
  cases x with
  | tmp t => exact hsim.regs t v hv
  | const u => exact (ofVal_rel hv).1
  | func f => simp only [evO, Option.some.injEq] at hv; subst hv; simp only [Rel]; exact ⟨[], rfl, Rels.nil_iff.2 rfl⟩
  | global g => cases hv
 obtain ⟨rb, hr, hbr⟩ := hsim.heap id _ hid
 obtain ⟨rb2, hr2, hbr2⟩ := hsim.heap id2 _ hb
 obtain ⟨v, w', hrun, hcase⟩ := app_row2 (e := a.eval) (nid := L) ho hty (h1 x _ hx) hid hr hbr hln (src_sl (h1 y _ hy) hr2 hbr2 hin) hm hm0 (hsim.fresh L (Nat.le_refl _))
 rw [List.length_cons, List.range'_succ, wpOpsIn_cons]
 have hw1 := wanted_of_gpass hsim hgp
 unfold wpOpIn
 simp only [e1, hw1, if_true]
 refine ⟨fun _ _ => trivial, ?_⟩
 rw [Oper.semAt_eq _ _ _ (by simp [ho]), hrun]
 show wpOpsIn (Fw r) nn P ops K (List.range' (k + 1) os.length) (a.put o.dst v) w'
 have hos' : ∀ j, os[j]? = ops[k + 1 + j]? := fun j => by
  have := hos (j + 1)
  simp only [List.getElem?_cons_succ] at this
  rw [this]; congr 1; omega
 rcases hcase with ⟨hch, hrel⟩ | ⟨ρ', hch, hrel⟩
 ·
  have hnL : ∀ i ob, (i, ob) ∈ [(id, some (SB.row el (l ++ (b.cells.drop o2).take (m * sz))))] → i < L := fun i ob hm => by simp at hm; omega
  obtain ⟨s1, ev1⟩ := step_put (o := o) (e := ⟨⟨o.dst, [], [], [id]⟩, some (.sl id 0 (n + m) sz false), [(id, some (.row el (l ++ (b.cells.drop o2).take (m * sz))))]⟩) (L' := L) rfl (fun d hd => hN k o d e1 hd) hsim (Nat.le_refl _) hnL hch (rv := v) (fun v hv => by cases hv; exact hrel)
  rw [appL_wr rfl, ← updW_app, ← hg_hupd] at s1
  rw [← updW_app, ← hg_hupd] at ev1
  have hr1 : rput R o.dst (some (.sl id 0 (n + m) sz false)) = (d, .sl id 0 (n + m) sz false) :: R := by rw [hdst]; rfl
  rw [hr1] at s1
  exact hA.run r nn B _ _ _ (k + 1) K hos' s1 (hupd_le hl hnL) (fun a2 w2 R3 H3 L3 ρ3 hq3 hl3 hs3 hev3 => hK a2 w2 R3 H3 L3 ρ3 hq3 hl3 hs3 (ev1.trans hev3))
 ·
  have hnL : ∀ i ob, (i, ob) ∈ [(L, some (SB.row el (l ++ (b.cells.drop o2).take (m * sz))))] → i < L + 1 := fun i ob hm => by simp at hm; omega
  obtain ⟨s1, ev1⟩ := step_put (o := o) (e := ⟨⟨o.dst, [], [], [L]⟩, some (.sl L 0 (n + m) sz false), [(L, some (.row el (l ++ (b.cells.drop o2).take (m * sz))))]⟩) (L' := L + 1) rfl (fun d hd => hN k o d e1 hd) hsim (by omega) hnL hch (rv := v) (fun v hv => by cases hv; exact hrel)
  rw [appL_wr rfl, ← updW_app, ← hg_hupd] at s1
  rw [← updW_app, ← hg_hupd] at ev1
  have hr1 : rput R o.dst (some (.sl L 0 (n + m) sz false)) = (d, .sl L 0 (n + m) sz false) :: R := by rw [hdst]; rfl
  rw [hr1] at s1
  exact hB.run r nn B _ _ _ (k + 1) K hos' s1 (hupd_le (by omega) hnL) (fun a2 w2 R3 H3 L3 ρ3 hq3 hl3 hs3 hev3 => hK a2 w2 R3 H3 L3 ρ3 hq3 hl3 hs3 (ev1.trans hev3))
end
end Go.Sh
namespace Go.Sh
open Go.MapKept
def valO : SV → Option Value
 | .i n => some (.int .i64 n)
 | .u8 x => some (.int .u8 (x.toNat : Int))
 | .u16 x => some (.int .u16 (x.toNat : Int))
 | .u32 x => some (.int .u32 (x.toNat : Int))
 | .u64 x => some (.int .u64 (x.toNat : Int))
 | .b x => some (.bool x)
 | .s l => some (.string ⟨⟨l⟩⟩)
 | _ => none
def valL : List SV → Option (List Value)
 | [] => some []
 | x :: xs => match valO x with
  | some v => match valL xs with | some vs => some (v :: vs) | none => none
  | none => none
def valOf : SV → Option Value
 | .agg l => match valL l with | some c => some (.agg ⟨c⟩) | none => none
 | x => valO x
theorem valO_rel {ρ : Ren} {x : SV} {u : Value} (h : valO x = some u) : (∀ v, Rel ρ x v ↔ v = u) ∧ x.atom = true := by
 cases x <;> simp only [valO, Option.some.injEq] at h <;> first | (subst h; exact ⟨fun v => by simp only [Rel], rfl⟩) | cases h
theorem valL_rel {ρ : Ren} : ∀ {l : List SV} {c : List Value}, valL l = some c → (∀ vs, Rels ρ l vs ↔ vs = c) ∧ atoms l = true
 | [], c, h => by simp only [valL, Option.some.injEq] at h; subst h; exact ⟨fun vs => by simp only [Rels], rfl⟩
 | x :: xs, c, h => by
  simp only [valL] at h
  split at h
  ·
   rename_i v hv
   split at h
   ·
    rename_i vs hvs
    cases h
    obtain ⟨h1, a1⟩ := valO_rel (ρ := ρ) hv
    obtain ⟨h2, a2⟩ := valL_rel (ρ := ρ) hvs
    refine ⟨fun us => ?_, by simp only [atoms, List.all_cons, a1, Bool.true_and]; exact a2⟩
    simp only [Rels]
    constructor
    ·
     rintro ⟨y, ys, rfl, hy, hys⟩; rw [(h1 y).1 hy, (h2 ys).1 hys]
    ·
     rintro rfl; exact ⟨v, vs, rfl, (h1 v).2 rfl, (h2 vs).2 rfl⟩
   ·
    cases h
  ·
   cases h
theorem valOf_rel {ρ : Ren} {x : SV} {u v : Value} (h : valOf x = some u) : Rel ρ x v ↔ v = u := by
 cases x with
 | agg l =>
  simp only [valOf] at h
  split at h
  ·
   rename_i c hc
   cases h
   obtain ⟨h1, a1⟩ := valL_rel (ρ := ρ) hc
   simp only [Rel, a1, true_and]
   constructor
   ·
    rintro ⟨cs, rfl, hr⟩; rw [(h1 cs).1 hr]
   ·
    rintro rfl; exact ⟨c, rfl, (h1 c).2 rfl⟩
  ·
   cases h
 | _ => simp only [valOf] at h; exact (valO_rel (ρ := ρ) h).1 v
section
variable {P : Program} {ρ : Ren} {H : Heap} {w w' : World}
theorem Chg.newObj {nid : Nat} {o : Obj} (hn : ρ nid = none) (ho : 2 ≤ mutK o) : Chg ρ H w [(nid, some (.ext (.lit o)))] (setR ρ nid ⟨w.heap.size, 0, 0, false⟩) (w.alloc o) := by
 have he : Ext ρ (setR ρ nid ⟨w.heap.size, 0, 0, false⟩) := Ext.setR _ hn
 refine ⟨he, ?_, ?_, Fr.alloc _ _ _, ?_, ?_⟩
 ·
  intro id r hr
  by_cases e : id = nid
  ·
   subst e; exact .inr ⟨_, List.mem_singleton.2 rfl⟩
  ·
   rw [setR_other ρ _ e] at hr; exact .inl hr
 ·
  intro id x hx
  simp at hx
  obtain ⟨rfl, rfl⟩ := hx
  exact ⟨_, setR_same _ _ _, ho, alloc_heap_new w o⟩
 ·
  intro id x r k o2 hm hr hf
  simp at hm
  obtain ⟨rfl, rfl⟩ := hm
  rw [setR_same] at hr; cases hr
  right
  simp only [foot, YB.foot] at hf
  omega
 ·
  intro i j bi bj ri rj hne hi hj
  simp at hi hj
  exact absurd (hi.1.trans hj.1.symm) hne
theorem Chg.putObj {id : Nat} {o o' : Obj} {rb : RB} (hid : H id = some (.ext (.lit o))) (hr : ρ id = some rb) (hb : w.heap[rb.blk]? = some o) (ho : 2 ≤ mutK o) (hk : mutK o' = mutK o) :
  Chg ρ H w [(id, some (.ext (.lit o')))] ρ { w with heap := w.heap.setIfInBounds rb.blk o' } := by
 obtain ⟨s1, s2⟩ := heap_set (o' := o') hb
 refine Chg.put hid hr rfl (fun k o h => h) ⟨by omega, s1⟩ ⟨rfl, rfl, rfl, by simp, fun k x hx => ?_⟩
 by_cases hk2 : k = rb.blk
 ·
  subst hk2
  rw [hb] at hx; cases hx
  show FrO _ o (w.heap.setIfInBounds rb.blk o')[rb.blk]?
  rw [s1]
  cases o with
  | cells c t fz => simp [mutK] at ho
  | _ => exact .inr ⟨⟨0, rfl⟩, by omega, _, rfl, hk⟩
 ·
  show FrO _ x (w.heap.setIfInBounds rb.blk o')[k]?
  rw [s2 k hk2, hx]; exact FrO.refl _ _
theorem lt_makeMap {o : Oper} {R : Env} {t nid : Nat} (ho : o.op = .makeMap t none) : LT P o R H [] [(nid, some (.ext (.lit (.map #[] 0))))] (some (.mp nid)) := by
 refine LT.of_run (by simp [ho]) fun e w ρ _ _ _ hn => ?_
 refine ⟨.value (.map (some w.heap.size)), w.alloc (.map #[] 0), _, by simp only [execOp, ho, Option.map_none]; rfl, Chg.newObj (hn nid (some (.ext (.lit (.map #[] 0)))) (by simp) (by simp)) (by simp [mutK]), .inl ⟨_, rfl, ?_⟩⟩
 intro v hv; cases hv
 simp only [Rel]
 exact ⟨_, setR_same _ _ _, rfl⟩
theorem lt_insert {o : Oper} {R : Env} {t kt et id : Nat} {m k x : Operand} {d : TypeDesc} {zk zx : SV} {vk vx : Value} {es : Array MapEntry} {clock : Nat} (ho : o.op = .insert t m k x ∨ o.op = .mapUpdate t m k x)
  (hm : P.underlying t = some (.map kt et)) (hd : P.underlying kt = some d) (em : evO R m = some (.mp id)) (ek : evO R k = some zk) (ex : evO R x = some zx) (hvk : valOf zk = some vk) (hx : valOf zx = some vx)
  (hb : H id = some (.ext (.lit (.map es clock)))) (hkey : IsKey d vk) (hf : Instr.findNow d vk es.toList 0 = some none) :
  LT P o R H [id] [(id, some (.ext (.lit (.map (es.push ⟨vk, vx, clock⟩) (clock + 1)))))] none := by
 refine LT.of_run (by rcases ho with h | h <;> simp [h]) fun e w ρ h1 h2 _ _ => ?_
 have g1 := h1 m (by rcases ho with h | h <;> simp [h, Op.operands]) _ em
 have g2 := (valOf_rel hvk).1 (h1 k (by rcases ho with h | h <;> simp [h, Op.operands]) _ ek)
 have g3 := (valOf_rel hx).1 (h1 x (by rcases ho with h | h <;> simp [h, Op.operands]) _ ex)
 simp only [Rel] at g1
 obtain ⟨rb, hr, he⟩ := g1
 obtain ⟨rb', hr', hbr⟩ := h2 id (by simp) _ hb
 rw [hr] at hr'; cases hr'
 obtain ⟨_, hw⟩ := hbr
 refine ⟨.skip, _, ρ, ?_, Chg.putObj hb hr hw (by simp [mutK]) (by simp [mutK]), .inr ⟨rfl, rfl⟩⟩
 have hun : ∀ (t : TypeId) (d : TypeDesc), P.underlying t = some d → (underlying t).run P w = .ok d w := fun t d h => run_und h
 have key : (Instr.mapUpdate t (.map (some rb.blk)) vk vx).run P w = .ok () { w with heap := w.heap.setIfInBounds rb.blk (.map (es.push ⟨vk, vx, clock⟩) (clock + 1)) } := by
  simp only [Instr.mapUpdate, Sem.run_bind, hun _ _ hm, MapKept.run_getObj_map hw, MapKept.run_checkKey hd hkey, MapKept.run_findKey hd hf, MapKept.run_setObj_map _ hw, Result.andThen_ok]
 rcases ho with h | h <;> simp only [execOp, h, he, g2, g3, Sem.run_bind, key, Result.andThen_ok, Sem.run_pure]
theorem lt_lookup {o : Oper} {R : Env} {t kt et id : Nat} {m k : Operand} {d : TypeDesc} {zk zv : SV} {vk v : Value} {i : Nat} {es : Array MapEntry} {clock : Nat} (ho : o.op = .lookup t m k true)
  (hm : P.underlying t = some (.map kt et)) (hd : P.underlying kt = some d) (em : evO R m = some (.mp id)) (ek : evO R k = some zk) (hvk : valOf zk = some vk)
  (hb : H id = some (.ext (.lit (.map es clock)))) (hkey : IsKey d vk) (hf : Instr.findNow d vk es.toList 0 = some (some (i, v))) (hz : valOf zv = some v) :
  LT P o R H [id] [] (some (.tup [zv, .b true])) := by
 refine LT.pure (by simp [ho]) fun e w ρ h1 h2 => ?_
 have g1 := h1 m (by simp [ho, Op.operands]) _ em
 have g2 := (valOf_rel hvk).1 (h1 k (by simp [ho, Op.operands]) _ ek)
 simp only [Rel] at g1
 obtain ⟨rb, hr, he⟩ := g1
 obtain ⟨rb', hr', hbr⟩ := h2 id (by simp) _ hb
 rw [hr] at hr'; cases hr'
 obtain ⟨_, hw⟩ := hbr
 have hun : ∀ (t : TypeId) (d : TypeDesc), P.underlying t = some d → (underlying t).run P w = .ok d w := fun t d h => run_und h
 refine ⟨.tuple #[v, .bool true], ?_, ?_⟩
 ·
  simp only [execOp, ho, he, g2, Instr.lookup, Sem.run_bind, hun _ _ hm, MapKept.run_getObj_map hw, MapKept.run_checkKey hd hkey, MapKept.run_findKey hd hf, Result.andThen_ok, Sem.run_pure, if_true]
 ·
  simp only [Rel]
  exact ⟨[v, .bool true], rfl, Rels.cons ((valOf_rel hz).2 rfl) (Rels.cons (by simp only [Rel]) (Rels.nil_iff.2 rfl))⟩
theorem lt_lookup_none {o : Oper} {R : Env} {t kt et id : Nat} {m k : Operand} {d : TypeDesc} {zk zv : SV} {vk : Value} {es : Array MapEntry} {clock : Nat} (ho : o.op = .lookup t m k true)
  (hm : P.underlying t = some (.map kt et)) (hd : P.underlying kt = some d) (em : evO R m = some (.mp id)) (ek : evO R k = some zk) (hvk : valOf zk = some vk)
  (hb : H id = some (.ext (.lit (.map es clock)))) (hkey : IsKey d vk) (hf : Instr.findNow d vk es.toList 0 = some none) (hz : pzero P et = some zv) :
  LT P o R H [id] [] (some (.tup [zv, .b false])) := by
 refine LT.pure (by simp [ho]) fun e w ρ h1 h2 => ?_
 have g1 := h1 m (by simp [ho, Op.operands]) _ em
 have g2 := (valOf_rel hvk).1 (h1 k (by simp [ho, Op.operands]) _ ek)
 simp only [Rel] at g1
 obtain ⟨rb, hr, he⟩ := g1
 obtain ⟨rb', hr', hbr⟩ := h2 id (by simp) _ hb
 rw [hr] at hr'; cases hr'
 obtain ⟨_, hw⟩ := hbr
 have hun : ∀ (t : TypeId) (d : TypeDesc), P.underlying t = some d → (underlying t).run P w = .ok d w := fun t d h => run_und h
 obtain ⟨v, hv, hrv, _⟩ := run_zero (P := P) (w := w) hz
 refine ⟨.tuple #[v, .bool false], ?_, ?_⟩
 ·
  simp only [execOp, ho, he, g2, Instr.lookup, Sem.run_bind, hun _ _ hm, MapKept.run_getObj_map hw, MapKept.run_checkKey hd hkey, MapKept.run_findKey hd hf, Result.andThen_ok, Sem.run_pure, if_true, hv]
 ·
  simp only [Rel]
  exact ⟨[v, .bool false], rfl, Rels.cons (hrv ρ) (Rels.cons (by simp only [Rel]) (Rels.nil_iff.2 rfl))⟩
end
section
variable {P : Program} {o : Oper} {R : RL} {H : HL} {L : Nat} {k : K1}
theorem ok1_makeMap {t : Nat} (ho : o.op = .makeMap t none) (h : k (some (.mp L)) [(L, some (.ext (.lit (.map #[] 0))))] [] (L + 1)) : Ok1 P o R H L k := ok1_new (lt_makeMap ho) h
theorem ok1_insert {t kt et : Nat} (id : Nat) (vk vx : Value) {m x y : Operand} {d : TypeDesc} {zk zx : SV} {es : Array MapEntry} {clock : Nat} (hl : Nat.ble H.length L = true) (ho : o.op = .insert t m x y ∨ o.op = .mapUpdate t m x y)
  (hm : P.underlying t = some (.map kt et)) (hd : P.underlying kt = some d) (em : ev R m = some (.mp id)) (ek : ev R x = some zk) (ex : ev R y = some zx) (hvk : valOf zk = some vk) (hx : valOf zx = some vx)
  (hb : hk H id = some (.ext (.lit (.map es clock)))) (hkey : IsKey d vk) (hf : Instr.findNow d vk es.toList 0 = some none)
  (h : k none [(id, some (.ext (.lit (.map (es.push ⟨vk, vx, clock⟩) (clock + 1)))))] [id] L) : Ok1 P o R H L k :=
 ok1_put (hk_lt (Nat.le_of_ble_eq_true hl) hb) (by simp) (lt_insert ho hm hd (ev_some em) (ev_some ek) (ev_some ex) hvk hx (hk_some hb) hkey hf) h
theorem ok1_lookup {t kt et : Nat} (id i : Nat) (vk v : Value) {m x : Operand} {d : TypeDesc} {zk : SV} (zv : SV) {es : Array MapEntry} {clock : Nat} (ho : o.op = .lookup t m x true)
  (hm : P.underlying t = some (.map kt et)) (hd : P.underlying kt = some d) (em : ev R m = some (.mp id)) (ek : ev R x = some zk) (hvk : valOf zk = some vk)
  (hb : hk H id = some (.ext (.lit (.map es clock)))) (hkey : IsKey d vk) (hf : Instr.findNow d vk es.toList 0 = some (some (i, v))) (hz : valOf zv = some v)
  (h : k (some (.tup [zv, .b true])) [] [id] L) : Ok1 P o R H L k := ok1_pure (lt_lookup ho hm hd (ev_some em) (ev_some ek) hvk (hk_some hb) hkey hf hz) h
theorem ok1_lookup_none {t kt et : Nat} (id : Nat) (vk : Value) {m x : Operand} {d : TypeDesc} {zk : SV} (zv : SV) {es : Array MapEntry} {clock : Nat} (ho : o.op = .lookup t m x true)
  (hm : P.underlying t = some (.map kt et)) (hd : P.underlying kt = some d) (em : ev R m = some (.mp id)) (ek : ev R x = some zk) (hvk : valOf zk = some vk)
  (hb : hk H id = some (.ext (.lit (.map es clock)))) (hkey : IsKey d vk) (hf : Instr.findNow d vk es.toList 0 = some none) (hz : pzero P et = some zv)
  (h : k (some (.tup [zv, .b false])) [] [id] L) : Ok1 P o R H L k := ok1_pure (lt_lookup_none ho hm hd (ev_some em) (ev_some ek) hvk (hk_some hb) hkey hf hz) h
end
end Go.Sh
namespace Go.Sh
theorem loop_rulex (J : List Nat) {T : TT} {P : Program} {M : Option Nat → Prop} {N A : Nat} {c : Code} {Q : Exit → RL → HL → Nat → Prop} {R : RL} {H : HL} {L : Nat} (hT : TOk P T) (hm : P.follows .mixedOrders = true) (hc : codeOk N c = true)
  {ι : Type} (IR : ι → RL) (IH : ι → HL) (IL : ι → Nat) (μ : ι → Nat) (i0 : ι) (h0 : Weak A R H L (IR i0) (IH i0) (IL i0))
  (round : ∀ i, swxs J T P M N A c (fun e R H L => match e with | .normal => ∃ j, μ j < μ i ∧ Weak A R H L (IR j) (IH j) (IL j) | e => Q e R H L) (IR i) (IH i) (IL i)) : SWp P M N A (.loop c) Q R H L := by
 refine SWp.weak h0 ?_
 refine ⟨fun r n B ρ a w hM hs hl => ?_⟩
 let K := fun (a' : Act) (w' : World) (k : Nat) => ∃ i ρ', μ i = k ∧ (IH i).length ≤ IL i ∧ Sim N B (IL i) ρ' (rg (IR i)) (hg (IH i)) a' w' ∧ EvA A ρ (hg (IH i0)) w ρ' (hg (IH i)) w'
 refine wpIn_loop (fun a' w' => ∃ k, K a' w' k) (fun a' w' => leastK (K a' w')) ⟨μ i0, i0, ρ, rfl, hl, hs, EvA.refl _ _ _ _⟩ ?_
 rintro a1 w1 ⟨k, hk⟩
 obtain ⟨⟨i, ρ1, hi, hl1, hs1, he1⟩, _⟩ := leastK_spec hk
 refine wpIn_mono ((swxs_ok hT hm hc (round i)).run r n B ρ1 a1 w1 hM hs1 hl1) ?_
 rintro e a2 w2 ⟨R2, H2, L2, ρ2, hq, hl2, hs2, he2⟩
 cases e with
 | normal =>
  obtain ⟨j, hj, hw⟩ := hq
  obtain ⟨ρ3, hs3, hl3, he3⟩ := hw N B ρ2 a2 w2 hs2 hl2
  have hJ : K a2 w2 (μ j) := ⟨j, ρ3, rfl, hl3, hs3, (he1.trans he2).trans he3⟩
  have := (leastK_spec hJ).2
  exact ⟨⟨μ j, hJ⟩, by omega⟩
 | _ => exact ⟨R2, H2, L2, ρ2, hq, hl2, hs2, he1.trans he2⟩
theorem focus_ev {R : RL} {H : HL} {L : Nat} (t q : Nat) {l : List FE} {e : FE} (hq : hk H q = some (.ext (.fam l))) (he : e ∈ l) (ht : lk t R = some (.lit e.v))
  {N B : Nat} {ρ : Ren} {a : Act} {w : World} (hs : Sim N B L ρ (rg R) (hg H) a w) (hl : H.length ≤ L) :
  ∃ ρ0, Sim N B (L + 1) ρ0 (rg ((t, .sl L 0 e.n e.sz false) :: R)) (hg (hupd H [(L, some (.ro e.cells))])) a w ∧ (hupd H [(L, some (.ro e.cells))]).length ≤ L + 1 ∧ Ev ρ (hg H) w ρ0 (hg (hupd H [(L, some (.ro e.cells))])) w := by
 rw [hk_eq] at hq
 obtain ⟨rq, hrq, hfam⟩ := hs.heap q _ hq
 obtain ⟨⟨ad, c, hv, hnc, hc⟩, hcells⟩ := hfam e he
 have hn := hs.fresh L (Nat.le_refl _)
 have hext : Ext ρ (setR ρ L e.rb) := Ext.setR e.rb hn
 have hg2 : ∀ id, hg (hupd H [(L, some (.ro e.cells))]) id = if id = L then some (.ro e.cells) else hg H id := fun id => by
  rw [hg_hupd]
  by_cases h : id = L
  ·
   subst h; simp [updW]
  ·
   have : (id == L) = false := by simpa using h
   simp [updW, List.lookup_cons, this, h]
 have hlt : ∀ id b, hg H id = some b → id ≠ L := fun id b hb he2 => by
  have := hk_lt hl (by rw [hk_eq]; exact hb : hk H id = some b)
  omega
 have hnew : BRel (setR ρ L e.rb) w e.rb (.ro e.cells) := hcells.imp id fun h => ⟨h.1.ext (fun i r h => by cases h), h.2⟩
 have hfoot : ∀ k o, foot e.rb (.ro e.cells) k o → foot rq (.ext (.fam l)) k o := fun k o h => ⟨e, he, h.1, h.2.1, h.2.2⟩
 have hown : ∀ k o, Owned (setR ρ L e.rb) (hg (hupd H [(L, some (.ro e.cells))])) k o → Owned ρ (hg H) k o := by
  rintro k o ⟨id, b, rb, h1, h2, h3, h4⟩
  rw [hg2] at h1
  by_cases h : id = L
  ·
   rw [if_pos h] at h1; cases h1; cases h3
  ·
   rw [if_neg h] at h1; rw [setR_other ρ e.rb h] at h2; exact ⟨id, b, rb, h1, h2, h3, h4⟩
 refine ⟨setR ρ L e.rb, ⟨hs.size, ?_, ?_, ?_, ?_, hs.dfr⟩, ?_, Ev.mk hext (Fr.refl _ _) (fun k o h => .inl (hown k o h))⟩
 ·
  intro t2 v hv2
  simp only [rg, List.lookup_cons] at hv2
  split at hv2
  ·
   rename_i e2
   have : t2 = t := by simpa using e2
   subst this
   cases hv2
   have h1 := hs.regs t2 (.lit e.v) (by rw [rg, ← lk_eq]; exact ht)
   simp only [Rel] at h1 ⊢
   exact ⟨e.rb, ad, c, setR_same _ _ _, by rw [h1.1, hv], hnc, fun h => (by cases h), hc.imp id fun ⟨g1, g2, g3⟩ => ⟨g1, by rw [g2]; rfl, by omega⟩⟩
  ·
   exact (hs.regs t2 v hv2).ext hext
 ·
  intro id b hb
  rw [hg2] at hb
  by_cases h : id = L
  ·
   rw [if_pos h] at hb; cases hb; subst h; exact ⟨e.rb, setR_same _ _ _, hnew⟩
  ·
   rw [if_neg h] at hb
   obtain ⟨rb, h1, h2⟩ := hs.heap id b hb
   exact ⟨rb, hext _ _ h1, h2.ext hext⟩
 ·
  intro i j bi bj ri rj hne hi hj hri hrj hb k o ⟨hfi, hfj⟩
  rw [hg2] at hi hj
  by_cases h1 : i = L
  ·
   rw [if_pos h1] at hi; cases hi; cases hb
  ·
   rw [if_neg h1] at hi
   rw [setR_other ρ e.rb h1] at hri
   by_cases h2 : j = L
   ·
    rw [if_pos h2] at hj; cases hj
    subst h2
    rw [setR_same] at hrj; cases hrj
    have hiq : i ≠ q := fun e2 => by subst e2; rw [hq] at hi; cases hi; cases hb
    exact hs.sep i q bi _ ri rq hiq hi hq hri hrq hb k o ⟨hfi, hfoot k o hfj⟩
   ·
    rw [if_neg h2] at hj
    rw [setR_other ρ e.rb h2] at hrj
    exact hs.sep i j bi bj ri rj hne hi hj hri hrj hb k o ⟨hfi, hfj⟩
 ·
  intro id hid
  rw [setR_other _ _ (by omega)]
  exact hs.fresh id (by omega)
 ·
  exact hupd_le (by omega) (fun id ob hm => by simp at hm; omega)
theorem Weak.focus {A : Nat} {R : RL} {H : HL} {L : Nat} (t q : Nat) {l : List FE} {e : FE} (hq : hk H q = some (.ext (.fam l))) (he : e ∈ l) (ht : lk t R = some (.lit e.v)) :
  Weak A R H L ((t, .sl L 0 e.n e.sz false) :: R) (hupd H [(L, some (.ro e.cells))]) (L + 1) := fun N B ρ a w hs hl =>
 let ⟨ρ0, h1, h2, h3⟩ := focus_ev t q hq he ht hs hl
 ⟨ρ0, h1, h2, h3.toA⟩
theorem sops_focus {P : Program} {N : Nat} {ops : Array Oper} {Q : RL → HL → Nat → Prop} {os : List Oper} {R : RL} {H : HL} {L : Nat} (t q : Nat) {l : List FE} {e : FE} (hq : hk H q = some (.ext (.fam l))) (he : e ∈ l) (ht : lk t R = some (.lit e.v))
  (h : SOps P N ops Q os ((t, .sl L 0 e.n e.sz false) :: R) (hupd H [(L, some (.ro e.cells))]) (L + 1)) : SOps P N ops Q os R H L :=
 ⟨fun r n B ρ a w k K hos hs hl hK =>
  let ⟨ρ0, h1, h2, h3⟩ := focus_ev t q hq he ht hs hl
  h.run r n B ρ0 a w k K hos h1 h2 fun a2 w2 R2 H2 L2 ρ2 hq2 hl2 hs2 hev2 => hK a2 w2 R2 H2 L2 ρ2 hq2 hl2 hs2 (h3.trans hev2)⟩
end Go.Sh
namespace Go.Sh
open Go.ChangeShapes Go.WideShapes Go.ChangeAt Go.RowKit
theorem Rels.of_get {ρ : Ren} : ∀ {xs : List SV} {vs : List Value}, xs.length = vs.length → (∀ (i : Nat) x, xs[i]? = some x → ∃ v, vs[i]? = some v ∧ Rel ρ x v) → Rels ρ xs vs
 | [], vs, hl, _ => by
  have : vs = [] := List.eq_nil_of_length_eq_zero (by simpa using hl.symm)
  subst this; exact Rels.nil_iff.2 rfl
 | x :: xs, [], hl, _ => by simp at hl
 | x :: xs, v :: vs, hl, h => by
  obtain ⟨u, hu, hr⟩ := h 0 x rfl
  simp at hu; subst hu
  exact Rels.cons hr (Rels.of_get (by simpa using hl) (fun i y hy => by simpa using h (i + 1) y (by simpa using hy)))
theorem calls_of_scall {P : Program} {f : Nat} {args : List SV} {H0 H1 : HL} (hc : SCall P f args H0 (.b true) H1) (hro : ∀ (id : Nat) b, hg H0 id = some b → b.own = false) {vs : List Value} {W : World} {ρ : Ren}
  (hvs : Rels ρ args vs) (hh : HRel ρ (hg H0) W) (hfr : ∀ id, H0.length ≤ id → ρ id = none) : Calls P f ⟨vs⟩ W fun e w' => e = .returned (.bool true) ∧ RowKit.Below W.heap.size W w' := by
 have h := hc.call 0 ρ W vs hvs hh (fun i j bi bj ri rj _ hi _ _ _ hown => by rw [hro i bi hi] at hown; cases hown) hfr
 refine (callsIn_wide.1 h).mono ?_
 intro e w' hr
 cases e with
 | returned v =>
  obtain ⟨ρ', h1, _, _, _, h5⟩ := hr
  simp only [Rel] at h1
  refine ⟨by rw [h1], h5.fr.below (fun x o _ hown => ?_)⟩
  obtain ⟨id, b, rb, g1, _, g3, _⟩ := hown
  rw [hro id b g1] at g3; cases g3
 | _ => exact hr.elim
theorem trodAll_stays {H : Type} {enc : TypeId × Value → H} {P : Program} (hl : laidOutB P = true) {W W' : World} (hb : RowKit.Below W.heap.size W W') : ∀ {ts : List TypeId} {vs : List Value} {ds : List (DataW H)} {ps : List MemPlace},
  (∀ t ∈ ts, P.readableRec t = true ∧ t < P.types.size) → DataW.TrodAll enc P W 0 (fun _ => true) true ts vs ds ps → (∀ x ∈ ps, x.block < W.heap.size) → ∀ sp : Nat → Bool, (∀ x ∈ ps, sp x.block = true) →
  DataW.TrodAll enc P W' 0 sp true ts vs ds ps
 | [], vs, ds, ps, _, h, _, sp, _ => by
  obtain ⟨rfl, rfl, rfl⟩ := trodAll_nil h
  exact trodAll_mk0
 | t :: ts, vs, ds, ps, ht, h, hlt, sp, hsp => by
  obtain ⟨v, vs', d, ds', p, q, rfl, rfl, rfl, h1, h2⟩ := trodAll_cons h
  obtain ⟨r1, r2⟩ := ht t (List.mem_cons_self ..)
  exact trodAll_cons_mk (WideElems.Trod_stays hl r1 r2 h1 (fun x hx => hb.same (hlt x (List.mem_append_left _ hx))) (fun x hx => hsp x (List.mem_append_left _ hx)))
   (trodAll_stays hl hb (fun u hu => ht u (List.mem_cons_of_mem _ hu)) h2 (fun x hx => hlt x (List.mem_append_right _ hx)) sp (fun x hx => hsp x (List.mem_append_right _ hx)))
theorem same_post {H : Type} {enc : TypeId × Value → H} {P : Program} {fn : Func} {s : ChangeSpec} {W W' : World} {args : Array Value} {ds gs : List (DataW H)} {before : List MemPlace} {bt : TypeId} {apart fresh handsOn again : Bool}
  (hl : laidOutB P = true) (hparams : ∀ t ∈ fn.params.toList, P.readableRec t = true ∧ t < P.types.size) (hbt : P.underlying bt = some .bool) (hrt : fn.resultTypes = #[bt]) (hvars : s.vars = [])
  (hW : DataW.Whole enc P fn.params.toList s.vars apart W args.toList ds gs before) (hspec : s.fn H ds = { results := [.lit (.bool true)], args := ds }) (hb : RowKit.Below W.heap.size W W') :
  s.post enc P fn apart fresh handsOn again W args (.bool true) W' := by
 have hlt := hW.lt
 have hW' := hW
 obtain ⟨p, q, hA, hV, rfl, hfz, hnd⟩ := hW
 rw [hvars] at hV
 obtain ⟨rfl, rfl⟩ := trodVars_none hV
 have hargs : ∀ sp : Nat → Bool, (∀ x ∈ p, sp x.block = true) → DataW.TrodAll enc P W' 0 sp true fn.params.toList args.toList ds p := fun sp hsp =>
  trodAll_stays hl hb hparams hA (fun x hx => hlt x (by simpa using hx)) sp hsp
 have hres : ∀ (b : Nat) (sp : Nat → Bool) (hd : Bool), DataW.TrodAll enc P W' b sp hd fn.resultTypes.toList ((Value.bool true).resultList fn.resultTypes.size) [.lit (.bool true)] [] := fun b sp hd => by
  rw [hrt]
  exact trodAll_cons_mk (shut_bool hbt _) trodAll_mk0
 refine ⟨ds, [], p ++ [], [], p, [], hW', ?_, ?_, ?_, World.keptBut_mono (fun x hx => ⟨hx, ?_⟩) (hb.frame (fun x => x ∈ p ++ [])), fun _ => ?_⟩
 ·
  rw [List.append_nil, hspec]; exact hres _ _ _
 ·
  rw [List.append_nil, hspec]
  exact hargs _ (fun x hx => by simpa using hlt x (by simpa using hx))
 ·
  rw [List.append_nil, hspec, hvars]
  rfl
 ·
  exact .inr (.inl (by simpa using hx))
 ·
  refine ⟨ok_one hrt rfl (okWide_bool_mk hbt _), _, [], ([] ++ p) ++ [], ⟨[] ++ p, [], trodAll_append (hargs _ (fun _ _ => rfl)) (hres _ _ _), by rw [hvars]; rfl, rfl, ?_, ?_⟩, ?_⟩
  ·
   intro b off hp
   have hpl := hlt (.cell b off) (by simpa using hp)
   rw [hb.frozen (p := ⟨b, off, none⟩) hpl]
   exact hfz b off (by simpa using hp)
  ·
   intro ha
   simpa using hnd ha
  ·
   intro x hx _
   simpa using hx
/-! ### What comes in, opened -/
theorem open_u64 {H : Type} {enc : TypeId × Value → H} {P : Program} {w : World} {base : Nat} {spare : Nat → Bool} {held : Bool} {r : Reach} {b0 : Nat} {t : TypeId} {v : Value} {d : DataW H} {ps : List MemPlace}
  (ht : P.underlying t = some (.int .u64)) (hval : Value.okWide P w r b0 t v) (hd : DataW.Trod enc P w base spare held t v d ps) : ∃ x : UInt64, ∀ ρ, Rel ρ (.u64 x) v := by
 obtain ⟨n, rfl, _, _, hw⟩ := open_int ht hval hd
 have hx : 0 ≤ n ∧ n < 18446744073709551616 := by
  simp only [Lit.wf, Bool.and_eq_true, decide_eq_true_eq, IntKind.min, IntKind.max, IntKind.signed, IntKind.bits] at hw
  have h2 := hw.2
  simp at h2 hw
  omega
 refine ⟨UInt64.ofNat n.toNat, fun ρ => ?_⟩
 simp only [Rel]
 congr 1
 simp only [UInt64.toNat_ofNat']
 omega
theorem atoms_u8 (l : List UInt8) : atoms (l.map .u8) = true := by induction l <;> simp_all [atoms, SV.atom]
theorem lits_length {H : Type} (k : IntKind) (zs : List Int) : (lits (H := H) k zs).length = zs.length := by simp [lits]
theorem open_bytes {H : Type} {enc : TypeId × Value → H} {P : Program} {w : World} {base : Nat} {r : Reach} {b0 : Nat} {t e : TypeId} {v : Value} {d : DataW H} {ps : List MemPlace}
  (ht : P.underlying t = some (.slice e)) (he : P.underlying e = some (.int .u8)) (hc : P.cellsOf e = 1) (hval : Value.okWide P w r b0 t v) (hd : DataW.Trod enc P w base (fun _ => true) true t v d ps) :
  ∃ (bs : List UInt8) (rb : RB), (∀ ρ id, ρ id = some rb → Rel ρ (.sl id 0 bs.length 1 false) v) ∧ (∀ ρ, BRel ρ w rb (.ro (bs.map .u8))) ∧
   (bs = [] ∨ ∃ zs rest : List Int, d = .slice (lits .u8 zs) (lits .u8 rest) ∧ zs.length = bs.length) := by
 obtain ⟨a, len, cap, rfl⟩ := okWide_slice ht hval
 obtain ⟨fuel, hf⟩ := hd
 have hcs : (Value.slice a len cap).cells.toList = [.slice a len cap] := rfl
 rw [hcs] at hf
 rcases open_ints ht he hc hf with ⟨h1, h2⟩ | ⟨a', len', cap', zs, h1, _, hlc, _, hzl, h2, hcell, hwf⟩
 ·
  cases h1
  refine ⟨[], ⟨0, 0, 0, true⟩, fun ρ id hr => ?_, fun ρ => .inl rfl, .inl rfl⟩
  simp only [Rel]
  exact ⟨_, none, 0, hr, rfl, Nat.le_refl _, fun h => (by cases h), .inl rfl⟩
 ·
  cases h1
  simp only [if_true] at hzl
  have hb : ∀ z ∈ zs, 0 ≤ z ∧ z < 256 := by
   intro z hz
   have hw := hwf z hz
   simp only [Lit.wf, Bool.and_eq_true, decide_eq_true_eq, IntKind.min, IntKind.max, IntKind.signed, IntKind.bits] at hw
   have h2 := hw.2
   simp at h2 hw
   omega
  have hbl : ((zs.take len).map fun z => UInt8.ofNat z.toNat).length = len := by simp; omega
  refine ⟨(zs.take len).map fun z => UInt8.ofNat z.toNat, ⟨a'.block, a'.off, cap, false⟩, fun ρ id hr => ?_, fun ρ => ?_, .inr ⟨zs.take len, zs.drop len, ?_, by simp⟩⟩
  ·
   rw [hbl]
   simp only [Rel]
   refine ⟨_, some a', cap, hr, rfl, hlc, fun h => (by cases h), ?_⟩
   by_cases h0 : cap = 0
   ·
    exact .inl h0
   ·
    right
    have := hcell 0 (by omega)
    have hsp : a'.spot = none := by
     unfold World.cell? at this
     split at this
     ·
      split at this
      ·
       cases this
      ·
       rename_i hs
       have : (a'.add 0).spot = a'.spot := by unfold Addr.add; split <;> simp_all
       rw [this] at hs
       simpa using hs
     ·
      cases this
    refine ⟨rfl, ?_, by simp⟩
    cases a'; simp at hsp; simp [hsp]
  ·
   by_cases h0 : len = 0
   ·
    left
    subst h0
    simp
   ·
    right
    have key : ∀ i, i < zs.length → ∃ c t fz, w.heap[a'.block]? = some (.cells c t fz) ∧ c[a'.off + i]? = some (.int .u8 (zs.getD i 0)) := by
     intro i hi
     have h := hcell i hi
     unfold World.cell? at h
     have e1 : (a'.add i).block = a'.block := by unfold Addr.add; split <;> rfl
     rw [e1] at h
     split at h
     ·
      rename_i c t fz hh
      split at h
      ·
       cases h
      ·
       rename_i hs
       have e2 : (a'.add i).off = a'.off + i := by
        unfold Addr.add at hs ⊢
        split
        ·
         simp_all
        ·
         rfl
       rw [e2] at h
       exact ⟨c, t, fz, hh, h⟩
     ·
      cases h
    obtain ⟨c, t2, fz, hh, _⟩ := key 0 (by omega)
    have key2 : ∀ i, i < zs.length → c[a'.off + i]? = some (.int .u8 (zs.getD i 0)) := by
     intro i hi
     obtain ⟨c', t', fz', hh', hv⟩ := key i hi
     rw [hh] at hh'; cases hh'
     exact hv
    have hsz : a'.off + len ≤ c.size := by
     have := key2 (len - 1) (by omega)
     have := (Array.getElem?_eq_some_iff.1 this).1
     omega
    refine ⟨⟨c, t2, fz, hh, atoms_u8 _, ?_, fun h => (by cases h), by simp; omega⟩, by simp; omega, rfl⟩
    apply Rels.of_get
    ·
     simp; omega
    ·
     intro i x hx
     have hi : i < len := by have := (List.getElem?_eq_some_iff.1 hx).1; simp at this; omega
     have hzi : i < zs.length := by omega
     have hg : zs.getD i 0 = zs[i] := by simp [hzi]
     simp only [List.map_map, List.getElem?_map, List.getElem?_take_of_lt hi, List.getElem?_eq_getElem hzi, Option.map_some, Option.some.injEq, Function.comp] at hx
     subst hx
     refine ⟨.int .u8 (zs.getD i 0), ?_, ?_⟩
     ·
      rw [List.length_map, hbl, List.getElem?_take_of_lt hi, List.getElem?_drop, Array.getElem?_toList]
      exact key2 i hzi
     ·
      rw [hg]
      simp only [Rel]
      have := hb zs[i] (List.getElem_mem hzi)
      congr 1
      simp only [UInt8.toNat_ofNat']
      omega
  ·
   have := congrArg Prod.fst h2
   exact this
end Go.Sh
namespace Go.Sh
open Go.ChangeShapes Go.WideShapes Go.ChangeAt Go.RowKit
section
variable {H : Type} {enc : TypeId × Value → H} {P : Program} {w : World} {base : Nat} {spare : Nat → Bool} {held : Bool}
def Rd (enc : TypeId × Value → H) (P : Program) (w : World) (base : Nat) (spare : Nat → Bool) (held : Bool) (t : TypeId) (cs : List Value) : Prop := ∃ fuel x, DataW.trod enc P w base spare held fuel t cs = some x
theorem psz_cells {t : TypeId} {n : Nat} (h : psz P t = some n) : P.cellsOf t = n := by
 unfold psz at h; unfold Program.cellsOf; rw [h]; rfl
theorem chunks {ks : List Nat} {R : List Value → Prop} (hR : ∀ c, R c → ∃ xs : List SV, xs.map kd = ks.map some ∧ ∀ ρ, Rels ρ xs c) (cs : List Value) : ∀ n : Nat, n * ks.length ≤ cs.length →
  (∀ i, i < n → R ((cs.drop (i * ks.length)).take ks.length)) → ∃ xs : List SV, xs.map kd = (List.replicate n ks).flatten.map some ∧ ∀ ρ, Rels ρ xs (cs.take (n * ks.length))
 | 0, _, _ => ⟨[], by simp, fun ρ => by simp [Rels]⟩
 | n + 1, hl, h => by
  have hn : (n + 1) * ks.length = n * ks.length + ks.length := by rw [Nat.add_mul]; omega
  obtain ⟨xs, hx, hxr⟩ := chunks hR cs n (by omega) (fun i hi => h i (by omega))
  obtain ⟨ys, hy, hyr⟩ := hR _ (h n (by omega))
  refine ⟨xs ++ ys, ?_, fun ρ => ?_⟩
  ·
   rw [List.map_append, hx, hy, List.replicate_succ', List.flatten_concat, List.map_append]
  ·
   rw [hn, List.take_add]
   exact Rels.append (hxr ρ) (hyr ρ)
theorem int_kd {k : IntKind} {q : Nat} {n : Int} (hk : kdT (.int k) = some q) (hw : (Lit.int k n).wf = true) : ∃ x : SV, kd x = some q ∧ ∀ ρ, Rel ρ x (.int k n) := by
 cases k <;> simp only [kdT] at hk <;> (try (cases hk; done)) <;> simp only [Option.some.injEq] at hk <;> subst hk
 ·
  exact ⟨.i n, rfl, fun ρ => by simp only [Rel]⟩
 all_goals
  simp only [Lit.wf, Bool.and_eq_true, decide_eq_true_eq, IntKind.min, IntKind.max, IntKind.signed, IntKind.bits] at hw
  have h2 := hw.2
  simp at h2 hw
 ·
  exact ⟨.u8 (UInt8.ofNat n.toNat), rfl, fun ρ => by simp only [Rel, UInt8.toNat_ofNat']; congr 1; omega⟩
 ·
  exact ⟨.u16 (UInt16.ofNat n.toNat), rfl, fun ρ => by simp only [Rel, UInt16.toNat_ofNat']; congr 1; omega⟩
 ·
  exact ⟨.u32 (UInt32.ofNat n.toNat), rfl, fun ρ => by simp only [Rel, UInt32.toNat_ofNat']; congr 1; omega⟩
 ·
  exact ⟨.u64 (UInt64.ofNat n.toNat), rfl, fun ρ => by simp only [Rel, UInt64.toNat_ofNat']; congr 1; omega⟩
theorem open_kinds_both : ∀ d : Nat,
  (∀ {t : TypeId} {ks : List Nat}, kinds P d t = some ks → ∀ {cs : List Value}, Rd enc P w base spare held t cs → ∃ xs : List SV, xs.map kd = ks.map some ∧ ∀ ρ, Rels ρ xs cs) ∧
  (∀ {off : Nat} {fs : List Field} {ks : List Nat}, kindsF P d off fs = some ks → ∀ {cs : List Value}, (∀ f ∈ fs, Rd enc P w base spare held f.type ((cs.drop f.offset).take (P.cellsOf f.type))) → off + ks.length ≤ cs.length →
   ∃ xs : List SV, xs.map kd = ks.map some ∧ ∀ ρ, Rels ρ xs ((cs.drop off).take ks.length))
 | 0 => by
  refine ⟨fun h => by simp [kinds] at h, fun {off fs ks} h => ?_⟩
  cases fs with
  | nil => simp [kindsF] at h; subst h; intro cs _ _; exact ⟨[], rfl, fun ρ => by simp [Rels]⟩
  | cons f fs => simp [kindsF] at h
 | d + 1 => by
  obtain ⟨ihA, ihB⟩ := open_kinds_both d
  refine ⟨fun {t ks} h {cs} hr => ?_, fun {off fs ks} h {cs} hr hl => ?_⟩
  ·
   obtain ⟨fuel, x, hx⟩ := hr
   have hsz := kinds_size h
   simp only [kinds] at h
   split at h
   ·
    rename_i fs hu
    split at h
    ·
     cases h
    ·
     obtain ⟨ks', h1, h2⟩ := Option.bind_eq_some_iff.1 h
     split at h2
     ·
      cases h2
      obtain ⟨xs, n, rfl, rfl, hcl, hxl, hf⟩ := DataW.trod_struct hu hx
      have hcs : cs.length = ks.length := by rw [hcl, psz_cells hsz]
      obtain ⟨ys, hy, hyr⟩ := ihB h1 (cs := cs) (fun f hfm => by
       obtain ⟨i, hi, hfi⟩ := List.getElem_of_mem hfm
       have hi' : i < fs.size := by simpa using hi
       have hget : fs[i]? = some f := by rw [Array.getElem?_eq_getElem hi']; simpa using hfi
       have := hf i f hget
       rw [List.getElem?_eq_getElem (by omega : i < xs.length)] at this
       exact ⟨n, _, this⟩) (by omega)
      refine ⟨ys, hy, fun ρ => ?_⟩
      have := hyr ρ
      rwa [List.drop_zero, List.take_of_length_le (by omega)] at this
     ·
      cases h2
   ·
    rename_i n e hu
    obtain ⟨ks', h1, h2⟩ := Option.bind_eq_some_iff.1 h
    split at h2
    ·
     rename_i hps
     cases h2
     obtain ⟨xs, m, rfl, rfl, hcl, hxl, hf⟩ := DataW.trod_array hu hx
     have hcs : cs.length = n * ks'.length := by rw [hcl, psz_cells hps]
     have he : P.cellsOf e = ks'.length := psz_cells (kinds_size h1)
     obtain ⟨ys, hy, hyr⟩ := chunks (R := fun c => Rd enc P w base spare held e c) (fun c hc => ihA h1 hc) cs n (by omega) (fun i hi => by
      have := hf i hi
      rw [he, List.getElem?_eq_getElem (by omega : i < xs.length)] at this
      exact ⟨m, _, this⟩)
     refine ⟨ys, hy, fun ρ => ?_⟩
     have := hyr ρ
     rwa [List.take_of_length_le (by omega)] at this
    ·
     cases h2
   ·
    rename_i ds hns hna hu
    obtain ⟨k, h1, h2⟩ := Option.bind_eq_some_iff.1 h
    split at h2
    ·
     cases h2
     cases ds with
     | int kk =>
      obtain ⟨n, rfl, _, hw⟩ := DataW.trod_int hu hx
      obtain ⟨y, hy, hyr⟩ := int_kd h1 hw
      exact ⟨[y], by simp [hy], fun ρ => Rels.cons (hyr ρ) (Rels.nil_iff.2 rfl)⟩
     | bool =>
      obtain ⟨b, rfl, _⟩ := DataW.trod_bool hu hx
      simp only [kdT, Option.some.injEq] at h1; subst h1
      exact ⟨[.b b], rfl, fun ρ => Rels.cons (by simp only [Rel]) (Rels.nil_iff.2 rfl)⟩
     | string =>
      obtain ⟨s, rfl, _, _⟩ := DataW.trod_string hu hx
      simp only [kdT, Option.some.injEq] at h1; subst h1
      exact ⟨[.s s.data.toList], rfl, fun ρ => Rels.cons (by simp only [Rel]) (Rels.nil_iff.2 rfl)⟩
     | _ => simp [kdT] at h1
    ·
     cases h2
   ·
    cases h
  ·
   cases fs with
   | nil => simp [kindsF] at h; subst h; exact ⟨[], rfl, fun ρ => by simp [Rels]⟩
   | cons f fs =>
    simp only [kindsF] at h
    split at h
    ·
     rename_i hf
     obtain ⟨k1, h1, h2⟩ := Option.bind_eq_some_iff.1 h
     obtain ⟨k2, h3, h4⟩ := Option.map_eq_some_iff.1 h2
     subst h4
     have he : P.cellsOf f.type = k1.length := psz_cells (kinds_size h1)
     have hr1 := hr f (List.mem_cons_self ..)
     rw [hf.2, he] at hr1
     simp only [List.length_append] at hl
     obtain ⟨xs, hx, hxr⟩ := ihA h1 hr1
     obtain ⟨ys, hy, hyr⟩ := ihB h3 (cs := cs) (fun g hg => hr g (List.mem_cons_of_mem _ hg)) (by omega)
     refine ⟨xs ++ ys, by simp [hx, hy], fun ρ => ?_⟩
     rw [List.length_append, List.take_add, List.drop_drop]
     exact Rels.append (hxr ρ) (hyr ρ)
    ·
     cases h
theorem open_kinds {d : Nat} {t : TypeId} {ks : List Nat} (h : kinds P d t = some ks) {cs : List Value} (hr : Rd enc P w base spare held t cs) : ∃ xs : List SV, xs.map kd = ks.map some ∧ ∀ ρ, Rels ρ xs cs :=
 (open_kinds_both d).1 h hr
/-! ### Kinds, told -/
theorem kd_0 {x : SV} (h : kd x = some 0) : ∃ n, x = .i n := by cases x <;> simp [kd] at h; exact ⟨_, rfl⟩
theorem kd_1 {x : SV} (h : kd x = some 1) : ∃ n, x = .u8 n := by cases x <;> simp [kd] at h; exact ⟨_, rfl⟩
theorem kd_2 {x : SV} (h : kd x = some 2) : ∃ n, x = .u16 n := by cases x <;> simp [kd] at h; exact ⟨_, rfl⟩
theorem kd_3 {x : SV} (h : kd x = some 3) : ∃ n, x = .u32 n := by cases x <;> simp [kd] at h; exact ⟨_, rfl⟩
theorem kd_4 {x : SV} (h : kd x = some 4) : ∃ n, x = .u64 n := by cases x <;> simp [kd] at h; exact ⟨_, rfl⟩
theorem kd_5 {x : SV} (h : kd x = some 5) : ∃ n, x = .b n := by cases x <;> simp [kd] at h; exact ⟨_, rfl⟩
theorem kd_nil {xs : List SV} (h : xs.map kd = ([] : List Nat).map some) : xs = [] := by simpa using h
theorem kd_cons {xs : List SV} {k : Nat} {ks : List Nat} (h : xs.map kd = (k :: ks).map some) : ∃ x ys, xs = x :: ys ∧ kd x = some k ∧ ys.map kd = ks.map some := by
 cases xs with
 | nil => simp at h
 | cons x ys => simp at h; exact ⟨x, ys, rfl, h.1, h.2⟩
theorem kd_append {xs : List SV} {k1 k2 : List Nat} (h : xs.map kd = (k1 ++ k2).map some) : ∃ ys zs, xs = ys ++ zs ∧ ys.map kd = k1.map some ∧ zs.map kd = k2.map some := by
 refine ⟨xs.take k1.length, xs.drop k1.length, (List.take_append_drop ..).symm, ?_, ?_⟩
 ·
  rw [List.map_take, h, List.map_append, List.take_left' (by simp)]
 ·
  rw [List.map_drop, h, List.map_append, List.drop_left' (by simp)]
theorem kd_rep {α : Type} {f : α → SV} {k : Nat} (hf : ∀ x, kd x = some k → ∃ a, x = f a) : ∀ {n : Nat} {xs : List SV}, xs.map kd = (List.replicate n k).map some → ∃ l : List α, xs = l.map f ∧ l.length = n
 | 0, xs, h => by
  have : xs = [] := kd_nil h
  subst this; exact ⟨[], rfl, rfl⟩
 | n + 1, xs, h => by
  rw [List.replicate_succ] at h
  obtain ⟨x, ys, rfl, hx, hy⟩ := kd_cons h
  obtain ⟨a, rfl⟩ := hf x hx
  obtain ⟨l, rfl, hl⟩ := kd_rep hf hy
  exact ⟨a :: l, rfl, by simp [hl]⟩
theorem kd_atoms : ∀ {xs : List SV} {ks : List Nat}, xs.map kd = ks.map some → atoms xs = true
 | [], _, _ => rfl
 | x :: xs, [], h => by simp at h
 | x :: xs, k :: ks, h => by
  simp only [List.map_cons, List.cons.injEq] at h
  simp only [atoms, List.all_cons, kd_atom h.1, Bool.true_and]
  exact kd_atoms h.2
theorem open_agg_k {r : Reach} {b0 d : Nat} {t : TypeId} {ks : List Nat} {v : Value} {y : DataW H} {ps : List MemPlace} (hk : kinds P d t = some ks) (ha : isRow P t = true) (hval : Value.okWide P w r b0 t v) (hd : DataW.Trod enc P w base spare held t v y ps) :
  ∃ xs : List SV, xs.map kd = ks.map some ∧ ∀ ρ, Rel ρ (.agg xs) v := by
 have : ∃ cs, v = .agg cs := by
  unfold Value.okWide at hval
  unfold isRow at ha
  cases hu : P.underlying t with
  | none => rw [hu] at ha; cases ha
  | some ds =>
   rw [hu] at ha hval
   cases ds <;> first | (simp at ha; done) | (obtain ⟨cs, h, _⟩ := hval; exact ⟨cs, h⟩)
 obtain ⟨cs, rfl⟩ := this
 obtain ⟨fuel, hf⟩ := hd
 obtain ⟨xs, hx, hxr⟩ := open_kinds hk (cs := cs.toList) ⟨fuel, _, hf⟩
 refine ⟨xs, hx, fun ρ => ?_⟩
 simp only [Rel]
 exact ⟨cs.toList, rfl, kd_atoms hx, hxr ρ⟩
theorem open_one_k {r : Reach} {b0 k : Nat} {t : TypeId} {ds : TypeDesc} {v : Value} {y : DataW H} {ps : List MemPlace} (hu : P.underlying t = some ds) (hk : kdT ds = some k) (hk6 : k ≠ 6) (hval : Value.okWide P w r b0 t v) (hd : DataW.Trod enc P w base spare held t v y ps) :
  ∃ x : SV, kd x = some k ∧ ∀ ρ, Rel ρ x v := by
 cases ds with
 | int kk =>
  obtain ⟨n, rfl, _, _, hw⟩ := open_int hu hval hd
  exact int_kd hk hw
 | bool =>
  obtain ⟨b, rfl, _⟩ := open_bool hu hval hd
  simp only [kdT, Option.some.injEq] at hk; subst hk
  exact ⟨.b b, rfl, fun ρ => by simp only [Rel]⟩
 | string => simp only [kdT, Option.some.injEq] at hk; exact absurd hk.symm hk6
 | _ => simp [kdT] at hk
/-! ### Rows -/
theorem cells_get {a : Addr} {n : Nat} {l : List Value} (h : w.cells? base a n = some l) : l.length = n ∧ ∀ i, i < n → w.cell? (a.add i) = l[i]? := by
 unfold World.cells? at h
 split at h
 ·
  refine ⟨by simpa using mapM_some_length h, fun i hi => ?_⟩
  simpa using mapM_some_get h i i (by simp [hi])
 ·
  cases h
theorem addr_add (a : Addr) (i : Nat) (h : a.spot = none) : a.add i = ⟨a.block, a.off + i, none⟩ := by
 cases a; simp only at h; subst h
 unfold Addr.add
 split
 ·
  rename_i h0; subst h0; rfl
 ·
  rfl
theorem addr_block (a : Addr) (i : Nat) : (a.add i).block = a.block := by unfold Addr.add; split <;> rfl
theorem addr_zero (a : Addr) : a.add 0 = a := by simp [Addr.add]
structure Row (enc : TypeId × Value → H) (P : Program) (w : World) (base : Nat) (spare : Nat → Bool) (held : Bool) (e : TypeId) (sz : Nat) (a : Addr) (len cap : Nat) (vs : List Value) : Prop where
 le : len ≤ cap
 most : cap ≤ maxLen
 spot : 0 < cap → a.spot = none
 len : vs.length = cap * sz
 cell : ∀ i, i < cap * sz → w.cell? ⟨a.block, a.off + i, none⟩ = vs[i]?
 read : ∀ i, i < cap → Rd enc P w base spare held e ((vs.drop (i * sz)).take sz)
theorem rows_of {α : Type} (f : Nat → Option (List α)) (sz : Nat) : ∀ n, (∀ i, i < n → ∃ l, f i = some l ∧ l.length = sz) → ∃ vs : List α, vs.length = n * sz ∧ ∀ i, i < n → f i = some ((vs.drop (i * sz)).take sz)
 | 0, _ => ⟨[], by simp, fun i hi => by omega⟩
 | n + 1, h => by
  obtain ⟨vs, h1, h2⟩ := rows_of f sz n (fun i hi => h i (by omega))
  obtain ⟨l, hl, hls⟩ := h n (by omega)
  refine ⟨vs ++ l, by simp [h1, hls, Nat.add_mul], fun i hi => ?_⟩
  by_cases hin : i < n
  ·
   rw [h2 i hin]
   have hle : i * sz + sz ≤ vs.length := by
    rw [h1]; calc i * sz + sz = (i + 1) * sz := by rw [Nat.add_mul]; omega
     _ ≤ n * sz := Nat.mul_le_mul_right _ hin
   rw [List.drop_append_of_le_length (by omega), List.take_append_of_le_length (by simp; omega)]
  ·
   have : i = n := by omega
   subst this
   rw [hl, ← h1, List.drop_left, List.take_of_length_le (by omega)]
theorem open_row {e t : TypeId} {sz : Nat} {cs : List Value} (ht : P.underlying t = some (.slice e)) (hs : psz P e = some sz) (h0 : 0 < sz) (hsp : spare = fun _ => true) (hr : Rd enc P w base spare held t cs) :
  cs = [.slice none 0 0] ∨ ∃ a len cap vs, cs = [.slice (some a) len cap] ∧ Row enc P w base spare held e sz a len cap vs := by
 obtain ⟨fuel, x, hx⟩ := hr
 have he := psz_cells hs
 rcases DataW.trod_slice ht hx with ⟨h, _⟩ | ⟨a, len, cap, elems, rest, n, rfl, rfl, _, hb, hlc, hm, hel, h1, h2, _⟩
 ·
  exact .inl h
 ·
  right
  rw [he] at h1 h2
  obtain ⟨hrl, h2⟩ := h2 (by rw [hsp])
  have all : ∀ i, i < cap → ∃ l, w.cells? base (a.add (i * sz)) sz = some l ∧ Rd enc P w base spare held e l := by
   intro i hi
   by_cases hil : i < len
   ·
    have := h1 i hil
    rw [List.getElem?_eq_getElem (by omega : i < elems.length)] at this
    obtain ⟨l, hl, hr⟩ := Option.bind_eq_some_iff.1 this
    exact ⟨l, hl, n, _, hr⟩
   ·
    have := h2 (i - len) (by omega)
    rw [List.getElem?_eq_getElem (by omega : i - len < rest.length), show len + (i - len) = i from by omega] at this
    obtain ⟨l, hl, hr⟩ := Option.bind_eq_some_iff.1 this
    exact ⟨l, hl, n, _, hr⟩
  obtain ⟨vs, hvl, hv⟩ := rows_of (fun i => w.cells? base (a.add (i * sz)) sz) sz cap (fun i hi => by
   obtain ⟨l, hl, _⟩ := all i hi
   exact ⟨l, hl, (cells_get hl).1⟩)
  have hspot : 0 < cap → a.spot = none := by
   intro hc
   obtain ⟨l, hl, _⟩ := all 0 hc
   obtain ⟨g1, g2⟩ := cells_get hl
   have := g2 0 h0
   rw [List.getElem?_eq_getElem (by omega)] at this
   unfold World.cell? at this
   split at this
   ·
    split at this
    ·
     cases this
    ·
     rename_i hs2
     have h3 : ((a.add (0 * sz)).add 0).spot = none := by simpa using hs2
     rwa [Nat.zero_mul, addr_zero, addr_zero] at h3
   ·
    cases this
  refine ⟨a, len, cap, vs, rfl, hlc, hm, hspot, hvl, fun i hi => ?_, fun i hi => ?_⟩
  ·
   have hc : 0 < cap := by
    rcases Nat.eq_zero_or_pos cap with h | h
    ·
     subst h; omega
    ·
     exact h
   have hi2 : i / sz < cap := by rw [Nat.div_lt_iff_lt_mul h0]; exact hi
   have hl := hv (i / sz) hi2
   obtain ⟨g1, g2⟩ := cells_get hl
   have hmod : i % sz < sz := Nat.mod_lt _ h0
   have := g2 (i % sz) hmod
   rw [addr_add a _ (hspot hc), addr_add _ _ rfl] at this
   have hdm : i / sz * sz + i % sz = i := by rw [Nat.mul_comm]; exact Nat.div_add_mod i sz
   rw [List.getElem?_take_of_lt hmod, List.getElem?_drop, hdm] at this
   simp only [Nat.add_assoc, hdm] at this
   exact this
  ·
   obtain ⟨l, hl, hr⟩ := all i hi
   have := hv i hi
   rw [hl] at this
   rw [← Option.some.inj this]; exact hr
theorem Row.block {e : TypeId} {sz : Nat} {a : Addr} {len cap : Nat} {vs : List Value} (h : Row enc P w base spare held e sz a len cap vs) {ρ : Ren} {ys : List SV} (hr : Rels ρ ys (vs.take (len * sz))) (ha : atoms ys = true) :
  (∀ id, ρ id = some ⟨a.block, a.off, cap * sz, false⟩ → Rel ρ (.sl id 0 len sz false) (.slice (some a) len cap)) ∧ BRel ρ w ⟨a.block, a.off, cap * sz, false⟩ (.ro ys) := by
 have hyl : ys.length = len * sz := by
  have := hr.length
  rw [List.length_take, h.len] at this
  have hle : len * sz ≤ cap * sz := Nat.mul_le_mul_right _ h.le
  omega
 refine ⟨fun id hid => ?_, ?_⟩
 ·
  simp only [Rel]
  refine ⟨_, some a, cap, hid, rfl, h.le, fun h => (by cases h), ?_⟩
  by_cases h0 : cap = 0
  ·
   exact .inl h0
  ·
   right
   refine ⟨rfl, ?_, by simp⟩
   have := h.spot (by omega)
   cases a; simp only at this; subst this; simp
 ·
  by_cases h0 : len * sz = 0
  ·
   left; exact List.eq_nil_of_length_eq_zero (by omega)
  ·
   right
   have hle : len * sz ≤ cap * sz := Nat.mul_le_mul_right _ h.le
   have key : ∀ i, i < cap * sz → ∃ c t fz, w.heap[a.block]? = some (.cells c t fz) ∧ c[a.off + i]? = vs[i]? := by
    intro i hi
    have hc := h.cell i hi
    rw [List.getElem?_eq_getElem (by rw [h.len]; exact hi)] at hc
    unfold World.cell? at hc
    split at hc
    ·
     rename_i c t fz hh
     simp only at hc
     exact ⟨c, t, fz, hh, by rw [List.getElem?_eq_getElem (by rw [h.len]; exact hi)]; simpa using hc⟩
    ·
     cases hc
   obtain ⟨c, t2, fz, hh, _⟩ := key 0 (by omega)
   have key2 : ∀ i, i < cap * sz → c[a.off + i]? = vs[i]? := by
    intro i hi
    obtain ⟨c', t', fz', hh', hv⟩ := key i hi
    rw [hh] at hh'; cases hh'; exact hv
   have hsz : a.off + len * sz ≤ c.size := by
    have := key2 (len * sz - 1) (by omega)
    rw [List.getElem?_eq_getElem (by rw [h.len]; omega)] at this
    have := (Array.getElem?_eq_some_iff.1 this).1
    omega
   refine ⟨⟨c, t2, fz, hh, ha, ?_, fun h => (by cases h), by rw [hyl]; exact hsz⟩, by rw [hyl]; exact hle, rfl⟩
   have e1 : (c.toList.drop a.off).take ys.length = vs.take (len * sz) := by
    apply List.ext_getElem?
    intro i
    rw [hyl]
    by_cases hi : i < len * sz
    ·
     rw [List.getElem?_take_of_lt hi, List.getElem?_take_of_lt hi, List.getElem?_drop, Array.getElem?_toList]
     exact key2 i (by omega)
    ·
     rw [List.getElem?_take_eq_none (by omega), List.getElem?_take_eq_none (by omega)]
   rw [e1]; exact hr
theorem open_row_k {r : Reach} {b0 d : Nat} {e t : TypeId} {ks : List Nat} {v : Value} {y : DataW H} {ps : List MemPlace} (ht : P.underlying t = some (.slice e)) (hk : kinds P d e = some ks) (h0 : 0 < ks.length) (hval : Value.okWide P w r b0 t v)
  (hd : DataW.Trod enc P w base (fun _ => true) held t v y ps) : ∃ (n : Nat) (ys : List SV) (rb : RB), n ≤ maxLen ∧ ys.map kd = (List.replicate n ks).flatten.map some ∧ (∀ ρ id, ρ id = some rb → Rel ρ (.sl id 0 n ks.length false) v) ∧ ∀ ρ, BRel ρ w rb (.ro ys) := by
 obtain ⟨a, len, cap, rfl⟩ := okWide_slice ht hval
 obtain ⟨fuel, hf⟩ := hd
 have hcs : (Value.slice a len cap).cells.toList = [.slice a len cap] := rfl
 rw [hcs] at hf
 rcases open_row ht (kinds_size hk) h0 rfl ⟨fuel, _, hf⟩ with h | ⟨a', len', cap', vs, h, hrow⟩
 ·
  cases h
  refine ⟨0, [], ⟨0, 0, 0, true⟩, Nat.zero_le _, rfl, fun ρ id hr => ?_, fun ρ => .inl rfl⟩
  simp only [Rel]
  exact ⟨_, none, 0, hr, rfl, Nat.le_refl _, fun h => (by cases h), .inl rfl⟩
 ·
  cases h
  have hle : len * ks.length ≤ cap * ks.length := Nat.mul_le_mul_right _ hrow.le
  obtain ⟨ys, hy, hyr⟩ := chunks (R := fun c => Rd enc P w base (fun _ => true) held e c) (fun c hc => open_kinds hk hc) vs len (by rw [hrow.len]; exact hle) (fun i hi => hrow.read i (Nat.lt_of_lt_of_le hi hrow.le))
  exact ⟨len, ys, _, Nat.le_trans hrow.le hrow.most, hy, fun ρ id hid => (hrow.block (hyr ρ) (kd_atoms hy)).1 id hid, fun ρ => (hrow.block (hyr ρ) (kd_atoms hy)).2⟩
theorem flat_rep1 (n k : Nat) : (List.replicate n [k]).flatten = List.replicate n k := by
 induction n with
 | zero => rfl
 | succ n ih => rw [List.replicate_succ, List.flatten_cons, ih]; rfl
theorem open_row1 {α : Type} {f : α → SV} {r : Reach} {b0 d k : Nat} {e t : TypeId} {v : Value} {y : DataW H} {ps : List MemPlace} (ht : P.underlying t = some (.slice e)) (hk : kinds P d e = some [k]) (hf : ∀ x, kd x = some k → ∃ a, x = f a) (hval : Value.okWide P w r b0 t v)
  (hd : DataW.Trod enc P w base (fun _ => true) held t v y ps) : ∃ (l : List α) (rb : RB), l.length ≤ maxLen ∧ (∀ ρ id, ρ id = some rb → Rel ρ (.sl id 0 l.length 1 false) v) ∧ ∀ ρ, BRel ρ w rb (.ro (l.map f)) := by
 obtain ⟨n, ys, rb, hm, hy, h1, h2⟩ := open_row_k ht hk (by simp) hval hd
 rw [flat_rep1] at hy
 obtain ⟨l, rfl, rfl⟩ := kd_rep hf hy
 exact ⟨l, rb, hm, h1, h2⟩
end
end Go.Sh
namespace Go.Sh
open Go.ChangeShapes Go.WideShapes Go.ChangeAt Go.RowKit
abbrev Part := Value × RB × List UInt8
def pFe (p : Part) : FE := ⟨p.1, p.2.1, p.2.2.length, 1, p.2.2.map .u8⟩
def pLit (p : Part) : SV := .lit p.1
def pTx (ps : List Part) (i : Nat) : List UInt8 := ((ps.take i).map (fun p => p.2.2)).flatten
theorem pTx_z (ps : List Part) : pTx ps 0 = [] := rfl
theorem pTx_s {ps : List Part} {i : Nat} {p : Part} (h : ps[i]? = some p) : pTx ps (i + 1) = pTx ps i ++ p.2.2 := by
 unfold pTx
 rw [List.take_add_one, h]; simp
theorem pTx_e (ps : List Part) : pTx ps ps.length = (ps.map (fun p => p.2.2)).flatten := by unfold pTx; rw [List.take_length]
theorem pTx_le (ps : List Part) (i : Nat) : (pTx ps i).length ≤ (pTx ps ps.length).length := by
 have e : pTx ps ps.length = pTx ps i ++ ((ps.drop i).map (fun p => p.2.2)).flatten := by
  unfold pTx; rw [List.take_length, ← List.flatten_append, ← List.map_append, List.take_append_drop]
 rw [e, List.length_append]; omega
@[simp] theorem plainL_lit (ps : List Part) : plainL (ps.map pLit) = true := by
 induction ps with
 | nil => rfl
 | cons p ps ih => rw [List.map_cons, plainL_cons, ih]; rfl
theorem focus_p {A : Nat} {R : RL} {H : HL} {L : Nat} (t q : Nat) {l : List FE} {v : Value} {rb : RB} {b : List UInt8} (hq : hk H q = some (.ext (.fam l))) (he : pFe (v, rb, b) ∈ l) (ht : lk t R = some (.lit v)) :
  Weak A R H L ((t, .sl L 0 b.length 1 false) :: R) (hupd H [(L, some (.ro (b.map .u8)))]) (L + 1) := Weak.focus t q hq he ht
theorem sops_p {P : Program} {N : Nat} {ops : Array Oper} {Q : RL → HL → Nat → Prop} {os : List Oper} {R : RL} {H : HL} {L : Nat} (t q : Nat) {l : List FE} {v : Value} {rb : RB} {b : List UInt8} (hq : hk H q = some (.ext (.fam l))) (he : pFe (v, rb, b) ∈ l) (ht : lk t R = some (.lit v))
  (h : SOps P N ops Q os ((t, .sl L 0 b.length 1 false) :: R) (hupd H [(L, some (.ro (b.map .u8)))]) (L + 1)) : SOps P N ops Q os R H L := sops_focus t q hq he ht h
theorem sload_lit {ps : List Part} {i : Nat} {p : Part} (h : ps[i]? = some p) : sload false 1 (ps.map pLit) (0 + i * 1) = some (.lit p.1) := by
 show (ps.map pLit)[0 + i * 1]? = _
 rw [Nat.zero_add, Nat.mul_one, List.getElem?_map, h]; rfl
section
variable {H : Type} {enc : TypeId × Value → H} {P : Program} {w : World} {base : Nat} {held : Bool}
theorem open_part {d : Nat} {t e : TypeId} {cs : List Value} (ht : P.underlying t = some (.slice e)) (hk : kinds P d e = some [1]) (hr : Rd enc P w base (fun _ => true) held t cs) :
  ∃ p : Part, p.2.2.length ≤ maxLen ∧ cs = [p.1] ∧ (∃ a n c, p.1 = .slice a n c) ∧ FEOk w (pFe p) := by
 rcases open_row ht (kinds_size hk) (by simp) rfl hr with rfl | ⟨a, len, cap, vs, rfl, hrow⟩
 ·
  exact ⟨(.slice none 0 0, ⟨0, 0, 0, true⟩, []), Nat.zero_le _, rfl, ⟨_, _, _, rfl⟩, ⟨none, 0, rfl, Nat.le_refl _, .inl rfl⟩, .inl rfl⟩
 ·
  have hle : len * [1].length ≤ cap * [1].length := Nat.mul_le_mul_right _ hrow.le
  obtain ⟨ys, hy, hyr⟩ := chunks (R := fun c => Rd enc P w base (fun _ => true) held e c) (fun c hc => open_kinds hk hc) vs len (by rw [hrow.len]; exact hle) (fun i hi => hrow.read i (Nat.lt_of_lt_of_le hi hrow.le))
  have hb := (hrow.block (hyr (fun _ => none)) (kd_atoms hy)).2
  rw [flat_rep1] at hy
  obtain ⟨b, rfl, rfl⟩ := kd_rep (f := SV.u8) (fun _ => kd_1) hy
  refine ⟨(.slice (some a) b.length cap, ⟨a.block, a.off, cap * 1, false⟩, b), Nat.le_trans hrow.le hrow.most, rfl, ⟨_, _, _, rfl⟩, ⟨some a, cap, rfl, hrow.le, ?_⟩, ?_⟩
  ·
   by_cases h0 : cap = 0
   ·
    exact .inl h0
   ·
    refine .inr ⟨rfl, ?_, Nat.le_refl _⟩
    have := hrow.spot (by omega)
    cases a; simp only at this; subst this; rfl
  ·
   exact hb
theorem open_parts {d : Nat} {e e2 : TypeId} (ht : P.underlying e = some (.slice e2)) (hk : kinds P d e2 = some [1]) (he : psz P e = some 1) (vs : List Value) : ∀ n : Nat, n ≤ vs.length →
  (∀ i, i < n → Rd enc P w base (fun _ => true) held e ((vs.drop (i * 1)).take 1)) → ∃ ps : List Part, ps.length = n ∧ (∀ p ∈ ps, p.2.2.length ≤ maxLen ∧ FEOk w (pFe p)) ∧ ∀ ρ, Rels ρ (ps.map pLit) (vs.take (n * 1))
 | 0, _, _ => ⟨[], rfl, by simp, fun ρ => by simp [Rels]⟩
 | n + 1, hl, h => by
  obtain ⟨ps, h1, h2, h3⟩ := open_parts ht hk he vs n (by omega) (fun i hi => h i (by omega))
  obtain ⟨p, q1, q2, ⟨a, m, c, q3⟩, q4⟩ := open_part ht hk (h n (by omega))
  refine ⟨ps ++ [p], by rw [List.length_append, h1, List.length_singleton], fun x hx => ?_, fun ρ => ?_⟩
  ·
   rcases List.mem_append.1 hx with hx | hx
   ·
    exact h2 x hx
   ·
    rw [List.mem_singleton] at hx; subst hx; exact ⟨q1, q4⟩
  ·
   rw [show (n + 1) * 1 = n * 1 + 1 from by omega, List.take_add, List.map_append, q2]
   exact Rels.append (h3 ρ) (Rels.cons (by simp only [pLit, Rel, true_and]; exact ⟨a, m, c, q3⟩) (Rels.nil_iff.2 rfl))
theorem atoms_lit (ps : List Part) : atoms (ps.map pLit) = true := by induction ps <;> simp_all [atoms, SV.atom, pLit]
theorem open_row_p {r : Reach} {b0 d : Nat} {e e2 t : TypeId} {v : Value} {y : DataW H} {pl : List MemPlace} (ht : P.underlying t = some (.slice e)) (he : P.underlying e = some (.slice e2)) (hs : psz P e = some 1) (hk : kinds P d e2 = some [1]) (hval : Value.okWide P w r b0 t v)
  (hd : DataW.Trod enc P w base (fun _ => true) held t v y pl) : ∃ (ps : List Part) (rb : RB), ps.length ≤ maxLen ∧ (∀ p ∈ ps, p.2.2.length ≤ maxLen) ∧ (∀ ρ id, ρ id = some rb → Rel ρ (.sl id 0 ps.length 1 false) v) ∧ (∀ ρ, BRel ρ w rb (.ro (ps.map pLit))) ∧ ∀ ρ rb2, BRel ρ w rb2 (.ext (.fam (ps.map pFe))) := by
 obtain ⟨a, len, cap, rfl⟩ := okWide_slice ht hval
 obtain ⟨fuel, hf⟩ := hd
 have hcs : (Value.slice a len cap).cells.toList = [.slice a len cap] := rfl
 rw [hcs] at hf
 rcases open_row ht hs (by decide) rfl ⟨fuel, _, hf⟩ with h | ⟨a', len', cap', vs, h, hrow⟩
 ·
  cases h
  refine ⟨[], ⟨0, 0, 0, true⟩, Nat.zero_le _, by simp, fun ρ id hr => ?_, fun ρ => .inl rfl, fun ρ rb2 e he => by simp at he⟩
  simp only [Rel]
  exact ⟨_, none, 0, hr, rfl, Nat.le_refl _, fun h => (by cases h), .inl rfl⟩
 ·
  cases h
  have hle : len ≤ vs.length := by rw [hrow.len]; have := hrow.le; omega
  obtain ⟨ps, h1, h2, h3⟩ := open_parts he hk hs vs len hle (fun i hi => hrow.read i (Nat.lt_of_lt_of_le hi hrow.le))
  subst h1
  refine ⟨ps, _, Nat.le_trans hrow.le hrow.most, fun p hp => (h2 p hp).1, fun ρ id hid => (hrow.block (h3 ρ) (atoms_lit ps)).1 id hid, fun ρ => (hrow.block (h3 ρ) (atoms_lit ps)).2, fun ρ rb2 e he => ?_⟩
  obtain ⟨p, hp, rfl⟩ := List.mem_map.1 he
  exact (h2 p hp).2
end
end Go.Sh
namespace Go.Sh
open Go.Proofs
set_option maxHeartbeats 8000000
theorem rest_nil'_n : List.drop 0 ([] : List UInt8) = rest_n [] := rest_nil_n.symm
theorem st_nil'_n (k h : List UInt32) : st_n k h [] = h := st_nil_n k h
attribute [local irreducible] comp_n blks_n st_n rest_n hash_n pz_n outl_n outb_n lset_n last_n pTx
end Go.Sh
namespace Go.Sh
open Go.Proofs
set_option maxHeartbeats 8000000
theorem rest_nil'_w : List.drop 0 ([] : List UInt8) = rest_w [] := rest_nil_w.symm
theorem st_nil'_w (k h : List UInt64) : st_w k h [] = h := st_nil_w k h
attribute [local irreducible] comp_w blks_w st_w rest_w hash_w pz_w outl_w outb_w lset_w last_w pTx
end Go.Sh
namespace Go.Sh
open Go.Proofs
set_option maxHeartbeats 8000000
def pTh (b0 : List UInt8) (ps : List Part) : Nat → List UInt8
 | 0 => []
 | i + 1 => b0 ++ pTx ps i
theorem pTh_1 (b0 : List UInt8) (ps : List Part) : pTh b0 ps 1 = pTh b0 ps 0 ++ b0 := by show b0 ++ pTx ps 0 = [] ++ b0; rw [pTx_z]; simp
theorem pTh_s {b0 : List UInt8} {ps : List Part} {i : Nat} {p : Part} (h : ps[i]? = some p) : pTh b0 ps (i + 1 + 1) = pTh b0 ps (i + 1) ++ p.2.2 := by
 show b0 ++ pTx ps (i + 1) = b0 ++ pTx ps i ++ p.2.2
 rw [pTx_s h, List.append_assoc]
theorem pTh_le (b0 : List UInt8) (ps : List Part) : ∀ i, (pTh b0 ps i).length ≤ (pTh b0 ps (ps.length + 1)).length
 | 0 => Nat.zero_le _
 | i + 1 => by
  show (b0 ++ pTx ps i).length ≤ (b0 ++ pTx ps ps.length).length
  have := pTx_le ps i
  rw [List.length_append, List.length_append]; omega
theorem pTh_e (b0 : List UInt8) (ps : List Part) : pTh b0 ps (ps.length + 1) = b0 ++ (ps.map (fun p => p.2.2)).flatten := by
 show b0 ++ pTx ps ps.length = _
 rw [pTx_e]
theorem sload_lit1 {x : SV} {ps : List Part} {i : Nat} {p : Part} (h : ps[i]? = some p) : sload false 1 (x :: ps.map pLit) (0 + (i + 1) * 1) = some (.lit p.1) := by
 show (x :: ps.map pLit)[0 + (i + 1) * 1]? = _
 rw [Nat.zero_add, Nat.mul_one, List.getElem?_cons_succ, List.getElem?_map, h]; rfl
attribute [local irreducible] comp_n blks_n st_n rest_n hash_n pz_n outl_n outb_n lset_n last_n pTx pTh
theorem f102_h (h k : List UInt32) (hh : h.length = 8) (hk : k.length = 64) (b0 : List UInt8) (f0 : Bool) (ps : List Part) (hn : ps.length < 1000000000) (hb0 : (pTh b0 ps (ps.length + 1)).length < 100000000000000) (fl : Bool) : SCall Try.prog 102 [.p 0 0, .sl 3 0 (ps.length + 1) 1 fl] [some (.ro (mach_n 1 2)), some (.row 23 (h.map .u32)), some (.ro (k.map .u32)), some (.ro (.sl 5 0 b0.length 1 f0 :: ps.map pLit)), some (.ext (.fam (ps.map pFe))), some (.ro (b0.map .u8))] (.sl 6 0 32 1 false) [some (.ro (mach_n 1 2)), none, some (.ro (k.map .u32)), some (.ro (.sl 5 0 b0.length 1 f0 :: ps.map pLit)), some (.ext (.fam (ps.map pFe))), some (.ro (b0.map .u8)), some (.row 5 ((hash_n k h (pTh b0 ps (ps.length + 1))).map .u8))] := by
 obtain ⟨tx, htx⟩ : ∃ tx : Nat → List UInt8, tx = pTh b0 ps := ⟨_, rfl⟩
 have tx0 : tx 0 = [] := by rw [htx]; unfold pTh; rfl
 have tx1 : tx 1 = tx 0 ++ b0 := by rw [htx]; exact pTh_1 b0 ps
 have txn : ∀ i p, ps[i]? = some p → tx (i + 1 + 1) = tx (i + 1) ++ p.2.2 := fun i p hp => by rw [htx]; exact pTh_s hp
 have txl : ∀ i, (tx i).length ≤ (tx (ps.length + 1)).length := fun i => by rw [htx]; exact pTh_le b0 ps i
 rw [← htx] at hb0 ⊢
 clear htx
 refine scall_of ttOk (by kernel_rfl : Try.prog.funcs[102]? = some Try.f102) rfl rfl rfl ?_
 try simp only [List.length_cons, List.length_nil, Nat.zero_add, Nat.reduceAdd]
 refine sw_ok ttOk mixed (by kernel_rfl) ?_
 conv => whnf
 repeat (first | (refine Exists.intro _ (And.intro rfl ?_); conv => whnf) | fail)
 refine SWp.weak (Weak.virt 6 5 1 rfl) ?_
 refine loop_rulex [7] ttOk mixed (by kernel_rfl) (ι := { x : Nat × List UInt8 × Nat // x.1 ≤ ps.length + 1 ∧ x.2.2 ≤ x.2.1.length ∧ x.2.1.drop x.2.2 = rest_n (tx x.1) }) (fun x => [(0, .p 0 0), (5, .i 64), (6, .sl 6 x.1.2.2 (x.1.2.1.length - x.1.2.2) 1 false), (7, .u64 (UInt64.ofNat (tx x.1.1).length)), (21, .sl 3 0 (ps.length + 1) 1 fl), (22, .i ((ps.length + 1 : Nat) : Int)), (23, .i (x.1.1 : Int))]) (fun x => [some (.ro (mach_n 1 2)), some (.row 23 ((st_n k h (tx x.1.1)).map .u32)), some (.ro (k.map .u32)), some (.ro (.sl 5 0 b0.length 1 f0 :: ps.map pLit)), some (.ext (.fam (ps.map pFe))), some (.ro (b0.map .u8)), some (.row 5 (x.1.2.1.map .u8))]) (fun _ => 7) (fun x => ps.length + 1 - x.1.1) ⟨(0, [], 0), by omega, by simp, by rw [tx0]; exact rest_nil'_n⟩ ?_ ?_
 ·
  dsimp only
  rw [tx0, st_nil'_n]
  refine Weak.sel [0, 1, 2, 3, 4, 5, 6] rfl rfl ?_ ?_ rfl rfl
  ·
   (repeat' (first | exact trivial | refine And.intro ?_ ?_ | fail)) <;> first | rfl | fail
  ·
   (repeat' (first | exact trivial | refine And.intro ?_ ?_ | (refine wk_cons ?_ ?_))) <;> first | rfl | exact ren_eq (by first | (simp; done) | fail) (by first | rfl | fail) | fail
 ·
  rintro ⟨⟨i, E, o⟩, hi, ho, hE⟩
  dsimp only at hi ho hE ⊢
  have hsl := st_len_n k hh (tx i)
  have hrl := rest_len_n (tx i)
  obtain ⟨S, hS⟩ : ∃ S, S = st_n k h (tx i) := ⟨_, rfl⟩
  rw [← hS] at hsl ⊢
  have hEl : E.length - o = (rest_n (tx i)).length := by rw [← hE, List.length_drop]
  by_cases hi2 : i < ps.length + 1
  ·
   have hlt : decide ((i : Int) < ((ps.length + 1 : Nat) : Int)) = true := by simp; omega
   have hp1 : w64 ((i : Int) + 1) = ((i + 1 : Nat) : Int) := by simp only [w64_eq]; omega
   have htl := txl i
   rcases i with _ | i
   ·
    have htxs := tx1
    have hbb := txl 1
    have hbl : b0.length < 100000000000000 := by rw [htxs, List.length_append] at hbb; omega
    have hq := feed_st_n k h (tx 0) b0
    have hq2 := feed_rest_n (tx 0) b0
    rw [← hS] at hq
    rw [← htxs] at hq hq2
    rw [← hE] at hq hq2 hEl
    have hap : (E.drop o ++ b0).map SV.u8 = List.take ((E.length - o) * 1) (List.drop o (E.map SV.u8)) ++ List.take (b0.length * 1) (List.drop 0 (b0.map SV.u8)) := (cat8 rfl rfl).symm
    have hDl : (E.drop o ++ b0).length = E.length - o + b0.length := by rw [List.length_append, List.length_drop]
    have hel : E.length - o < 64 := by rw [← List.length_drop, hE, hrl]; omega
    have hul : UInt64.ofNat (tx 0).length + u64i (b0.length : Int) = UInt64.ofNat (tx 1).length := by rw [u64_add_i _ _ (by omega), htxs, List.length_append]
    clear hS hrl
    conv => whnf
    first | refine brT (by exact hlt) ?_ | fail
    conv => whnf
    repeat (first | (refine Exists.intro _ (And.intro rfl ?_); conv => whnf) | (refine And.intro (by first | omega | fail) ?_; conv => whnf) | fail)
    refine sw_ok ttOk mixed (by kernel_rfl) ?_
    conv => whnf
    repeat (first | (refine And.intro (by first | omega | (simp [ti5]; omega)) ?_; conv => whnf) | fail)
    obtain ⟨D, hD⟩ : ∃ D, D = E.drop o ++ b0 := ⟨_, rfl⟩
    rw [← hD] at hq hq2 hap hDl
    refine loop_rule ttOk mixed (by kernel_rfl) (ι := { j : Nat // 64 * j ≤ D.length }) (fun j => [(0, .p 0 0), (5, .i 64), (6, .sl 6 (64 * j.1) (D.length - 64 * j.1) 1 false), (7, .u64 (UInt64.ofNat (tx 1).length)), (21, .sl 3 0 (ps.length + 1) 1 fl), (22, .i (((ps.length + 1) : Nat) : Int)), (23, .i ((0 : Nat) : Int))]) (fun j => [some (.ro (mach_n 1 2)), some (.row 23 ((blks_n k S D j.1).map .u32)), some (.ro (k.map .u32)), some (.ro (.sl 5 0 b0.length 1 f0 :: ps.map pLit)), some (.ext (.fam (ps.map pFe))), some (.ro (b0.map .u8)), some (.row 5 (D.map .u8))]) (fun _ => 6 + 1) (fun j => D.length - 64 * j.1) ⟨0, by omega⟩ ?_ ?_
    ·
     have hz := blks_z_n k S D
     have hDn : E.length - o + b0.length = D.length - 64 * 0 := by omega
     dsimp only
     rw [hz]
     refine Weak.sel [0, 1, 2, 3, 4, 5, 7] rfl rfl ?_ ?_ rfl rfl
     ·
      (repeat' (first | exact trivial | refine And.intro ?_ ?_ | fail)) <;> first | exact wk_u64 (by first | exact hul | exact hul.symm | fail) | rfl | exact wk_sl rfl (by first | rfl | fail) (by first | exact hDn.symm | fail) | fail
     ·
      (repeat' (first | exact trivial | exact ren_eq (plainL_u8 _) hap | refine And.intro ?_ ?_ | (refine wk_cons ?_ ?_))) <;> first | rfl | exact ren_eq (by first | (simp; done) | fail) (by first | rfl | fail) | fail
    ·
     rintro ⟨j, hj⟩
     dsimp only
     have hbl := blks_len_n k hsl D j
     by_cases hc : 64 * (j + 1) ≤ D.length
     ·
      have hge : decide (((D.length - 64 * j : Nat) : Int) ≥ 64) = true := by simp; omega
      have hs := blks_s_n k S D j
      have q139 := f139D (blks_n k S D j) k D (64 * j) hbl hk (by omega) false
      rw [← hs] at q139
      conv => whnf
      first | refine brT (by exact hge) ?_ | fail
      conv => whnf
      repeat (first | (refine Exists.intro _ (And.intro rfl ?_); conv => whnf) | (refine And.intro (by first | omega | fail) ?_; conv => whnf) | fail)
      refine ok1_callF [0, 1, 2, 6] [false, true, false, false] true (q139) rfl rfl ⟨⟨rfl, by first | rfl | fail⟩, by (repeat' (first | exact trivial | refine And.intro ?_ ?_)) <;> first | rfl | exact ren_eq (by first | (simp; done) | fail) (by first | rfl | fail) | fail, by first | simp [plainHf, plainB], by first | rfl | fail, ?_⟩
      conv => whnf
      repeat (first | (refine Exists.intro _ (And.intro rfl ?_); conv => whnf) | (refine And.intro (by first | omega | fail) ?_; conv => whnf) | fail)
      refine ⟨⟨j + 1, hc⟩, by simp only; omega, ?_⟩
      dsimp only
      refine Weak.sel [0, 1, 2, 3, 4, 5, 6] rfl rfl ?_ ?_ rfl rfl
      ·
       (repeat' (first | exact trivial | refine And.intro ?_ ?_ | fail)) <;> first | rfl | fail
      ·
       (repeat' (first | exact trivial | refine And.intro ?_ ?_ | (refine wk_cons ?_ ?_))) <;> first | rfl | exact ren_eq (by first | (simp; done) | fail) (by first | rfl | fail) | fail
     ·
      obtain rfl : j = D.length / 64 := by omega
      have hge : decide (((D.length - 64 * (D.length / 64) : Nat) : Int) ≥ 64) = false := by simp; omega
      rw [hq]
      conv => whnf
      first | refine brF (by exact hge) ?_ | fail
      conv => whnf
      repeat (fail)
      refine ⟨⟨(1, D, 64 * (D.length / 64)), by omega, by simp only; omega, hq2⟩, by simp only; omega, ?_⟩
      dsimp only
      refine Weak.sel [0, 1, 2, 3, 4, 5, 6] rfl rfl ?_ ?_ rfl rfl
      ·
       (repeat' (first | exact trivial | refine And.intro ?_ ?_ | fail)) <;> first | rfl | fail
      ·
       (repeat' (first | exact trivial | refine And.intro ?_ ?_ | (refine wk_cons ?_ ?_))) <;> first | rfl | exact ren_eq (by first | (simp; done) | fail) (by first | rfl | fail) | fail
   ·
    obtain ⟨p, hp⟩ : ∃ p, ps[i]? = some p := ⟨_, List.getElem?_eq_getElem (by omega)⟩
    have hld := sload_lit1 (x := .sl 5 0 b0.length 1 f0) hp
    have hmem : pFe p ∈ ps.map pFe := List.mem_map_of_mem (List.mem_of_getElem? hp)
    have htxs := txn i p hp
    have hbb := txl (i + 1 + 1)
    obtain ⟨pv, prb, b⟩ := p
    dsimp only at htxs
    have hbl : b.length < 100000000000000 := by rw [htxs, List.length_append] at hbb; omega
    have hq := feed_st_n k h (tx (i + 1)) b
    have hq2 := feed_rest_n (tx (i + 1)) b
    rw [← hS] at hq
    rw [← htxs] at hq hq2
    rw [← hE] at hq hq2 hEl
    have hap : (E.drop o ++ b).map SV.u8 = List.take ((E.length - o) * 1) (List.drop o (E.map SV.u8)) ++ List.take (b.length * 1) (List.drop 0 (b.map SV.u8)) := (cat8 rfl rfl).symm
    have hDl : (E.drop o ++ b).length = E.length - o + b.length := by rw [List.length_append, List.length_drop]
    have hel : E.length - o < 64 := by rw [← List.length_drop, hE, hrl]; omega
    have hul : UInt64.ofNat (tx (i + 1)).length + u64i (b.length : Int) = UInt64.ofNat (tx (i + 1 + 1)).length := by rw [u64_add_i _ _ (by omega), htxs, List.length_append]
    clear hS hrl
    conv => whnf
    first | refine brT (by exact hlt) ?_ | fail
    conv => whnf
    repeat (first | (refine Exists.intro _ (And.intro (hld) ?_); conv => whnf) | (refine Exists.intro _ (And.intro rfl ?_); conv => whnf) | (refine And.intro (by first | omega | fail) ?_; conv => whnf) | fail)
    refine SWp.weak (focus_p 9 4 rfl hmem rfl) ?_
    refine sw_ok ttOk mixed (by kernel_rfl) ?_
    conv => whnf
    repeat (first | (refine And.intro (by first | omega | (simp [ti5]; omega)) ?_; conv => whnf) | fail)
    obtain ⟨D, hD⟩ : ∃ D, D = E.drop o ++ b := ⟨_, rfl⟩
    rw [← hD] at hq hq2 hap hDl
    refine loop_rule ttOk mixed (by kernel_rfl) (ι := { j : Nat // 64 * j ≤ D.length }) (fun j => [(0, .p 0 0), (5, .i 64), (6, .sl 6 (64 * j.1) (D.length - 64 * j.1) 1 false), (7, .u64 (UInt64.ofNat (tx (i + 1 + 1)).length)), (21, .sl 3 0 (ps.length + 1) 1 fl), (22, .i (((ps.length + 1) : Nat) : Int)), (23, .i (((i + 1) : Nat) : Int))]) (fun j => [some (.ro (mach_n 1 2)), some (.row 23 ((blks_n k S D j.1).map .u32)), some (.ro (k.map .u32)), some (.ro (.sl 5 0 b0.length 1 f0 :: ps.map pLit)), some (.ext (.fam (ps.map pFe))), some (.ro (b0.map .u8)), some (.row 5 (D.map .u8))]) (fun _ => 6 + 1) (fun j => D.length - 64 * j.1) ⟨0, by omega⟩ ?_ ?_
    ·
     have hz := blks_z_n k S D
     have hDn : E.length - o + b.length = D.length - 64 * 0 := by omega
     dsimp only
     rw [hz]
     refine Weak.sel [0, 1, 2, 3, 4, 5, 8] rfl rfl ?_ ?_ rfl rfl
     ·
      (repeat' (first | exact trivial | refine And.intro ?_ ?_ | fail)) <;> first | exact wk_u64 (by first | exact hul | exact hul.symm | fail) | rfl | exact wk_sl rfl (by first | rfl | fail) (by first | exact hDn.symm | fail) | fail
     ·
      (repeat' (first | exact trivial | exact ren_eq (plainL_u8 _) hap | refine And.intro ?_ ?_ | (refine wk_cons ?_ ?_))) <;> first | rfl | exact ren_eq (by first | (simp; done) | fail) (by first | rfl | fail) | fail
    ·
     rintro ⟨j, hj⟩
     dsimp only
     have hbl := blks_len_n k hsl D j
     by_cases hc : 64 * (j + 1) ≤ D.length
     ·
      have hge : decide (((D.length - 64 * j : Nat) : Int) ≥ 64) = true := by simp; omega
      have hs := blks_s_n k S D j
      have q139 := f139D (blks_n k S D j) k D (64 * j) hbl hk (by omega) false
      rw [← hs] at q139
      conv => whnf
      first | refine brT (by exact hge) ?_ | fail
      conv => whnf
      repeat (first | (refine Exists.intro _ (And.intro rfl ?_); conv => whnf) | (refine And.intro (by first | omega | fail) ?_; conv => whnf) | fail)
      refine ok1_callF [0, 1, 2, 6] [false, true, false, false] true (q139) rfl rfl ⟨⟨rfl, by first | rfl | fail⟩, by (repeat' (first | exact trivial | refine And.intro ?_ ?_)) <;> first | rfl | exact ren_eq (by first | (simp; done) | fail) (by first | rfl | fail) | fail, by first | simp [plainHf, plainB], by first | rfl | fail, ?_⟩
      conv => whnf
      repeat (first | (refine Exists.intro _ (And.intro rfl ?_); conv => whnf) | (refine And.intro (by first | omega | fail) ?_; conv => whnf) | fail)
      refine ⟨⟨j + 1, hc⟩, by simp only; omega, ?_⟩
      dsimp only
      refine Weak.sel [0, 1, 2, 3, 4, 5, 6] rfl rfl ?_ ?_ rfl rfl
      ·
       (repeat' (first | exact trivial | refine And.intro ?_ ?_ | fail)) <;> first | rfl | fail
      ·
       (repeat' (first | exact trivial | refine And.intro ?_ ?_ | (refine wk_cons ?_ ?_))) <;> first | rfl | exact ren_eq (by first | (simp; done) | fail) (by first | rfl | fail) | fail
     ·
      obtain rfl : j = D.length / 64 := by omega
      have hge : decide (((D.length - 64 * (D.length / 64) : Nat) : Int) ≥ 64) = false := by simp; omega
      rw [hq]
      conv => whnf
      first | refine brF (by exact hge) ?_ | fail
      conv => whnf
      repeat (fail)
      refine ⟨⟨((i + 1 + 1), D, 64 * (D.length / 64)), by omega, by simp only; omega, hq2⟩, by simp only; omega, ?_⟩
      dsimp only
      refine Weak.sel [0, 1, 2, 3, 4, 5, 6] rfl rfl ?_ ?_ rfl rfl
      ·
       (repeat' (first | exact trivial | refine And.intro ?_ ?_ | fail)) <;> first | rfl | exact wk_i (by first | omega | fail) | fail
      ·
       (repeat' (first | exact trivial | refine And.intro ?_ ?_ | (refine wk_cons ?_ ?_))) <;> first | rfl | exact ren_eq (by first | (simp; done) | fail) (by first | rfl | fail) | fail
  ·
   obtain rfl : i = ps.length + 1 := by omega
   have hge0 : decide (((ps.length + 1 : Nat) : Int) < ((ps.length + 1 : Nat) : Int)) = false := by simp
   obtain ⟨n, hn⟩ : ∃ n, n = E.length - o := ⟨_, rfl⟩
   have hnE : o + n = E.length := by omega
   rw [← hn]
   have hcat : (rest_n (tx (ps.length + 1)) ++ [128]).map SV.u8 = List.take (n * 1) (List.drop o (E.map SV.u8)) ++ List.take (1 * 1) (List.drop 0 [SV.u8 128]) := by rw [← hE]; exact (cat8 (b := [128]) hn rfl).symm
   have hdd : decide (((n : Nat) : Int).toNat = ((n : Nat) : Int).toNat) = true := by simp
   conv => whnf
   first | refine brF (by exact hge0) ?_ | fail
   conv => whnf
   repeat (first | (refine Exists.intro _ (And.intro rfl ?_); conv => whnf) | (refine And.intro (by first | omega | fail) ?_; conv => whnf) | fail)
   rw [hdd]
   rw [Int.toNat_natCast]
   have hnl : n = (rest_n (tx (ps.length + 1))).length := by rw [hn, ← hE, List.length_drop]
   have hn64 : n < 64 := by rw [hnl, hrl]; omega
   have hpz := pz_rest_n (tx (ps.length + 1))
   rw [← hnl] at hpz
   have hpl : pz_n n < 64 := by unfold pz_n; exact Nat.mod_lt _ (by decide)
   conv => whnf
   refine And.intro ⟨by show _ ≤ (E.map SV.u8).length; rw [List.length_map]; omega, by decide, by show _ * 1 ≤ _; omega, by decide⟩ ?_
   conv => whnf
   repeat (fail)
   refine loop_rule ttOk mixed (by kernel_rfl) (ι := { j : Nat // j ≤ pz_n n }) (fun j => [(0, .p 0 0), (5, .i 64), (6, .sl 6 0 (n + 1 + j.1) 1 false), (7, .u64 (UInt64.ofNat (tx (ps.length + 1)).length))]) (fun j => [some (.ro (mach_n 1 2)), some (.row 23 (S.map .u32)), some (.ro (k.map .u32)), some (.ro (.sl 5 0 b0.length 1 f0 :: ps.map pLit)), some (.ext (.fam (ps.map pFe))), some (.ro (b0.map .u8)), some (.row 5 ((rest_n (tx (ps.length + 1)) ++ [128] ++ List.replicate j.1 0).map .u8))]) (fun _ => 6 + 1) (fun j => pz_n n - j.1) ⟨0, by omega⟩ ?_ ?_
   ·
    have hz : rest_n (tx (ps.length + 1)) ++ [128] ++ List.replicate 0 0 = rest_n (tx (ps.length + 1)) ++ [128] := List.append_nil _
    dsimp only
    rw [hz]
    refine Weak.sel [0, 1, 2, 3, 4, 5, 6 + 2] rfl rfl ?_ ?_ rfl rfl
    ·
     (repeat' (first | exact trivial | refine And.intro ?_ ?_ | fail)) <;> first | rfl | fail
    ·
     (repeat' (first | exact trivial | exact ren_eq (plainL_u8 _) hcat | refine And.intro ?_ ?_ | (refine wk_cons ?_ ?_))) <;> first | rfl | exact ren_eq (by first | (simp; done) | fail) (by first | rfl | fail) | fail
   ·
    rintro ⟨j, hj⟩
    dsimp only
    obtain ⟨Y, hY⟩ : ∃ Y, Y = rest_n (tx (ps.length + 1)) ++ [128] ++ List.replicate j 0 := ⟨_, rfl⟩
    have hYl : Y.length = n + 1 + j := by rw [hY, List.length_append, List.length_append, ← hnl, List.length_replicate]; rfl
    have hYs : rest_n (tx (ps.length + 1)) ++ [128] ++ List.replicate (j + 1) 0 = Y ++ [0] := by rw [hY, List.replicate_succ', List.append_assoc]; simp
    by_cases hj2 : j < pz_n n
    ·
     have hno := padz_no_n hj2
     have hcd : (((w64 (((n + 1 + j : Nat) : Int) + w64 (2 * 4))).tmod 64) != 0) = true := by
      have e : w64 (((n + 1 + j : Nat) : Int) + w64 (2 * 4)) = ((n + 1 + j + 8 : Nat) : Int) := by simp only [w64_eq]; omega
      rw [e, show (((n + 1 + j + 8 : Nat) : Int)).tmod 64 = (((n + 1 + j + 8) % 64 : Nat) : Int) from rfl]
      simp; omega
     rw [← hY]
     conv => whnf
     repeat (first | (refine Exists.intro _ (And.intro rfl ?_); conv => whnf) | fail)
     first | refine brT (by exact hcd) ?_ | fail
     conv => whnf
     repeat (first | (refine Exists.intro _ (And.intro rfl ?_); conv => whnf) | (refine And.intro (by first | omega | (simp [ti5]; omega)) ?_; conv => whnf) | fail)
     have hap2 : (Y ++ [0]).map SV.u8 = List.take ((n + 1 + j) * 1) (List.drop 0 (Y.map SV.u8)) ++ List.take (1 * 1) (List.drop 0 [SV.u8 0]) := (cat8 (o := 0) (n := n + 1 + j) (E := Y) (b := [0]) (by omega) rfl).symm
     refine ⟨⟨j + 1, by omega⟩, by simp only; omega, ?_⟩
     dsimp only
     rw [hYs]
     refine Weak.sel [0, 1, 2, 3, 4, 5, 6 + 2] rfl rfl ?_ ?_ rfl rfl
     ·
      (repeat' (first | exact trivial | refine And.intro ?_ ?_ | fail)) <;> first | rfl | fail
     ·
      (repeat' (first | exact trivial | exact ren_eq (plainL_u8 _) hap2 | refine And.intro ?_ ?_ | (refine wk_cons ?_ ?_))) <;> first | rfl | exact ren_eq (by first | (simp; done) | fail) (by first | rfl | fail) | fail
    ·
     obtain rfl : j = pz_n n := by omega
     have hyes := padz_yes_n n
     have hcd : (((w64 (((n + 1 + pz_n n : Nat) : Int) + w64 (2 * 4))).tmod 64) != 0) = false := by
      have e : w64 (((n + 1 + pz_n n : Nat) : Int) + w64 (2 * 4)) = ((n + 1 + pz_n n + 8 : Nat) : Int) := by simp only [w64_eq]; omega
      rw [e, show (((n + 1 + pz_n n + 8 : Nat) : Int)).tmod 64 = (((n + 1 + pz_n n + 8) % 64 : Nat) : Int) from rfl, hyes]
      rfl
     rw [← hY]
     conv => whnf
     repeat (first | (refine Exists.intro _ (And.intro rfl ?_); conv => whnf) | fail)
     first | refine brF (by exact hcd) ?_ | fail
     conv => whnf
     repeat (first | (refine Exists.intro _ (And.intro rfl ?_); conv => whnf) | (refine And.intro ⟨by first | decide | fail, by first | decide | fail⟩ ?_; conv => whnf) | fail)
     obtain ⟨N, hN⟩ : ∃ N, N = (tx (ps.length + 1)).length := ⟨_, rfl⟩
     rw [← hN]
     refine loop_rule ttOk mixed (by kernel_rfl) (ι := { i : Nat // i ≤ 8 }) (fun i => [(0, .p 0 0), (5, .i 64), (6, .sl 6 0 (n + 1 + pz_n n) 1 false), (7, .u64 (UInt64.ofNat N)), (10, .sl (6 + 1) 0 8 1 true), (76, .i (i.1 : Int))]) (fun i => [some (.ro (mach_n 1 2)), some (.row 23 (S.map .u32)), some (.ro (k.map .u32)), some (.ro (.sl 5 0 b0.length 1 f0 :: ps.map pLit)), some (.ext (.fam (ps.map pFe))), some (.ro (b0.map .u8)), some (.row 5 (Y.map .u8)), some (.row 5 ((lset_n N i.1).map .u8))]) (fun _ => 6 + 2) (fun i => 8 - i.1) ⟨0, by omega⟩ ?_ ?_
     ·
      have hz := lset_z_n N
      dsimp only
      rw [hz]
      refine Weak.sel [0, 1, 2, 3, 4, 5, 6, 6 + 1] rfl rfl ?_ ?_ rfl rfl
      ·
       (repeat' (first | exact trivial | refine And.intro ?_ ?_ | fail)) <;> first | rfl | fail
      ·
       (repeat' (first | exact trivial | exact ren_z8 | refine And.intro ?_ ?_ | (refine wk_cons ?_ ?_))) <;> first | rfl | exact ren_eq (by first | (simp; done) | fail) (by first | rfl | fail) | fail
     ·
      rintro ⟨i, hi⟩
      dsimp only
      have hll := lset_len_n N i
      by_cases hi8 : i < 8
      ·
       have hlt : decide ((i : Int) < 8) = true := by simp; omega
       have hp := wp1i i (by omega)
       have h8 : w64 (8 * (i : Int)) = ((8 * i : Nat) : Int) := by simp only [w64_eq]; omega
       have h7 : w64 (w64 (8 - 1) - (i : Int)) = ((7 - i : Nat) : Int) := by simp only [w64_eq]; omega
       have hs := lset_s_n N i
       conv => whnf
       first | refine brT (by exact hlt) ?_ | fail
       conv => whnf
       repeat (fail)
       refine ⟨_, mshr_64 h8, ?_⟩
       conv => whnf
       repeat (first | (refine Exists.intro _ (And.intro (sput_m8 (i := 7 - i) (by first | rfl | omega | fail)) ?_); conv => whnf) | (refine Exists.intro _ (And.intro (idx_i (m := 7 - i) (by first | rfl | omega | fail)) ?_); conv => whnf) | (refine And.intro (by first | omega | (simp; omega) | fail) ?_; conv => whnf) | fail)
       refine ⟨⟨i + 1, by omega⟩, by simp only; omega, ?_⟩
       dsimp only
       rw [hs]
       refine Weak.sel [0, 1, 2, 3, 4, 5, 6, 6 + 1] rfl rfl ?_ ?_ rfl rfl
       ·
        (repeat' (first | exact trivial | refine And.intro ?_ ?_ | fail)) <;> first | exact wk_i (by first | exact hp | exact hp.symm | fail) | rfl | fail
       ·
        (repeat' (first | exact trivial | refine And.intro ?_ ?_ | (refine wk_cons ?_ ?_))) <;> first | rfl | exact ren_eq (by first | (simp; done) | fail) (by first | rfl | fail) | exact ren_m8 (by first | rfl | fail) | fail
      ·
       obtain rfl : i = 8 := by omega
       have hap3 : (Y ++ lset_n N 8).map SV.u8 = List.take ((n + 1 + pz_n n) * 1) (List.drop 0 (Y.map SV.u8)) ++ List.take (8 * 1) (List.drop 0 ((lset_n N 8).map SV.u8)) := (cat8 (o := 0) (n := n + 1 + pz_n n) (E := Y) (b := lset_n N 8) (by omega) hll.symm).symm
       obtain ⟨D, hD⟩ : ∃ D, D = Y ++ lset_n N 8 := ⟨_, rfl⟩
       have hDl : D.length = n + 1 + pz_n n + 8 := by rw [hD, List.length_append, hYl, hll]
       have hDe : D = last_n (tx (ps.length + 1)) := by rw [hD, hY, hpz, hN]; exact last_e_n _
       have hD64 := last_len_n (tx (ps.length + 1))
       have hfin := last_st_n k h (tx (ps.length + 1))
       rw [← hDe] at hD64 hfin
       rw [← hS] at hfin
       rw [← hD] at hap3
       conv => whnf
       first | refine brF (by rfl) ?_ | fail
       conv => whnf
       repeat (first | (refine And.intro (by first | omega | (simp [ti5]; omega)) ?_; conv => whnf) | fail)
       refine loop_rule ttOk mixed (by kernel_rfl) (ι := { j : Nat // 64 * j ≤ D.length }) (fun j => [(0, .p 0 0), (5, .i 64), (6, .sl 6 (64 * j.1) (D.length - 64 * j.1) 1 false)]) (fun j => [some (.ro (mach_n 1 2)), some (.row 23 ((blks_n k S D j.1).map .u32)), some (.ro (k.map .u32)), some (.ro (.sl 5 0 b0.length 1 f0 :: ps.map pLit)), some (.ext (.fam (ps.map pFe))), some (.ro (b0.map .u8)), some (.row 5 (D.map .u8))]) (fun _ => 6 + 1) (fun j => D.length - 64 * j.1) ⟨0, by omega⟩ ?_ ?_
       ·
        have hz := blks_z_n k S D
        have hDn : n + 1 + pz_n n + 8 = D.length - 64 * 0 := by omega
        dsimp only
        rw [hz]
        refine Weak.sel [0, 1, 2, 3, 4, 5, 6 + 2] rfl rfl ?_ ?_ rfl rfl
        ·
         (repeat' (first | exact trivial | refine And.intro ?_ ?_ | fail)) <;> first | rfl | exact wk_sl rfl (by first | rfl | fail) (by first | exact hDn.symm | fail) | fail
        ·
         (repeat' (first | exact trivial | exact ren_eq (plainL_u8 _) hap3 | refine And.intro ?_ ?_ | (refine wk_cons ?_ ?_))) <;> first | rfl | exact ren_eq (by first | (simp; done) | fail) (by first | rfl | fail) | fail
       ·
        rintro ⟨j, hj⟩
        dsimp only
        have hbl := blks_len_n k hsl D j
        by_cases hc : 64 * (j + 1) ≤ D.length
        ·
         have hge : decide (((D.length - 64 * j : Nat) : Int) > 0) = true := by simp; omega
         have hs := blks_s_n k S D j
         have q139 := f139D (blks_n k S D j) k D (64 * j) hbl hk (by omega) false
         rw [← hs] at q139
         conv => whnf
         first | refine brT (by exact hge) ?_ | fail
         conv => whnf
         repeat (first | (refine Exists.intro _ (And.intro rfl ?_); conv => whnf) | (refine And.intro (by first | omega | fail) ?_; conv => whnf) | fail)
         refine ok1_callF [0, 1, 2, 6] [false, true, false, false] true (q139) rfl rfl ⟨⟨rfl, by first | rfl | fail⟩, by (repeat' (first | exact trivial | refine And.intro ?_ ?_)) <;> first | rfl | exact ren_eq (by first | (simp; done) | fail) (by first | rfl | fail) | fail, by first | simp [plainHf, plainB], by first | rfl | fail, ?_⟩
         conv => whnf
         repeat (first | (refine Exists.intro _ (And.intro rfl ?_); conv => whnf) | (refine And.intro (by first | omega | fail) ?_; conv => whnf) | fail)
         refine ⟨⟨j + 1, hc⟩, by simp only; omega, ?_⟩
         dsimp only
         refine Weak.sel [0, 1, 2, 3, 4, 5, 6] rfl rfl ?_ ?_ rfl rfl
         ·
          (repeat' (first | exact trivial | refine And.intro ?_ ?_ | fail)) <;> first | rfl | fail
         ·
          (repeat' (first | exact trivial | refine And.intro ?_ ?_ | (refine wk_cons ?_ ?_))) <;> first | rfl | exact ren_eq (by first | (simp; done) | fail) (by first | rfl | fail) | fail
        ·
         obtain rfl : j = D.length / 64 := by omega
         have hge : decide (((D.length - 64 * (D.length / 64) : Nat) : Int) > 0) = false := by simp; omega
         obtain ⟨H, hH⟩ : ∃ H, H = blks_n k S D (D.length / 64) := ⟨_, rfl⟩
         rw [← hH] at hbl hfin ⊢
         conv => whnf
         first | refine brF (by exact hge) ?_ | fail
         conv => whnf
         repeat (first | (refine Exists.intro _ (And.intro rfl ?_); conv => whnf) | fail)
         refine SWp.weak (Weak.virt 12 5 1 rfl) ?_
         refine loop_rule ttOk mixed (by kernel_rfl) (ι := { i : Nat // i ≤ 8 }) (fun i => [(0, .p 0 0), (12, .sl 6 0 (4 * i.1) 1 false), (110, .sl 1 0 8 1 false), (111, .i 8), (112, .i (i.1 : Int))]) (fun i => [some (.ro (mach_n 1 2)), some (.row 23 (H.map .u32)), some (.ro (k.map .u32)), some (.ro (.sl 5 0 b0.length 1 f0 :: ps.map pLit)), some (.ext (.fam (ps.map pFe))), some (.ro (b0.map .u8)), some (.row 5 ((outl_n H (4 * i.1)).map .u8))]) (fun _ => 6 + 1) (fun i => 8 - i.1) ⟨0, by omega⟩ ?_ ?_
         ·
          have hz := outl_z_n H
          dsimp only
          rw [hz]
          refine Weak.sel [0, 1, 2, 3, 4, 5, 6 + 1] rfl rfl ?_ ?_ rfl rfl
          ·
           (repeat' (first | exact trivial | refine And.intro ?_ ?_ | fail)) <;> first | rfl | fail
          ·
           (repeat' (first | exact trivial | refine And.intro ?_ ?_ | (refine wk_cons ?_ ?_))) <;> first | rfl | exact ren_eq (by first | (simp; done) | fail) (by first | rfl | fail) | fail
         ·
          rintro ⟨i, hi⟩
          dsimp only
          by_cases hi8 : i < 8
          ·
           have hlt : decide ((i : Int) < 8) = true := by simp; omega
           have hp := wp1i i (by omega)
           conv => whnf
           first | refine brT (by exact hlt) ?_ | fail
           conv => whnf
           repeat (first | (refine Exists.intro _ (And.intro (sload_u32 (i := i) (by first | rfl | omega | fail) (by first | omega | fail)) ?_); conv => whnf) | (refine Exists.intro _ (And.intro (idx_i (m := i) (by first | rfl | fail)) ?_); conv => whnf) | (refine Exists.intro _ (And.intro rfl ?_); conv => whnf) | (refine And.intro (by first | omega | fail) ?_; conv => whnf) | fail)
           refine loop_rule ttOk mixed (by kernel_rfl) (ι := { m : Nat // m ≤ 4 }) (fun m => [(0, .p 0 0), (12, .sl 6 0 (4 * i + m.1) 1 false), (14, .u32 (H.getD i 0)), (15, .i (3 - (m.1 : Int))), (110, .sl 1 0 8 1 false), (111, .i 8), (112, .i (i : Int))]) (fun m => [some (.ro (mach_n 1 2)), some (.row 23 (H.map .u32)), some (.ro (k.map .u32)), some (.ro (.sl 5 0 b0.length 1 f0 :: ps.map pLit)), some (.ext (.fam (ps.map pFe))), some (.ro (b0.map .u8)), some (.row 5 ((outl_n H (4 * i + m.1)).map .u8))]) (fun _ => 6 + 1) (fun m => 4 - m.1) ⟨0, by omega⟩ ?_ ?_
           ·
            refine Weak.sel [0, 1, 2, 3, 4, 5, 6] rfl rfl ?_ ?_ rfl rfl
            ·
             (repeat' (first | exact trivial | refine And.intro ?_ ?_ | fail)) <;> first | rfl | fail
            ·
             (repeat' (first | exact trivial | refine And.intro ?_ ?_ | (refine wk_cons ?_ ?_))) <;> first | rfl | exact ren_eq (by first | (simp; done) | fail) (by first | rfl | fail) | fail
           ·
            rintro ⟨m, hm⟩
            dsimp only
            have hol := outl_len_n H (4 * i + m)
            by_cases hm4 : m < 4
            ·
             have hge : decide ((3 - (m : Int)) ≥ 0) = true := by simp; omega
             have h8 : w64 (8 * (3 - (m : Int))) = ((8 * (3 - m) : Nat) : Int) := by simp only [w64_eq]; omega
             have hp2 : w64 (3 - (m : Int) - 1) = 3 - ((m + 1 : Nat) : Int) := by simp only [w64_eq]; omega
             have hs := outl_s_n H i m hm4
             obtain ⟨Z, hZ⟩ : ∃ Z, Z = outl_n H (4 * i + m) := ⟨_, rfl⟩
             rw [← hZ] at hol hs ⊢
             have hap4 : (Z ++ [(shr32 (H.getD i 0) (8 * (3 - m))).toUInt8]).map SV.u8 = List.take ((4 * i + m) * 1) (List.drop 0 (Z.map SV.u8)) ++ List.take (1 * 1) (List.drop 0 [SV.u8 (shr32 (H.getD i 0) (8 * (3 - m))).toUInt8]) := (cat8 (o := 0) (n := 4 * i + m) (E := Z) (b := [(shr32 (H.getD i 0) (8 * (3 - m))).toUInt8]) (by omega) rfl).symm
             conv => whnf
             first | refine brT (by exact hge) ?_ | fail
             conv => whnf
             repeat (fail)
             refine ⟨_, mshr_32 h8, ?_⟩
             conv => whnf
             repeat (first | (refine Exists.intro _ (And.intro rfl ?_); conv => whnf) | (refine And.intro (by first | omega | (simp [ti5]; omega)) ?_; conv => whnf) | fail)
             refine ⟨⟨m + 1, by omega⟩, by simp only; omega, ?_⟩
             dsimp only
             rw [hs]
             refine Weak.sel [0, 1, 2, 3, 4, 5, 6 + 2] rfl rfl ?_ ?_ rfl rfl
             ·
              (repeat' (first | exact trivial | refine And.intro ?_ ?_ | fail)) <;> first | exact wk_i (by first | exact hp2 | exact hp2.symm | fail) | rfl | fail
             ·
              (repeat' (first | exact trivial | exact ren_eq (plainL_u8 _) hap4 | refine And.intro ?_ ?_ | (refine wk_cons ?_ ?_))) <;> first | rfl | exact ren_eq (by first | (simp; done) | fail) (by first | rfl | fail) | fail
            ·
             obtain rfl : m = 4 := by omega
             conv => whnf
             first | refine brF (by rfl) ?_ | fail
             conv => whnf
             repeat (fail)
             refine ⟨⟨i + 1, by omega⟩, by simp only; omega, ?_⟩
             dsimp only
             rw [show 4 * (i + 1) = 4 * i + 4 by omega]
             refine Weak.sel [0, 1, 2, 3, 4, 5, 6] rfl rfl ?_ ?_ rfl rfl
             ·
              (repeat' (first | exact trivial | refine And.intro ?_ ?_ | fail)) <;> first | exact wk_i (by first | exact hp | exact hp.symm | fail) | rfl | fail
             ·
              (repeat' (first | exact trivial | refine And.intro ?_ ?_ | (refine wk_cons ?_ ?_))) <;> first | rfl | exact ren_eq (by first | (simp; done) | fail) (by first | rfl | fail) | fail
          ·
           obtain rfl : i = 8 := by omega
           rw [outb_e_n] at hfin
           rw [← hfin]
           conv => whnf
           first | refine brF (by rfl) ?_ | fail
           conv => whnf
           refine ⟨[0, 1, 2, 3, 4, 5, 6], ?_, rfl, rfl, ?_, rfl⟩
           ·
            (repeat' (fail)) <;> first | rfl | fail
           ·
            (repeat' (first | exact trivial | refine And.intro ?_ ?_ | (refine wk_cons ?_ ?_))) <;> first | rfl | exact ren_eq (by first | (simp; done) | fail) (by first | rfl | fail) | fail
end Go.Sh
