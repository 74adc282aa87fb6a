/- Merged for a claim: B11, B12. -/
import Derived.Test.YtaknbogocnkmnaaBq1
set_option linter.unusedSimpArgs false
set_option linter.unusedVariables false
namespace Go.Sh
open Go.Proofs
set_option maxHeartbeats 16000000
theorem mostN (most : Int) : (if (0 : Int) > most then (0 : Int) else most) = ((most.toNat : Nat) : Int) := by split <;> omega
attribute [local irreducible] hvS
theorem f7_m (most : Int) (ds : List Dr) (hmo : most < 9223372036854775808) (hn : ds.length < 1000000000000000) (hT : ∀ d ∈ ds, d.l.length < 1000000000000000) (h5 : hvS ds ds.length ≤ 500) : SCall Try.prog 7 [.i most, .sl 0 0 ds.length 4 false] [some (.ro (drR ds)), some (.ext (.fam (ds.map drF)))] (.b true) [some (.ro (drR ds)), some (.ext (.fam (ds.map drF)))] := by
 have q28 := f28 ds hn hT false
 rw [decide_eq_false (show ¬ 500 < hvS ds ds.length by omega)] at q28
 have qn := f24 most
 rw [mostN] at qn
 have hrl := drR_len ds
 obtain ⟨mo, hmoe⟩ : ∃ mo, mo = most.toNat := ⟨_, rfl⟩
 have hmo2 : mo < 9223372036854775808 := by omega
 refine scall_of ttOk (by kernel_rfl : Try.prog.funcs[7]? = some Try.f7) rfl rfl rfl ?_
 try simp only [List.length_cons, List.length_nil, Nat.zero_add, Nat.reduceAdd]
 refine swxs_ok (J := [7]) ttOk mixed (by kernel_rfl) ?_
 conv => whnf
 repeat (fail)
 refine ok1_callF [] [] true (f21) rfl rfl ⟨⟨rfl, by first | rfl | fail⟩, trivial, by first | rfl | fail, by first | rfl | fail, ?_⟩
 conv => whnf
 repeat (first | (refine brF rfl ?_; conv => whnf) | fail)
 refine ok1_callF [0, 1] [false, false] true (q28) rfl rfl ⟨⟨rfl, by first | rfl | fail⟩, by (repeat' (first | exact trivial | refine And.intro ?_ ?_)) <;> first | rfl | exact ren_eq (by first | (simp; done) | fail) (by first | rfl | fail) | fail, by first | rfl | fail, by first | rfl | fail, ?_⟩
 conv => whnf
 repeat (first | (refine brF rfl ?_; conv => whnf) | fail)
 refine ok1_callF [] [false] false (qn) rfl rfl ⟨⟨rfl, by first | rfl | fail⟩, trivial, by first | rfl | fail, by first | rfl | fail, ?_⟩
 conv => whnf
 repeat (fail)
 refine SWp.weak ((Weak.virtB 3 0 49 1 rfl rfl rfl rfl rfl).trans (Weak.virtB 4 0 49 1 rfl rfl rfl rfl rfl)) ?_
 refine sw_ok ttOk mixed (by kernel_rfl) ?_
 conv => whnf
 repeat (fail)
 refine loop_rulex [23, 24, 45] ttOk mixed (by kernel_rfl) (ι := { x : Nat × List UInt32 // x.1 ≤ ds.length ∧ x.2.length ≤ hvS ds x.1 }) (fun x => [(0, .i most), (4, .p 2 0), (5, .p 3 0), (6, .p 5 0), (27, .sl 0 0 ds.length 4 false), (28, .i (ds.length : Int)), (29, .i (x.1.1 : Int))]) (fun x => [some (.ro (drR ds)), some (.ext (.fam (ds.map drF))), some (.box [.b false]), some (.box [.sl 4 0 x.1.2.length 1 false, .i ((most.toNat : Nat) : Int)]), some (.row 49 (x.1.2.map .u32)), some (.box [.sl 6 0 x.1.2.length 1 false]), some (.row 49 (x.1.2.map .u32))]) (fun _ => 7) (fun x => ds.length - x.1.1) ⟨(0, []), Nat.zero_le _, Nat.zero_le _⟩ ?_ ?_
 ·
  dsimp only
  refine Weak.sel [0, 1, 2, 3, 5, 4, 6] rfl rfl ?_ ?_ rfl rfl
  ·
   (repeat' (first | exact trivial | refine And.intro ?_ ?_ | fail)) <;> first | rfl | fail
  ·
   (repeat' (first | exact trivial | refine And.intro ?_ ?_ | (refine wk_cons ?_ ?_))) <;> first | rfl | exact ren_eq (by first | (simp; done) | fail) (by first | rfl | fail) | fail
 ·
  rintro ⟨⟨i, c⟩, hi, hc⟩
  dsimp only at hi hc ⊢
  by_cases hi2 : i < ds.length
  ·
   obtain ⟨d, hd⟩ : ∃ d, ds[i]? = some d := ⟨_, List.getElem?_eq_getElem hi2⟩
   have hld := sload_dr hd
   have hmem : drF d ∈ ds.map drF := List.mem_map_of_mem (List.mem_of_getElem? hd)
   have hs := hvS_s hd
   have hle := hvS_le ds (i + 1)
   have hlt : decide ((i : Int) < (ds.length : Int)) = true := by simp; omega
   have hp1 : w64 ((i : Int) + 1) = ((i + 1 : Nat) : Int) := by simp only [w64_eq]; omega
   obtain ⟨dk, dn, dv, drb, dl, dx⟩ := d
   dsimp only at hs
   have hld2 : sload true 4 (drR ds) (0 + i * 4) = some (.agg [.u8 dk, .i dn, .lit dv, .u32 dx]) := hld
   obtain ⟨n, hnc⟩ : ∃ n, n = c.length := ⟨_, rfl⟩
   have hcl : (c.map SV.u32).length = n := by simp [hnc]
   rw [← hnc] at hc ⊢
   rw [← hmoe]
   conv => whnf
   first | refine brT (by exact hlt) ?_ | fail
   conv => whnf
   repeat (first | (refine Exists.intro _ (And.intro (sput_all rfl (by first | rfl | fail)) ?_); conv => whnf) | (refine Exists.intro _ (And.intro (hld2) ?_); conv => whnf) | (refine Exists.intro _ (And.intro rfl ?_); conv => whnf) | (refine And.intro (by first | omega | (simp; done) | fail) ?_; conv => whnf) | fail)
   by_cases hd0 : dn < 0
   ·
    have t1 : decide (dn ≥ 0) = false := by simp; omega
    by_cases k0 : dk = 0
    ·
     have w0 : (dk == UInt8.ofNat (Int.toNat 0)) = true := by rw [k0]; rfl
     obtain ⟨k, hk⟩ : ∃ k, k = min dl.length (most.toNat - n) := ⟨_, rfl⟩
     have qp := f25 c dl n dl.length mo k hnc rfl (by omega) (by omega) hmo2 (by rw [hmoe]; exact hk) false false
     have kk : ((k : Int) == (k : Int)) = true := by simp
     have kk2 : (!((k : Int) == (k : Int))) = false := by simp
     by_cases hk0 : k = 0
     ·
      have qr := f29_0 c dl n dl.length most hnc rfl (by omega) (by omega) (by omega) false false
      subst hk0
      rw [Nat.add_zero, List.take_zero, List.append_nil] at qp
      repeat (first | (refine gdF t1 ?_; conv => whnf) | (refine pkF t1 ?_; conv => whnf) | (refine gdT w0 ?_; conv => whnf) | (refine Exists.intro _ (And.intro rfl ?_); conv => whnf) | (refine And.intro ⟨rfl, Nat.le_of_ble_eq_true rfl⟩ ?_; conv => whnf) | fail)
      refine swp_sops rfl ?_
      refine sops_pre (pre := [_, _, _, _]) ttOk (by kernel_rfl) ?_
      conv => whnf
      repeat (first | (refine Exists.intro _ (And.intro rfl ?_); conv => whnf) | fail)
      refine sops_focus 86 1 rfl hmem rfl ?_
      refine sops_end ttOk (by kernel_rfl) ?_
      conv => whnf
      refine ok1_callF [6, 9] [true, true] false (qr) rfl rfl ⟨⟨rfl, by first | rfl | fail⟩, by (repeat' (first | exact trivial | refine And.intro ?_ ?_)) <;> first | exact ren_eq (by first | (simp; done) | fail) (by first | rfl | fail) | fail, by first | simp [plainHf, plainB], by first | rfl | fail, ?_⟩
      conv => whnf
      repeat (fail)
      refine swp_sops rfl ?_
      refine sops_pre (pre := [_, _, _, _]) ttOk (by kernel_rfl) ?_
      conv => whnf
      repeat (first | (refine Exists.intro _ (And.intro rfl ?_); conv => whnf) | fail)
      refine sops_focus 93 1 rfl hmem rfl ?_
      refine sops_end ttOk (by kernel_rfl) ?_
      conv => whnf
      refine ok1_callF [3, 4, 10] [false, true, true, true] true (qp) rfl rfl ⟨⟨rfl, by first | rfl | fail⟩, by (repeat' (first | exact trivial | refine And.intro ?_ ?_)) <;> first | rfl | exact ren_eq (by first | (simp; done) | fail) (by first | rfl | fail) | fail, by first | simp [plainHf, plainB], by first | rfl | fail, ?_⟩
      conv => whnf
      repeat (first | (refine gdT rfl ?_; conv => whnf) | (refine Exists.intro _ (And.intro rfl ?_); conv => whnf) | (refine And.intro ⟨rfl, Nat.le_of_ble_eq_true rfl⟩ ?_; conv => whnf) | fail)
      have hCN : n = (c).length := hnc
      have qf := f26 (c) (n) mo hCN false
      have nn : (((n : Nat) : Int) != ((n : Nat) : Int)) = false := by simp
      refine ok1_callF [3, 11] [false, true] true (qf) rfl rfl ⟨⟨rfl, by first | rfl | fail⟩, by (repeat' (first | exact trivial | refine And.intro ?_ ?_)) <;> first | rfl | exact ren_eq (by first | (simp; done) | fail) (by first | rfl | fail) | fail, by first | simp [plainHf, plainB], by first | rfl | fail, ?_⟩
      conv => whnf
      repeat (first | (refine gdT rfl ?_; conv => whnf) | (refine gdF nn ?_; conv => whnf) | (refine Exists.intro _ (And.intro rfl ?_); conv => whnf) | (refine And.intro (by kernel_rfl) ?_; conv => whnf) | fail)
      refine ⟨⟨(i + 1, c), by omega, by simp only; rw [← hCN, hs]; omega⟩, by simp only; omega, ?_⟩
      dsimp only
      rw [← hCN]
      refine Weak.sel [0, 1, 2, 3, 11, 5, 6] rfl rfl ?_ ?_ rfl rfl
      ·
       (repeat' (first | exact trivial | refine And.intro ?_ ?_ | fail)) <;> first | exact wk_i (by first | exact hp1 | exact hp1.symm | fail) | rfl | fail
      ·
       (repeat' (first | exact trivial | refine And.intro ?_ ?_ | (refine wk_cons ?_ ?_))) <;> first | rfl | exact ren_eq (by first | (simp; done) | fail) (by first | rfl | fail) | fail
     ·
      have qr := f29_s c dl n dl.length k most hnc rfl (by omega) (by omega) hk (by omega) false false
      have hcn : n + k = (c ++ dl.take k).length := by rw [List.length_append, List.length_take]; omega
      obtain ⟨C, hC⟩ : ∃ C, C = c ++ dl.take k := ⟨_, rfl⟩
      rw [← hC] at qp qr hcn
      repeat (first | (refine gdF t1 ?_; conv => whnf) | (refine pkF t1 ?_; conv => whnf) | (refine gdT w0 ?_; conv => whnf) | (refine Exists.intro _ (And.intro rfl ?_); conv => whnf) | (refine And.intro ⟨rfl, Nat.le_of_ble_eq_true rfl⟩ ?_; conv => whnf) | fail)
      refine swp_sops rfl ?_
      refine sops_pre (pre := [_, _, _, _]) ttOk (by kernel_rfl) ?_
      conv => whnf
      repeat (first | (refine Exists.intro _ (And.intro rfl ?_); conv => whnf) | fail)
      refine sops_focus 86 1 rfl hmem rfl ?_
      refine sops_end ttOk (by kernel_rfl) ?_
      conv => whnf
      refine ok1_callF [6, 9] [true, true, true] false (qr) rfl rfl ⟨⟨rfl, by first | rfl | fail⟩, by (repeat' (first | exact trivial | refine And.intro ?_ ?_)) <;> first | exact ren_eq (by first | (simp; done) | fail) (by first | rfl | fail) | fail, by first | simp [plainHf, plainB], by first | rfl | fail, ?_⟩
      conv => whnf
      repeat (fail)
      refine swp_sops rfl ?_
      refine sops_pre (pre := [_, _, _, _]) ttOk (by kernel_rfl) ?_
      conv => whnf
      repeat (first | (refine Exists.intro _ (And.intro rfl ?_); conv => whnf) | fail)
      refine sops_focus 93 1 rfl hmem rfl ?_
      refine sops_end ttOk (by kernel_rfl) ?_
      conv => whnf
      refine ok1_callF [3, 4, 11] [false, true, true, true] true (qp) rfl rfl ⟨⟨rfl, by first | rfl | fail⟩, by (repeat' (first | exact trivial | refine And.intro ?_ ?_)) <;> first | rfl | exact ren_eq (by first | (simp; done) | fail) (by first | rfl | fail) | fail, by first | simp [plainHf, plainB], by first | rfl | fail, ?_⟩
      conv => whnf
      repeat (first | (refine gdT kk2 ?_; conv => whnf) | (refine Exists.intro _ (And.intro rfl ?_); conv => whnf) | (refine And.intro ⟨rfl, Nat.le_of_ble_eq_true rfl⟩ ?_; conv => whnf) | fail)
      have hCN : n + k = (C).length := hcn
      have qf := f26 (C) (n + k) mo hCN false
      have nn : (((n + k : Nat) : Int) != ((n + k : Nat) : Int)) = false := by simp
      refine ok1_callF [3, 12] [false, true] true (qf) rfl rfl ⟨⟨rfl, by first | rfl | fail⟩, by (repeat' (first | exact trivial | refine And.intro ?_ ?_)) <;> first | rfl | exact ren_eq (by first | (simp; done) | fail) (by first | rfl | fail) | fail, by first | simp [plainHf, plainB], by first | rfl | fail, ?_⟩
      conv => whnf
      repeat (first | (refine gdF nn ?_; conv => whnf) | (refine Exists.intro _ (And.intro rfl ?_); conv => whnf) | (refine gdT (by first | (simp; done) | fail) ?_; conv => whnf) | (refine pkF (by first | (simp; done) | fail) ?_; conv => whnf) | (refine And.intro (by kernel_rfl) ?_; conv => whnf) | fail)
      refine ⟨⟨(i + 1, C), by omega, by simp only; rw [← hCN, hs]; omega⟩, by simp only; omega, ?_⟩
      dsimp only
      rw [← hCN]
      refine Weak.sel [0, 1, 2, 3, 12, 5, 10] rfl rfl ?_ ?_ rfl rfl
      ·
       (repeat' (first | exact trivial | refine And.intro ?_ ?_ | fail)) <;> first | exact wk_i (by first | exact hp1 | exact hp1.symm | fail) | rfl | fail
      ·
       (repeat' (first | exact trivial | refine And.intro ?_ ?_ | (refine wk_cons ?_ ?_))) <;> first | rfl | exact ren_eq (by first | (simp; done) | fail) (by first | rfl | fail) | fail
    have w0 : (dk == UInt8.ofNat (Int.toNat 0)) = false := by rw [beq_eq_false_iff_ne]; exact k0
    by_cases k1 : dk = 1
    ·
     have w1 : (dk == UInt8.ofNat (Int.toNat 1)) = true := by rw [k1]; rfl
     have q := f27_n c n mo dn hnc (.inl hd0) false
     repeat (first | (refine gdF t1 ?_; conv => whnf) | (refine pkF t1 ?_; conv => whnf) | (refine gdF w0 ?_; conv => whnf) | (refine gdT w1 ?_; conv => whnf) | (refine Exists.intro _ (And.intro rfl ?_); conv => whnf) | (refine And.intro ⟨rfl, Nat.le_of_ble_eq_true rfl⟩ ?_; conv => whnf) | fail)
     refine ok1_callF [3, 4] [false, true] true (q) rfl rfl ⟨⟨rfl, by first | rfl | fail⟩, by (repeat' (first | exact trivial | refine And.intro ?_ ?_)) <;> first | rfl | exact ren_eq (by first | (simp; done) | fail) (by first | rfl | fail) | fail, by first | simp [plainHf, plainB], by first | rfl | fail, ?_⟩
     conv => whnf
     repeat (first | (refine brT rfl ?_; conv => whnf) | (refine gdT rfl ?_; conv => whnf) | (refine Exists.intro _ (And.intro rfl ?_); conv => whnf) | fail)
     have hCN : n = (c).length := hnc
     have qf := f26 (c) (n) mo hCN false
     have nn : (((n : Nat) : Int) != ((n : Nat) : Int)) = false := by simp
     refine ok1_callF [3, 4] [false, true] true (qf) rfl rfl ⟨⟨rfl, by first | rfl | fail⟩, by (repeat' (first | exact trivial | refine And.intro ?_ ?_)) <;> first | rfl | exact ren_eq (by first | (simp; done) | fail) (by first | rfl | fail) | fail, by first | simp [plainHf, plainB], by first | rfl | fail, ?_⟩
     conv => whnf
     repeat (first | (refine gdT rfl ?_; conv => whnf) | (refine gdF nn ?_; conv => whnf) | (refine Exists.intro _ (And.intro rfl ?_); conv => whnf) | (refine And.intro (by kernel_rfl) ?_; conv => whnf) | fail)
     refine ⟨⟨(i + 1, c), by omega, by simp only; rw [← hCN, hs]; omega⟩, by simp only; omega, ?_⟩
     dsimp only
     rw [← hCN]
     refine Weak.sel [0, 1, 2, 3, 4, 5, 6] rfl rfl ?_ ?_ rfl rfl
     ·
      (repeat' (first | exact trivial | refine And.intro ?_ ?_ | fail)) <;> first | exact wk_i (by first | exact hp1 | exact hp1.symm | fail) | rfl | fail
     ·
      (repeat' (first | exact trivial | refine And.intro ?_ ?_ | (refine wk_cons ?_ ?_))) <;> first | rfl | exact ren_eq (by first | (simp; done) | fail) (by first | rfl | fail) | fail
    have w1 : (dk == UInt8.ofNat (Int.toNat 1)) = false := by rw [beq_eq_false_iff_ne]; exact k1
    by_cases k2 : dk = 2
    ·
     have w2 : (dk == UInt8.ofNat (Int.toNat 2)) = true := by rw [k2]; rfl
     have q := f31_n c n mo dn hnc (.inl hd0) false
     repeat (first | (refine gdF t1 ?_; conv => whnf) | (refine pkF t1 ?_; conv => whnf) | (refine gdF w0 ?_; conv => whnf) | (refine gdF w1 ?_; conv => whnf) | (refine gdT w2 ?_; conv => whnf) | (refine Exists.intro _ (And.intro rfl ?_); conv => whnf) | (refine And.intro ⟨rfl, Nat.le_of_ble_eq_true rfl⟩ ?_; conv => whnf) | fail)
     refine ok1_callF [3, 4] [false, true] true (q) rfl rfl ⟨⟨rfl, by first | rfl | fail⟩, by (repeat' (first | exact trivial | refine And.intro ?_ ?_)) <;> first | rfl | exact ren_eq (by first | (simp; done) | fail) (by first | rfl | fail) | fail, by first | simp [plainHf, plainB], by first | rfl | fail, ?_⟩
     conv => whnf
     repeat (first | (refine brT rfl ?_; conv => whnf) | (refine gdT rfl ?_; conv => whnf) | (refine Exists.intro _ (And.intro rfl ?_); conv => whnf) | fail)
     have hCN : n = (c).length := hnc
     have qf := f26 (c) (n) mo hCN false
     have nn : (((n : Nat) : Int) != ((n : Nat) : Int)) = false := by simp
     refine ok1_callF [3, 4] [false, true] true (qf) rfl rfl ⟨⟨rfl, by first | rfl | fail⟩, by (repeat' (first | exact trivial | refine And.intro ?_ ?_)) <;> first | rfl | exact ren_eq (by first | (simp; done) | fail) (by first | rfl | fail) | fail, by first | simp [plainHf, plainB], by first | rfl | fail, ?_⟩
     conv => whnf
     repeat (first | (refine gdT rfl ?_; conv => whnf) | (refine gdF nn ?_; conv => whnf) | (refine Exists.intro _ (And.intro rfl ?_); conv => whnf) | (refine And.intro (by kernel_rfl) ?_; conv => whnf) | fail)
     refine ⟨⟨(i + 1, c), by omega, by simp only; rw [← hCN, hs]; omega⟩, by simp only; omega, ?_⟩
     dsimp only
     rw [← hCN]
     refine Weak.sel [0, 1, 2, 3, 4, 5, 6] rfl rfl ?_ ?_ rfl rfl
     ·
      (repeat' (first | exact trivial | refine And.intro ?_ ?_ | fail)) <;> first | exact wk_i (by first | exact hp1 | exact hp1.symm | fail) | rfl | fail
     ·
      (repeat' (first | exact trivial | refine And.intro ?_ ?_ | (refine wk_cons ?_ ?_))) <;> first | rfl | exact ren_eq (by first | (simp; done) | fail) (by first | rfl | fail) | fail
    have w2 : (dk == UInt8.ofNat (Int.toNat 2)) = false := by rw [beq_eq_false_iff_ne]; exact k2
    by_cases k3 : dk = 3
    ·
     have w3 : (dk == UInt8.ofNat (Int.toNat 3)) = true := by rw [k3]; rfl
     have q := f32_x c n mo dn hnc (.inl hd0) dk dv dx false false false false
     repeat (first | (refine gdF t1 ?_; conv => whnf) | (refine pkF t1 ?_; conv => whnf) | (refine gdF w0 ?_; conv => whnf) | (refine gdF w1 ?_; conv => whnf) | (refine gdF w2 ?_; conv => whnf) | (refine gdT w3 ?_; conv => whnf) | (refine Exists.intro _ (And.intro rfl ?_); conv => whnf) | (refine And.intro ⟨rfl, Nat.le_of_ble_eq_true rfl⟩ ?_; conv => whnf) | fail)
     refine ok1_callF [3, 4, 8, 5, 6, 7, 9] [false, true, true, false, true, false, true] true (q) rfl rfl ⟨⟨rfl, by first | rfl | fail⟩, by (repeat' (first | exact trivial | refine And.intro ?_ ?_)) <;> first | rfl | exact ren_eq (by first | (simp; done) | fail) (by first | rfl | fail) | fail, by first | simp [plainHf, plainB], by first | rfl | fail, ?_⟩
     conv => whnf
     repeat (first | (refine brT rfl ?_; conv => whnf) | (refine brF rfl ?_; conv => whnf) | (refine gdT rfl ?_; conv => whnf) | (refine Exists.intro _ (And.intro rfl ?_); conv => whnf) | (refine And.intro (by kernel_rfl) ?_; conv => whnf) | fail)
     have hCN : n = (c).length := hnc
     have qf := f26 (c) (n) mo hCN false
     have nn : (((n : Nat) : Int) != ((n : Nat) : Int)) = false := by simp
     refine ok1_callF [3, 4] [false, true] true (qf) rfl rfl ⟨⟨rfl, by first | rfl | fail⟩, by (repeat' (first | exact trivial | refine And.intro ?_ ?_)) <;> first | rfl | exact ren_eq (by first | (simp; done) | fail) (by first | rfl | fail) | fail, by first | simp [plainHf, plainB], by first | rfl | fail, ?_⟩
     conv => whnf
     repeat (first | (refine gdT rfl ?_; conv => whnf) | (refine gdF nn ?_; conv => whnf) | (refine Exists.intro _ (And.intro rfl ?_); conv => whnf) | (refine And.intro (by kernel_rfl) ?_; conv => whnf) | fail)
     refine ⟨⟨(i + 1, c), by omega, by simp only; rw [← hCN, hs]; omega⟩, by simp only; omega, ?_⟩
     dsimp only
     rw [← hCN]
     refine Weak.sel [0, 1, 2, 3, 4, 5, 6] rfl rfl ?_ ?_ rfl rfl
     ·
      (repeat' (first | exact trivial | refine And.intro ?_ ?_ | fail)) <;> first | exact wk_i (by first | exact hp1 | exact hp1.symm | fail) | rfl | fail
     ·
      (repeat' (first | exact trivial | refine And.intro ?_ ?_ | (refine wk_cons ?_ ?_))) <;> first | rfl | exact ren_eq (by first | (simp; done) | fail) (by first | rfl | fail) | fail
    have w3 : (dk == UInt8.ofNat (Int.toNat 3)) = false := by rw [beq_eq_false_iff_ne]; exact k3
    have q34 := f34 c n mo false
    have hjj : ∀ j : Nat, (((j : Nat) : Int) != ((j : Nat) : Int)) = false := fun j => by simp
    have hcc : ∀ x : UInt32, (x != x) = false := fun x => by simp
    repeat (first | (refine gdF t1 ?_; conv => whnf) | (refine pkF t1 ?_; conv => whnf) | (refine gdF w0 ?_; conv => whnf) | (refine gdF w1 ?_; conv => whnf) | (refine gdF w2 ?_; conv => whnf) | (refine gdF w3 ?_; conv => whnf) | (refine Exists.intro _ (And.intro rfl ?_); conv => whnf) | (refine And.intro (by first | omega | (simp; done) | fail) ?_; conv => whnf) | (refine And.intro ⟨rfl, Nat.le_of_ble_eq_true rfl⟩ ?_; conv => whnf) | fail)
    refine ok1_callF [3, 4] [false, true, false] false (q34) rfl rfl ⟨⟨rfl, by first | rfl | fail⟩, by (repeat' (first | exact trivial | refine And.intro ?_ ?_)) <;> first | rfl | exact ren_eq (by first | (simp; done) | fail) (by first | rfl | fail) | fail, by first | simp [plainHf, plainB], by first | rfl | fail, ?_⟩
    conv => whnf
    repeat (fail)
    refine SWp.weak (R0 := [(0, .i most), (4, .p 2 0), (5, .p 3 0), (6, .p 5 0), (8, .p 7 0), (18, .p 8 0), (27, .sl 0 0 ds.length 4 false), (28, .i (ds.length : Int)), (29, .i (i : Int)), (46, .fn 74 [.p 9 0])]) (H0 := [some (.ro (drR ds)), some (.ext (.fam (ds.map drF))), some (.box [.b false]), some (.box [.sl 4 0 n 1 false, .i (mo : Int)]), some (.row 49 (c.map .u32)), some (.box [.sl 6 0 n 1 false]), some (.row 49 (c.map .u32)), some (.box [.u8 dk, .i dn, .lit dv, .u32 dx]), some (.box [.i 0]), some (.box [.p 3 0])]) (L0 := 10) ?_ ?_
    ·
     refine Weak.sel [0, 1, 2, 3, 4, 5, 6, 7, 9, 10] rfl rfl ?_ ?_ rfl rfl
     ·
      (repeat' (first | exact trivial | refine And.intro ?_ ?_ | fail)) <;> first | rfl | fail
     ·
      (repeat' (first | exact trivial | refine And.intro ?_ ?_ | (refine wk_cons ?_ ?_))) <;> first | rfl | exact ren_eq (by first | (simp; done) | fail) (by first | rfl | fail) | fail
    refine range_named rfl rfl rfl (by kernel_rfl : Try.prog.funcs[74]? = some Try.f74) rfl rfl rfl rfl ?_
    intro asq bdq hasq hbdq
    refine sw_ok ttOk mixed (by kernel_rfl) ?_
    conv => whnf
    repeat (first | (refine brF rfl ?_; conv => whnf) | (refine Exists.intro _ (And.intro rfl ?_); conv => whnf) | (refine And.intro (by kernel_rfl) ?_; conv => whnf) | fail)
    refine loop_rule ttOk mixed (by kernel_rfl) (ι := { j : Nat // j ≤ n ∧ (j = 0 ∨ (j : Int) < dn) }) (fun j => [(0, .yld 10), (10, .sl 4 0 n 1 false), (11, .i (n : Int)), (12, .i (j.1 : Int))]) (fun j => [some (.ro (drR ds)), some (.ext (.fam (ds.map drF))), some (.box [.b false]), some (.box [.sl 4 0 n 1 false, .i (mo : Int)]), some (.row 49 (c.map .u32)), some (.box [.sl 6 0 n 1 false]), some (.row 49 (c.map .u32)), some (.box [.u8 dk, .i dn, .lit dv, .u32 dx]), some (.box [.i (j.1 : Int)]), some (.box [.p 3 0]), some (.obj (.loop [(6, .p 5 0), (8, .p 7 0), (18, .p 8 0)] Try.f7.ntmps [47, 48] asq bdq))]) (fun _ => 11) (fun j => n - j.1) ⟨0, by omega, .inl rfl⟩ ?_ ?_
    ·
     dsimp only
     refine Weak.sel [0, 1, 2, 3, 4, 5, 6, 7, 8, 9, 10] rfl rfl ?_ ?_ rfl rfl
     ·
      (repeat' (first | exact trivial | refine And.intro ?_ ?_ | fail)) <;> first | rfl | fail
     ·
      (repeat' (first | exact trivial | refine And.intro ?_ ?_ | (refine wk_cons ?_ ?_))) <;> first | rfl | exact ren_eq (by first | (simp; done) | fail) (by first | rfl | fail) | fail
    ·
     rintro ⟨j, hj, hjd⟩
     dsimp only at hj hjd ⊢
     have hpj := wpB j (by omega)
     by_cases hjn : j < n
     ·
      have hlt : decide ((j : Int) < (n : Int)) = true := by simp; omega
      have hgn : decide ((j : Int) ≥ (n : Int)) = false := by simp; omega
      have hj1 := hjj j
      have hc1 := hcc (c.getD j 0)
      conv => whnf
      first | refine brT (by exact hlt) ?_ | fail
      conv => whnf
      repeat (first | (refine Exists.intro _ (And.intro (sload_u32 (i := j) (by first | rfl | omega | fail) (by first | omega | fail)) ?_); conv => whnf) | (refine Exists.intro _ (And.intro (idx_i (m := j) (by first | rfl | fail)) ?_); conv => whnf) | (refine And.intro (by first | omega | fail) ?_; conv => whnf) | fail)
      by_cases hbr : ((j : Int) + 1) < dn
      ·
       have hge : decide (w64 ((j : Int) + 1) ≥ dn) = false := by rw [hpj]; simp; omega
       refine ok1_yield 10 [5, 6, 7, 8] [false, false, true, false, true] (syield_of (ps := [47, 48]) (N := Try.f7.ntmps) (R0 := [(6, .p 1 0), (8, .p 3 0), (18, .p 4 0)]) (args0 := [.i (j : Int), .u32 (c.getD j 0)]) (ex := .normal) (H0t := [some (.box [.sl 2 0 n 1 false]), some (.row 49 (c.map .u32)), some (.box [.u8 dk, .i dn, .lit dv, .u32 dx]), some (.box [.i (j : Int)])]) (H1t := [some (.box [.sl 2 0 n 1 false]), some (.row 49 (c.map .u32)), some (.box [.u8 dk, .i dn, .lit dv, .u32 dx]), some (.box [.i ((j + 1 : Nat) : Int)])]) (.inl rfl) rfl rfl rfl ?_) rfl rfl ⟨⟨rfl, by first | rfl | fail⟩, by (repeat' (first | exact trivial | refine And.intro ?_ ?_)) <;> first | rfl | exact ren_eq (by first | (simp; done) | fail) (by first | rfl | fail), by first | (simp [plainHf, plainB]; done) | fail, ?_⟩
       ·
        subst hasq
        subst hbdq
        refine sw_ok ttOk mixed (by kernel_rfl) ?_
        conv => whnf
        repeat (first | (refine And.intro (by first | omega | fail) ?_; conv => whnf) | fail)
        refine sw_ok ttOk mixed (by kernel_rfl) ?_
        conv => whnf
        repeat (first | (refine gdT hj1 ?_; conv => whnf) | (refine pkF hj1 ?_; conv => whnf) | (refine gdT hgn ?_; conv => whnf) | (refine pkF hgn ?_; conv => whnf) | (refine gdF hc1 ?_; conv => whnf) | (refine gdF hge ?_; conv => whnf) | (refine Exists.intro _ (And.intro (sload_u32 (i := j) (by first | rfl | omega | fail) (by first | omega | fail)) ?_); conv => whnf) | (refine Exists.intro _ (And.intro (idx_i (m := j) (by first | rfl | fail)) ?_); conv => whnf) | (refine Exists.intro _ (And.intro rfl ?_); conv => whnf) | (refine And.intro (by first | omega | fail) ?_; conv => whnf) | fail)
        rw [hpj]
        exact ⟨[0, 1, 2, 3, 4], rfl, rfl, by (repeat' (first | exact trivial | refine And.intro ?_ ?_)) <;> first | rfl | exact ren_eq (by first | (simp; done) | fail) (by first | rfl | fail) | fail, rfl⟩
       ·
        conv => whnf
        repeat (first | (refine brF rfl ?_; conv => whnf) | fail)
        refine ⟨⟨j + 1, by omega, .inr (by omega)⟩, by simp only; omega, ?_⟩
        dsimp only
        refine Weak.sel [0, 1, 2, 3, 4, 5, 6, 7, 8, 9, 10] rfl rfl ?_ ?_ rfl rfl
        ·
         (repeat' (first | exact trivial | refine And.intro ?_ ?_ | fail)) <;> first | exact wk_i (by first | exact hpj | exact hpj.symm | fail) | rfl | fail
        ·
         (repeat' (first | exact trivial | refine And.intro ?_ ?_ | (refine wk_cons ?_ ?_))) <;> first | rfl | exact ren_eq (by first | (simp; done) | fail) (by first | rfl | fail) | fail
      ·
       have hge : decide (w64 ((j : Int) + 1) ≥ dn) = true := by rw [hpj]; simp; omega
       have hq : (((j + 1 : Nat) : Int) == (if (if (1 : Int) > dn then 1 else dn) < (n : Int) then (if (1 : Int) > dn then 1 else dn) else (n : Int))) = true := by
        by_cases h1 : (1 : Int) > dn
        ·
         simp only [if_pos h1, beq_iff_eq]; split <;> omega
        ·
         simp only [if_neg h1, beq_iff_eq]; split <;> omega
       have hq2 : (!(((j + 1 : Nat) : Int) == (if (if (1 : Int) > dn then 1 else dn) < (n : Int) then (if (1 : Int) > dn then 1 else dn) else (n : Int)))) = false := by rw [hq]; rfl
       refine ok1_yield 10 [5, 6, 7, 8] [false, false, true, false, true] (syield_of (ps := [47, 48]) (N := Try.f7.ntmps) (R0 := [(6, .p 1 0), (8, .p 3 0), (18, .p 4 0)]) (args0 := [.i (j : Int), .u32 (c.getD j 0)]) (ex := .exit 3) (H0t := [some (.box [.sl 2 0 n 1 false]), some (.row 49 (c.map .u32)), some (.box [.u8 dk, .i dn, .lit dv, .u32 dx]), some (.box [.i (j : Int)])]) (H1t := [some (.box [.sl 2 0 n 1 false]), some (.row 49 (c.map .u32)), some (.box [.u8 dk, .i dn, .lit dv, .u32 dx]), some (.box [.i ((j + 1 : Nat) : Int)])]) (.inr (.inr ⟨3, rfl⟩)) rfl rfl rfl ?_) rfl rfl ⟨⟨rfl, by first | rfl | fail⟩, by (repeat' (first | exact trivial | refine And.intro ?_ ?_)) <;> first | rfl | exact ren_eq (by first | (simp; done) | fail) (by first | rfl | fail), by first | (simp [plainHf, plainB]; done) | fail, ?_⟩
       ·
        subst hasq
        subst hbdq
        refine sw_ok ttOk mixed (by kernel_rfl) ?_
        conv => whnf
        repeat (first | (refine And.intro (by first | omega | (simp; done) | fail) ?_; conv => whnf) | (refine And.intro (by kernel_rfl) ?_; conv => whnf) | fail)
        refine sw_ok ttOk mixed (by kernel_rfl) ?_
        conv => whnf
        repeat (first | (refine gdT hj1 ?_; conv => whnf) | (refine pkF hj1 ?_; conv => whnf) | (refine gdT hgn ?_; conv => whnf) | (refine pkF hgn ?_; conv => whnf) | (refine gdF hc1 ?_; conv => whnf) | (refine gdT hge ?_; conv => whnf) | (refine Exists.intro _ (And.intro (sload_u32 (i := j) (by first | rfl | omega | fail) (by first | omega | fail)) ?_); conv => whnf) | (refine Exists.intro _ (And.intro (idx_i (m := j) (by first | rfl | fail)) ?_); conv => whnf) | (refine Exists.intro _ (And.intro rfl ?_); conv => whnf) | (refine And.intro (by first | omega | (simp; done) | fail) ?_; conv => whnf) | (refine And.intro (by kernel_rfl) ?_; conv => whnf) | fail)
        rw [hpj]
        exact ⟨[0, 1, 2, 3, 4], rfl, rfl, by (repeat' (first | exact trivial | refine And.intro ?_ ?_)) <;> first | rfl | exact ren_eq (by first | (simp; done) | fail) (by first | rfl | fail) | fail, rfl⟩
       ·
        conv => whnf
        repeat (first | (refine brT rfl ?_; conv => whnf) | (refine gdT hq2 ?_; conv => whnf) | (refine Exists.intro _ (And.intro rfl ?_); conv => whnf) | fail)
        have hCN : n = (c).length := hnc
        have qf := f26 (c) (n) mo hCN false
        have nn : (((n : Nat) : Int) != ((n : Nat) : Int)) = false := by simp
        refine ok1_callF [3, 4] [false, true] true (qf) rfl rfl ⟨⟨rfl, by first | rfl | fail⟩, by (repeat' (first | exact trivial | refine And.intro ?_ ?_)) <;> first | rfl | exact ren_eq (by first | (simp; done) | fail) (by first | rfl | fail) | fail, by first | simp [plainHf, plainB], by first | rfl | fail, ?_⟩
        conv => whnf
        repeat (first | (refine gdF nn ?_; conv => whnf) | (refine gdT hq2 ?_; conv => whnf) | (refine pkF hq2 ?_; conv => whnf) | (refine Exists.intro _ (And.intro rfl ?_); conv => whnf) | (refine And.intro (by kernel_rfl) ?_; conv => whnf) | fail)
        refine ⟨⟨(i + 1, c), by omega, by simp only; rw [← hCN, hs]; omega⟩, by simp only; omega, ?_⟩
        dsimp only
        rw [← hCN]
        refine Weak.sel [0, 1, 2, 3, 4, 5, 6] rfl rfl ?_ ?_ rfl rfl
        ·
         (repeat' (first | exact trivial | refine And.intro ?_ ?_ | fail)) <;> first | exact wk_i (by first | exact hp1 | exact hp1.symm | fail) | rfl | fail
        ·
         (repeat' (first | exact trivial | refine And.intro ?_ ?_ | (refine wk_cons ?_ ?_))) <;> first | rfl | exact ren_eq (by first | (simp; done) | fail) (by first | rfl | fail) | fail
     ·
      obtain rfl : n = j := by omega
      have hlt : decide ((n : Int) < (n : Int)) = false := by simp
      have hq : (((n : Nat) : Int) == (if (if (1 : Int) > dn then 1 else dn) < (n : Int) then (if (1 : Int) > dn then 1 else dn) else (n : Int))) = true := by
       by_cases h1 : (1 : Int) > dn
       ·
        simp only [if_pos h1, beq_iff_eq]; split <;> omega
       ·
        simp only [if_neg h1, beq_iff_eq]; split <;> omega
      have hq2 : (!(((n : Nat) : Int) == (if (if (1 : Int) > dn then 1 else dn) < (n : Int) then (if (1 : Int) > dn then 1 else dn) else (n : Int)))) = false := by rw [hq]; rfl
      conv => whnf
      first | refine brF (by exact hlt) ?_ | fail
      conv => whnf
      repeat (first | (refine gdT hq2 ?_; conv => whnf) | (refine Exists.intro _ (And.intro rfl ?_); conv => whnf) | fail)
      have hCN : n = (c).length := hnc
      have qf := f26 (c) (n) mo hCN false
      have nn : (((n : Nat) : Int) != ((n : Nat) : Int)) = false := by simp
      refine ok1_callF [3, 4] [false, true] true (qf) rfl rfl ⟨⟨rfl, by first | rfl | fail⟩, by (repeat' (first | exact trivial | refine And.intro ?_ ?_)) <;> first | rfl | exact ren_eq (by first | (simp; done) | fail) (by first | rfl | fail) | fail, by first | simp [plainHf, plainB], by first | rfl | fail, ?_⟩
      conv => whnf
      repeat (first | (refine gdF nn ?_; conv => whnf) | (refine gdT hq2 ?_; conv => whnf) | (refine pkF hq2 ?_; conv => whnf) | (refine Exists.intro _ (And.intro rfl ?_); conv => whnf) | (refine And.intro (by kernel_rfl) ?_; conv => whnf) | fail)
      refine ⟨⟨(i + 1, c), by omega, by simp only; rw [← hCN, hs]; omega⟩, by simp only; omega, ?_⟩
      dsimp only
      rw [← hCN]
      refine Weak.sel [0, 1, 2, 3, 4, 5, 6] rfl rfl ?_ ?_ rfl rfl
      ·
       (repeat' (first | exact trivial | refine And.intro ?_ ?_ | fail)) <;> first | exact wk_i (by first | exact hp1 | exact hp1.symm | fail) | rfl | fail
      ·
       (repeat' (first | exact trivial | refine And.intro ?_ ?_ | (refine wk_cons ?_ ?_))) <;> first | rfl | exact ren_eq (by first | (simp; done) | fail) (by first | rfl | fail) | fail
   have t1 : decide (dn ≥ 0) = true := by simp; omega
   by_cases hd1 : (n : Int) ≤ dn
   ·
    have t2 : decide (dn < (n : Int)) = false := by simp; omega
    have t3 : (!decide (dn < (n : Int))) = true := by rw [t2]; rfl
    have t4 : (false == decide (dn < (n : Int))) = true := by rw [t2]; rfl
    have t5 : (((4 : Int) == 0) == decide (dn < (n : Int))) = true := by rw [t2]; rfl
    by_cases k0 : dk = 0
    ·
     have w0 : (dk == UInt8.ofNat (Int.toNat 0)) = true := by rw [k0]; rfl
     obtain ⟨k, hk⟩ : ∃ k, k = min dl.length (most.toNat - n) := ⟨_, rfl⟩
     have qp := f25 c dl n dl.length mo k hnc rfl (by omega) (by omega) hmo2 (by rw [hmoe]; exact hk) false false
     have kk : ((k : Int) == (k : Int)) = true := by simp
     have kk2 : (!((k : Int) == (k : Int))) = false := by simp
     by_cases hk0 : k = 0
     ·
      have qr := f29_0 c dl n dl.length most hnc rfl (by omega) (by omega) (by omega) false false
      subst hk0
      rw [Nat.add_zero, List.take_zero, List.append_nil] at qp
      repeat (first | (refine gdT t1 ?_; conv => whnf) | (refine pkT t1 ?_; conv => whnf) | (refine gdT w0 ?_; conv => whnf) | (refine Exists.intro _ (And.intro rfl ?_); conv => whnf) | (refine And.intro ⟨rfl, Nat.le_of_ble_eq_true rfl⟩ ?_; conv => whnf) | fail)
      refine swp_sops rfl ?_
      refine sops_pre (pre := [_, _, _, _]) ttOk (by kernel_rfl) ?_
      conv => whnf
      repeat (first | (refine Exists.intro _ (And.intro rfl ?_); conv => whnf) | fail)
      refine sops_focus 86 1 rfl hmem rfl ?_
      refine sops_end ttOk (by kernel_rfl) ?_
      conv => whnf
      refine ok1_callF [6, 9] [true, true] false (qr) rfl rfl ⟨⟨rfl, by first | rfl | fail⟩, by (repeat' (first | exact trivial | refine And.intro ?_ ?_)) <;> first | exact ren_eq (by first | (simp; done) | fail) (by first | rfl | fail) | fail, by first | simp [plainHf, plainB], by first | rfl | fail, ?_⟩
      conv => whnf
      repeat (fail)
      refine swp_sops rfl ?_
      refine sops_pre (pre := [_, _, _, _]) ttOk (by kernel_rfl) ?_
      conv => whnf
      repeat (first | (refine Exists.intro _ (And.intro rfl ?_); conv => whnf) | fail)
      refine sops_focus 93 1 rfl hmem rfl ?_
      refine sops_end ttOk (by kernel_rfl) ?_
      conv => whnf
      refine ok1_callF [3, 4, 10] [false, true, true, true] true (qp) rfl rfl ⟨⟨rfl, by first | rfl | fail⟩, by (repeat' (first | exact trivial | refine And.intro ?_ ?_)) <;> first | rfl | exact ren_eq (by first | (simp; done) | fail) (by first | rfl | fail) | fail, by first | simp [plainHf, plainB], by first | rfl | fail, ?_⟩
      conv => whnf
      repeat (first | (refine gdT rfl ?_; conv => whnf) | (refine Exists.intro _ (And.intro rfl ?_); conv => whnf) | (refine And.intro ⟨rfl, Nat.le_of_ble_eq_true rfl⟩ ?_; conv => whnf) | fail)
      have hCN : n = (c).length := hnc
      have qf := f26 (c) (n) mo hCN false
      have nn : (((n : Nat) : Int) != ((n : Nat) : Int)) = false := by simp
      refine ok1_callF [3, 11] [false, true] true (qf) rfl rfl ⟨⟨rfl, by first | rfl | fail⟩, by (repeat' (first | exact trivial | refine And.intro ?_ ?_)) <;> first | rfl | exact ren_eq (by first | (simp; done) | fail) (by first | rfl | fail) | fail, by first | simp [plainHf, plainB], by first | rfl | fail, ?_⟩
      conv => whnf
      repeat (first | (refine gdT rfl ?_; conv => whnf) | (refine gdF nn ?_; conv => whnf) | (refine Exists.intro _ (And.intro rfl ?_); conv => whnf) | (refine And.intro (by kernel_rfl) ?_; conv => whnf) | fail)
      refine ⟨⟨(i + 1, c), by omega, by simp only; rw [← hCN, hs]; omega⟩, by simp only; omega, ?_⟩
      dsimp only
      rw [← hCN]
      refine Weak.sel [0, 1, 2, 3, 11, 5, 6] rfl rfl ?_ ?_ rfl rfl
      ·
       (repeat' (first | exact trivial | refine And.intro ?_ ?_ | fail)) <;> first | exact wk_i (by first | exact hp1 | exact hp1.symm | fail) | rfl | fail
      ·
       (repeat' (first | exact trivial | refine And.intro ?_ ?_ | (refine wk_cons ?_ ?_))) <;> first | rfl | exact ren_eq (by first | (simp; done) | fail) (by first | rfl | fail) | fail
     ·
      have qr := f29_s c dl n dl.length k most hnc rfl (by omega) (by omega) hk (by omega) false false
      have hcn : n + k = (c ++ dl.take k).length := by rw [List.length_append, List.length_take]; omega
      obtain ⟨C, hC⟩ : ∃ C, C = c ++ dl.take k := ⟨_, rfl⟩
      rw [← hC] at qp qr hcn
      repeat (first | (refine gdT t1 ?_; conv => whnf) | (refine pkT t1 ?_; conv => whnf) | (refine gdT w0 ?_; conv => whnf) | (refine Exists.intro _ (And.intro rfl ?_); conv => whnf) | (refine And.intro ⟨rfl, Nat.le_of_ble_eq_true rfl⟩ ?_; conv => whnf) | fail)
      refine swp_sops rfl ?_
      refine sops_pre (pre := [_, _, _, _]) ttOk (by kernel_rfl) ?_
      conv => whnf
      repeat (first | (refine Exists.intro _ (And.intro rfl ?_); conv => whnf) | fail)
      refine sops_focus 86 1 rfl hmem rfl ?_
      refine sops_end ttOk (by kernel_rfl) ?_
      conv => whnf
      refine ok1_callF [6, 9] [true, true, true] false (qr) rfl rfl ⟨⟨rfl, by first | rfl | fail⟩, by (repeat' (first | exact trivial | refine And.intro ?_ ?_)) <;> first | exact ren_eq (by first | (simp; done) | fail) (by first | rfl | fail) | fail, by first | simp [plainHf, plainB], by first | rfl | fail, ?_⟩
      conv => whnf
      repeat (fail)
      refine swp_sops rfl ?_
      refine sops_pre (pre := [_, _, _, _]) ttOk (by kernel_rfl) ?_
      conv => whnf
      repeat (first | (refine Exists.intro _ (And.intro rfl ?_); conv => whnf) | fail)
      refine sops_focus 93 1 rfl hmem rfl ?_
      refine sops_end ttOk (by kernel_rfl) ?_
      conv => whnf
      refine ok1_callF [3, 4, 11] [false, true, true, true] true (qp) rfl rfl ⟨⟨rfl, by first | rfl | fail⟩, by (repeat' (first | exact trivial | refine And.intro ?_ ?_)) <;> first | rfl | exact ren_eq (by first | (simp; done) | fail) (by first | rfl | fail) | fail, by first | simp [plainHf, plainB], by first | rfl | fail, ?_⟩
      conv => whnf
      repeat (first | (refine gdT kk2 ?_; conv => whnf) | (refine Exists.intro _ (And.intro rfl ?_); conv => whnf) | (refine And.intro ⟨rfl, Nat.le_of_ble_eq_true rfl⟩ ?_; conv => whnf) | fail)
      have hCN : n + k = (C).length := hcn
      have qf := f26 (C) (n + k) mo hCN false
      have nn : (((n + k : Nat) : Int) != ((n + k : Nat) : Int)) = false := by simp
      refine ok1_callF [3, 12] [false, true] true (qf) rfl rfl ⟨⟨rfl, by first | rfl | fail⟩, by (repeat' (first | exact trivial | refine And.intro ?_ ?_)) <;> first | rfl | exact ren_eq (by first | (simp; done) | fail) (by first | rfl | fail) | fail, by first | simp [plainHf, plainB], by first | rfl | fail, ?_⟩
      conv => whnf
      repeat (first | (refine gdF nn ?_; conv => whnf) | (refine Exists.intro _ (And.intro rfl ?_); conv => whnf) | (refine gdT (by first | (simp; done) | fail) ?_; conv => whnf) | (refine pkF (by first | (simp; done) | fail) ?_; conv => whnf) | (refine And.intro (by kernel_rfl) ?_; conv => whnf) | fail)
      refine ⟨⟨(i + 1, C), by omega, by simp only; rw [← hCN, hs]; omega⟩, by simp only; omega, ?_⟩
      dsimp only
      rw [← hCN]
      refine Weak.sel [0, 1, 2, 3, 12, 5, 10] rfl rfl ?_ ?_ rfl rfl
      ·
       (repeat' (first | exact trivial | refine And.intro ?_ ?_ | fail)) <;> first | exact wk_i (by first | exact hp1 | exact hp1.symm | fail) | rfl | fail
      ·
       (repeat' (first | exact trivial | refine And.intro ?_ ?_ | (refine wk_cons ?_ ?_))) <;> first | rfl | exact ren_eq (by first | (simp; done) | fail) (by first | rfl | fail) | fail
    have w0 : (dk == UInt8.ofNat (Int.toNat 0)) = false := by rw [beq_eq_false_iff_ne]; exact k0
    by_cases k1 : dk = 1
    ·
     have w1 : (dk == UInt8.ofNat (Int.toNat 1)) = true := by rw [k1]; rfl
     have q := f27_n c n mo dn hnc (.inr hd1) false
     repeat (first | (refine gdT t1 ?_; conv => whnf) | (refine pkT t1 ?_; conv => whnf) | (refine gdF w0 ?_; conv => whnf) | (refine gdT w1 ?_; conv => whnf) | (refine Exists.intro _ (And.intro rfl ?_); conv => whnf) | (refine And.intro ⟨rfl, Nat.le_of_ble_eq_true rfl⟩ ?_; conv => whnf) | fail)
     refine ok1_callF [3, 4] [false, true] true (q) rfl rfl ⟨⟨rfl, by first | rfl | fail⟩, by (repeat' (first | exact trivial | refine And.intro ?_ ?_)) <;> first | rfl | exact ren_eq (by first | (simp; done) | fail) (by first | rfl | fail) | fail, by first | simp [plainHf, plainB], by first | rfl | fail, ?_⟩
     conv => whnf
     repeat (first | (refine brT rfl ?_; conv => whnf) | (refine gdT rfl ?_; conv => whnf) | (refine gdT t3 ?_; conv => whnf) | (refine Exists.intro _ (And.intro rfl ?_); conv => whnf) | fail)
     have hCN : n = (c).length := hnc
     have qf := f26 (c) (n) mo hCN false
     have nn : (((n : Nat) : Int) != ((n : Nat) : Int)) = false := by simp
     refine ok1_callF [3, 4] [false, true] true (qf) rfl rfl ⟨⟨rfl, by first | rfl | fail⟩, by (repeat' (first | exact trivial | refine And.intro ?_ ?_)) <;> first | rfl | exact ren_eq (by first | (simp; done) | fail) (by first | rfl | fail) | fail, by first | simp [plainHf, plainB], by first | rfl | fail, ?_⟩
     conv => whnf
     repeat (first | (refine gdT rfl ?_; conv => whnf) | (refine gdF nn ?_; conv => whnf) | (refine Exists.intro _ (And.intro rfl ?_); conv => whnf) | (refine And.intro (by kernel_rfl) ?_; conv => whnf) | fail)
     refine ⟨⟨(i + 1, c), by omega, by simp only; rw [← hCN, hs]; omega⟩, by simp only; omega, ?_⟩
     dsimp only
     rw [← hCN]
     refine Weak.sel [0, 1, 2, 3, 4, 5, 6] rfl rfl ?_ ?_ rfl rfl
     ·
      (repeat' (first | exact trivial | refine And.intro ?_ ?_ | fail)) <;> first | exact wk_i (by first | exact hp1 | exact hp1.symm | fail) | rfl | fail
     ·
      (repeat' (first | exact trivial | refine And.intro ?_ ?_ | (refine wk_cons ?_ ?_))) <;> first | rfl | exact ren_eq (by first | (simp; done) | fail) (by first | rfl | fail) | fail
    have w1 : (dk == UInt8.ofNat (Int.toNat 1)) = false := by rw [beq_eq_false_iff_ne]; exact k1
    by_cases k2 : dk = 2
    ·
     have w2 : (dk == UInt8.ofNat (Int.toNat 2)) = true := by rw [k2]; rfl
     have q := f31_n c n mo dn hnc (.inr hd1) false
     repeat (first | (refine gdT t1 ?_; conv => whnf) | (refine pkT t1 ?_; conv => whnf) | (refine gdF w0 ?_; conv => whnf) | (refine gdF w1 ?_; conv => whnf) | (refine gdT w2 ?_; conv => whnf) | (refine Exists.intro _ (And.intro rfl ?_); conv => whnf) | (refine And.intro ⟨rfl, Nat.le_of_ble_eq_true rfl⟩ ?_; conv => whnf) | fail)
     refine ok1_callF [3, 4] [false, true] true (q) rfl rfl ⟨⟨rfl, by first | rfl | fail⟩, by (repeat' (first | exact trivial | refine And.intro ?_ ?_)) <;> first | rfl | exact ren_eq (by first | (simp; done) | fail) (by first | rfl | fail) | fail, by first | simp [plainHf, plainB], by first | rfl | fail, ?_⟩
     conv => whnf
     repeat (first | (refine gdT rfl ?_; conv => whnf) | (refine gdT t3 ?_; conv => whnf) | (refine Exists.intro _ (And.intro rfl ?_); conv => whnf) | fail)
     have hCN : n = (c).length := hnc
     have qf := f26 (c) (n) mo hCN false
     have nn : (((n : Nat) : Int) != ((n : Nat) : Int)) = false := by simp
     refine ok1_callF [3, 4] [false, true] true (qf) rfl rfl ⟨⟨rfl, by first | rfl | fail⟩, by (repeat' (first | exact trivial | refine And.intro ?_ ?_)) <;> first | rfl | exact ren_eq (by first | (simp; done) | fail) (by first | rfl | fail) | fail, by first | simp [plainHf, plainB], by first | rfl | fail, ?_⟩
     conv => whnf
     repeat (first | (refine gdT rfl ?_; conv => whnf) | (refine gdF nn ?_; conv => whnf) | (refine Exists.intro _ (And.intro rfl ?_); conv => whnf) | (refine And.intro (by kernel_rfl) ?_; conv => whnf) | fail)
     refine ⟨⟨(i + 1, c), by omega, by simp only; rw [← hCN, hs]; omega⟩, by simp only; omega, ?_⟩
     dsimp only
     rw [← hCN]
     refine Weak.sel [0, 1, 2, 3, 4, 5, 6] rfl rfl ?_ ?_ rfl rfl
     ·
      (repeat' (first | exact trivial | refine And.intro ?_ ?_ | fail)) <;> first | exact wk_i (by first | exact hp1 | exact hp1.symm | fail) | rfl | fail
     ·
      (repeat' (first | exact trivial | refine And.intro ?_ ?_ | (refine wk_cons ?_ ?_))) <;> first | rfl | exact ren_eq (by first | (simp; done) | fail) (by first | rfl | fail) | fail
    have w2 : (dk == UInt8.ofNat (Int.toNat 2)) = false := by rw [beq_eq_false_iff_ne]; exact k2
    by_cases k3 : dk = 3
    ·
     have w3 : (dk == UInt8.ofNat (Int.toNat 3)) = true := by rw [k3]; rfl
     have q := f32_x c n mo dn hnc (.inr hd1) dk dv dx false false (decide (dn < (n : Int))) false
     repeat (first | (refine gdT t1 ?_; conv => whnf) | (refine pkT t1 ?_; conv => whnf) | (refine gdF w0 ?_; conv => whnf) | (refine gdF w1 ?_; conv => whnf) | (refine gdF w2 ?_; conv => whnf) | (refine gdT w3 ?_; conv => whnf) | (refine Exists.intro _ (And.intro rfl ?_); conv => whnf) | (refine And.intro ⟨rfl, Nat.le_of_ble_eq_true rfl⟩ ?_; conv => whnf) | fail)
     refine ok1_callF [3, 4, 8, 5, 6, 7, 9] [false, true, true, false, true, false, true] true (q) rfl rfl ⟨⟨rfl, by first | rfl | fail⟩, by (repeat' (first | exact trivial | refine And.intro ?_ ?_)) <;> first | rfl | exact ren_eq (by first | (simp; done) | fail) (by first | rfl | fail) | fail, by first | simp [plainHf, plainB], by first | rfl | fail, ?_⟩
     conv => whnf
     repeat (first | (refine brF rfl ?_; conv => whnf) | (refine gdT rfl ?_; conv => whnf) | (refine gdT t2 ?_; conv => whnf) | (refine gdF t2 ?_; conv => whnf) | (refine pkF t2 ?_; conv => whnf) | (refine gdT t4 ?_; conv => whnf) | (refine pkT t4 ?_; conv => whnf) | (refine Exists.intro _ (And.intro rfl ?_); conv => whnf) | (refine And.intro (by kernel_rfl) ?_; conv => whnf) | fail)
     have hCN : n = (c).length := hnc
     have qf := f26 (c) (n) mo hCN false
     have nn : (((n : Nat) : Int) != ((n : Nat) : Int)) = false := by simp
     refine ok1_callF [3, 4] [false, true] true (qf) rfl rfl ⟨⟨rfl, by first | rfl | fail⟩, by (repeat' (first | exact trivial | refine And.intro ?_ ?_)) <;> first | rfl | exact ren_eq (by first | (simp; done) | fail) (by first | rfl | fail) | fail, by first | simp [plainHf, plainB], by first | rfl | fail, ?_⟩
     conv => whnf
     repeat (first | (refine gdT rfl ?_; conv => whnf) | (refine gdF nn ?_; conv => whnf) | (refine Exists.intro _ (And.intro rfl ?_); conv => whnf) | (refine And.intro (by kernel_rfl) ?_; conv => whnf) | fail)
     refine ⟨⟨(i + 1, c), by omega, by simp only; rw [← hCN, hs]; omega⟩, by simp only; omega, ?_⟩
     dsimp only
     rw [← hCN]
     refine Weak.sel [0, 1, 2, 3, 4, 5, 6] rfl rfl ?_ ?_ rfl rfl
     ·
      (repeat' (first | exact trivial | refine And.intro ?_ ?_ | fail)) <;> first | exact wk_i (by first | exact hp1 | exact hp1.symm | fail) | rfl | fail
     ·
      (repeat' (first | exact trivial | refine And.intro ?_ ?_ | (refine wk_cons ?_ ?_))) <;> first | rfl | exact ren_eq (by first | (simp; done) | fail) (by first | rfl | fail) | fail
    have w3 : (dk == UInt8.ofNat (Int.toNat 3)) = false := by rw [beq_eq_false_iff_ne]; exact k3
    have q34 := f34 c n mo false
    have hjj : ∀ j : Nat, (((j : Nat) : Int) != ((j : Nat) : Int)) = false := fun j => by simp
    have hcc : ∀ x : UInt32, (x != x) = false := fun x => by simp
    repeat (first | (refine gdT t1 ?_; conv => whnf) | (refine pkT t1 ?_; conv => whnf) | (refine gdF w0 ?_; conv => whnf) | (refine gdF w1 ?_; conv => whnf) | (refine gdF w2 ?_; conv => whnf) | (refine gdF w3 ?_; conv => whnf) | (refine Exists.intro _ (And.intro rfl ?_); conv => whnf) | (refine And.intro (by first | omega | (simp; done) | fail) ?_; conv => whnf) | (refine And.intro ⟨rfl, Nat.le_of_ble_eq_true rfl⟩ ?_; conv => whnf) | fail)
    refine ok1_callF [3, 4] [false, true, false] false (q34) rfl rfl ⟨⟨rfl, by first | rfl | fail⟩, by (repeat' (first | exact trivial | refine And.intro ?_ ?_)) <;> first | rfl | exact ren_eq (by first | (simp; done) | fail) (by first | rfl | fail) | fail, by first | simp [plainHf, plainB], by first | rfl | fail, ?_⟩
    conv => whnf
    repeat (fail)
    refine SWp.weak (R0 := [(0, .i most), (4, .p 2 0), (5, .p 3 0), (6, .p 5 0), (8, .p 7 0), (18, .p 8 0), (27, .sl 0 0 ds.length 4 false), (28, .i (ds.length : Int)), (29, .i (i : Int)), (46, .fn 74 [.p 9 0])]) (H0 := [some (.ro (drR ds)), some (.ext (.fam (ds.map drF))), some (.box [.b false]), some (.box [.sl 4 0 n 1 false, .i (mo : Int)]), some (.row 49 (c.map .u32)), some (.box [.sl 6 0 n 1 false]), some (.row 49 (c.map .u32)), some (.box [.u8 dk, .i dn, .lit dv, .u32 dx]), some (.box [.i 0]), some (.box [.p 3 0])]) (L0 := 10) ?_ ?_
    ·
     refine Weak.sel [0, 1, 2, 3, 4, 5, 6, 7, 9, 10] rfl rfl ?_ ?_ rfl rfl
     ·
      (repeat' (first | exact trivial | refine And.intro ?_ ?_ | fail)) <;> first | rfl | fail
     ·
      (repeat' (first | exact trivial | refine And.intro ?_ ?_ | (refine wk_cons ?_ ?_))) <;> first | rfl | exact ren_eq (by first | (simp; done) | fail) (by first | rfl | fail) | fail
    refine range_named rfl rfl rfl (by kernel_rfl : Try.prog.funcs[74]? = some Try.f74) rfl rfl rfl rfl ?_
    intro asq bdq hasq hbdq
    refine sw_ok ttOk mixed (by kernel_rfl) ?_
    conv => whnf
    repeat (first | (refine brF rfl ?_; conv => whnf) | (refine Exists.intro _ (And.intro rfl ?_); conv => whnf) | (refine And.intro (by kernel_rfl) ?_; conv => whnf) | fail)
    refine loop_rule ttOk mixed (by kernel_rfl) (ι := { j : Nat // j ≤ n ∧ (j = 0 ∨ (j : Int) < dn) }) (fun j => [(0, .yld 10), (10, .sl 4 0 n 1 false), (11, .i (n : Int)), (12, .i (j.1 : Int))]) (fun j => [some (.ro (drR ds)), some (.ext (.fam (ds.map drF))), some (.box [.b false]), some (.box [.sl 4 0 n 1 false, .i (mo : Int)]), some (.row 49 (c.map .u32)), some (.box [.sl 6 0 n 1 false]), some (.row 49 (c.map .u32)), some (.box [.u8 dk, .i dn, .lit dv, .u32 dx]), some (.box [.i (j.1 : Int)]), some (.box [.p 3 0]), some (.obj (.loop [(6, .p 5 0), (8, .p 7 0), (18, .p 8 0)] Try.f7.ntmps [47, 48] asq bdq))]) (fun _ => 11) (fun j => n - j.1) ⟨0, by omega, .inl rfl⟩ ?_ ?_
    ·
     dsimp only
     refine Weak.sel [0, 1, 2, 3, 4, 5, 6, 7, 8, 9, 10] rfl rfl ?_ ?_ rfl rfl
     ·
      (repeat' (first | exact trivial | refine And.intro ?_ ?_ | fail)) <;> first | rfl | fail
     ·
      (repeat' (first | exact trivial | refine And.intro ?_ ?_ | (refine wk_cons ?_ ?_))) <;> first | rfl | exact ren_eq (by first | (simp; done) | fail) (by first | rfl | fail) | fail
    ·
     rintro ⟨j, hj, hjd⟩
     dsimp only at hj hjd ⊢
     have hpj := wpB j (by omega)
     by_cases hjn : j < n
     ·
      have hlt : decide ((j : Int) < (n : Int)) = true := by simp; omega
      have hgn : decide ((j : Int) ≥ (n : Int)) = false := by simp; omega
      have hj1 := hjj j
      have hc1 := hcc (c.getD j 0)
      conv => whnf
      first | refine brT (by exact hlt) ?_ | fail
      conv => whnf
      repeat (first | (refine Exists.intro _ (And.intro (sload_u32 (i := j) (by first | rfl | omega | fail) (by first | omega | fail)) ?_); conv => whnf) | (refine Exists.intro _ (And.intro (idx_i (m := j) (by first | rfl | fail)) ?_); conv => whnf) | (refine And.intro (by first | omega | fail) ?_; conv => whnf) | fail)
      by_cases hbr : ((j : Int) + 1) < dn
      ·
       have hge : decide (w64 ((j : Int) + 1) ≥ dn) = false := by rw [hpj]; simp; omega
       refine ok1_yield 10 [5, 6, 7, 8] [false, false, true, false, true] (syield_of (ps := [47, 48]) (N := Try.f7.ntmps) (R0 := [(6, .p 1 0), (8, .p 3 0), (18, .p 4 0)]) (args0 := [.i (j : Int), .u32 (c.getD j 0)]) (ex := .normal) (H0t := [some (.box [.sl 2 0 n 1 false]), some (.row 49 (c.map .u32)), some (.box [.u8 dk, .i dn, .lit dv, .u32 dx]), some (.box [.i (j : Int)])]) (H1t := [some (.box [.sl 2 0 n 1 false]), some (.row 49 (c.map .u32)), some (.box [.u8 dk, .i dn, .lit dv, .u32 dx]), some (.box [.i ((j + 1 : Nat) : Int)])]) (.inl rfl) rfl rfl rfl ?_) rfl rfl ⟨⟨rfl, by first | rfl | fail⟩, by (repeat' (first | exact trivial | refine And.intro ?_ ?_)) <;> first | rfl | exact ren_eq (by first | (simp; done) | fail) (by first | rfl | fail), by first | (simp [plainHf, plainB]; done) | fail, ?_⟩
       ·
        subst hasq
        subst hbdq
        refine sw_ok ttOk mixed (by kernel_rfl) ?_
        conv => whnf
        repeat (first | (refine And.intro (by first | omega | (simp; done) | fail) ?_; conv => whnf) | (refine And.intro (by kernel_rfl) ?_; conv => whnf) | fail)
        refine sw_ok ttOk mixed (by kernel_rfl) ?_
        conv => whnf
        repeat (first | (refine gdT hj1 ?_; conv => whnf) | (refine pkF hj1 ?_; conv => whnf) | (refine gdT hgn ?_; conv => whnf) | (refine pkF hgn ?_; conv => whnf) | (refine gdF hc1 ?_; conv => whnf) | (refine gdF hge ?_; conv => whnf) | (refine Exists.intro _ (And.intro (sload_u32 (i := j) (by first | rfl | omega | fail) (by first | omega | fail)) ?_); conv => whnf) | (refine Exists.intro _ (And.intro (idx_i (m := j) (by first | rfl | fail)) ?_); conv => whnf) | (refine Exists.intro _ (And.intro rfl ?_); conv => whnf) | (refine And.intro (by first | omega | (simp; done) | fail) ?_; conv => whnf) | (refine And.intro (by kernel_rfl) ?_; conv => whnf) | fail)
        rw [hpj]
        exact ⟨[0, 1, 2, 3, 4], rfl, rfl, by (repeat' (first | exact trivial | refine And.intro ?_ ?_)) <;> first | rfl | exact ren_eq (by first | (simp; done) | fail) (by first | rfl | fail) | fail, rfl⟩
       ·
        conv => whnf
        repeat (first | (refine brF rfl ?_; conv => whnf) | fail)
        refine ⟨⟨j + 1, by omega, .inr (by omega)⟩, by simp only; omega, ?_⟩
        dsimp only
        refine Weak.sel [0, 1, 2, 3, 4, 5, 6, 7, 8, 9, 10] rfl rfl ?_ ?_ rfl rfl
        ·
         (repeat' (first | exact trivial | refine And.intro ?_ ?_ | fail)) <;> first | exact wk_i (by first | exact hpj | exact hpj.symm | fail) | rfl | fail
        ·
         (repeat' (first | exact trivial | refine And.intro ?_ ?_ | (refine wk_cons ?_ ?_))) <;> first | rfl | exact ren_eq (by first | (simp; done) | fail) (by first | rfl | fail) | fail
      ·
       have hge : decide (w64 ((j : Int) + 1) ≥ dn) = true := by rw [hpj]; simp; omega
       have hq : (((j + 1 : Nat) : Int) == (if (if (1 : Int) > dn then 1 else dn) < (n : Int) then (if (1 : Int) > dn then 1 else dn) else (n : Int))) = true := by
        by_cases h1 : (1 : Int) > dn
        ·
         simp only [if_pos h1, beq_iff_eq]; split <;> omega
        ·
         simp only [if_neg h1, beq_iff_eq]; split <;> omega
       have hq2 : (!(((j + 1 : Nat) : Int) == (if (if (1 : Int) > dn then 1 else dn) < (n : Int) then (if (1 : Int) > dn then 1 else dn) else (n : Int)))) = false := by rw [hq]; rfl
       refine ok1_yield 10 [5, 6, 7, 8] [false, false, true, false, true] (syield_of (ps := [47, 48]) (N := Try.f7.ntmps) (R0 := [(6, .p 1 0), (8, .p 3 0), (18, .p 4 0)]) (args0 := [.i (j : Int), .u32 (c.getD j 0)]) (ex := .exit 3) (H0t := [some (.box [.sl 2 0 n 1 false]), some (.row 49 (c.map .u32)), some (.box [.u8 dk, .i dn, .lit dv, .u32 dx]), some (.box [.i (j : Int)])]) (H1t := [some (.box [.sl 2 0 n 1 false]), some (.row 49 (c.map .u32)), some (.box [.u8 dk, .i dn, .lit dv, .u32 dx]), some (.box [.i ((j + 1 : Nat) : Int)])]) (.inr (.inr ⟨3, rfl⟩)) rfl rfl rfl ?_) rfl rfl ⟨⟨rfl, by first | rfl | fail⟩, by (repeat' (first | exact trivial | refine And.intro ?_ ?_)) <;> first | rfl | exact ren_eq (by first | (simp; done) | fail) (by first | rfl | fail), by first | (simp [plainHf, plainB]; done) | fail, ?_⟩
       ·
        subst hasq
        subst hbdq
        refine sw_ok ttOk mixed (by kernel_rfl) ?_
        conv => whnf
        repeat (first | (refine And.intro (by first | omega | (simp; done) | fail) ?_; conv => whnf) | (refine And.intro (by kernel_rfl) ?_; conv => whnf) | fail)
        refine sw_ok ttOk mixed (by kernel_rfl) ?_
        conv => whnf
        repeat (first | (refine gdT hj1 ?_; conv => whnf) | (refine pkF hj1 ?_; conv => whnf) | (refine gdT hgn ?_; conv => whnf) | (refine pkF hgn ?_; conv => whnf) | (refine gdF hc1 ?_; conv => whnf) | (refine gdT hge ?_; conv => whnf) | (refine Exists.intro _ (And.intro (sload_u32 (i := j) (by first | rfl | omega | fail) (by first | omega | fail)) ?_); conv => whnf) | (refine Exists.intro _ (And.intro (idx_i (m := j) (by first | rfl | fail)) ?_); conv => whnf) | (refine Exists.intro _ (And.intro rfl ?_); conv => whnf) | (refine And.intro (by first | omega | (simp; done) | fail) ?_; conv => whnf) | (refine And.intro (by kernel_rfl) ?_; conv => whnf) | fail)
        rw [hpj]
        exact ⟨[0, 1, 2, 3, 4], rfl, rfl, by (repeat' (first | exact trivial | refine And.intro ?_ ?_)) <;> first | rfl | exact ren_eq (by first | (simp; done) | fail) (by first | rfl | fail) | fail, rfl⟩
       ·
        conv => whnf
        repeat (first | (refine brT rfl ?_; conv => whnf) | (refine gdT hq2 ?_; conv => whnf) | (refine Exists.intro _ (And.intro rfl ?_); conv => whnf) | fail)
        have hCN : n = (c).length := hnc
        have qf := f26 (c) (n) mo hCN false
        have nn : (((n : Nat) : Int) != ((n : Nat) : Int)) = false := by simp
        refine ok1_callF [3, 4] [false, true] true (qf) rfl rfl ⟨⟨rfl, by first | rfl | fail⟩, by (repeat' (first | exact trivial | refine And.intro ?_ ?_)) <;> first | rfl | exact ren_eq (by first | (simp; done) | fail) (by first | rfl | fail) | fail, by first | simp [plainHf, plainB], by first | rfl | fail, ?_⟩
        conv => whnf
        repeat (first | (refine gdF nn ?_; conv => whnf) | (refine gdT hq2 ?_; conv => whnf) | (refine pkF hq2 ?_; conv => whnf) | (refine Exists.intro _ (And.intro rfl ?_); conv => whnf) | (refine And.intro (by kernel_rfl) ?_; conv => whnf) | fail)
        refine ⟨⟨(i + 1, c), by omega, by simp only; rw [← hCN, hs]; omega⟩, by simp only; omega, ?_⟩
        dsimp only
        rw [← hCN]
        refine Weak.sel [0, 1, 2, 3, 4, 5, 6] rfl rfl ?_ ?_ rfl rfl
        ·
         (repeat' (first | exact trivial | refine And.intro ?_ ?_ | fail)) <;> first | exact wk_i (by first | exact hp1 | exact hp1.symm | fail) | rfl | fail
        ·
         (repeat' (first | exact trivial | refine And.intro ?_ ?_ | (refine wk_cons ?_ ?_))) <;> first | rfl | exact ren_eq (by first | (simp; done) | fail) (by first | rfl | fail) | fail
     ·
      obtain rfl : n = j := by omega
      have hlt : decide ((n : Int) < (n : Int)) = false := by simp
      have hq : (((n : Nat) : Int) == (if (if (1 : Int) > dn then 1 else dn) < (n : Int) then (if (1 : Int) > dn then 1 else dn) else (n : Int))) = true := by
       by_cases h1 : (1 : Int) > dn
       ·
        simp only [if_pos h1, beq_iff_eq]; split <;> omega
       ·
        simp only [if_neg h1, beq_iff_eq]; split <;> omega
      have hq2 : (!(((n : Nat) : Int) == (if (if (1 : Int) > dn then 1 else dn) < (n : Int) then (if (1 : Int) > dn then 1 else dn) else (n : Int)))) = false := by rw [hq]; rfl
      conv => whnf
      first | refine brF (by exact hlt) ?_ | fail
      conv => whnf
      repeat (first | (refine gdT hq2 ?_; conv => whnf) | (refine Exists.intro _ (And.intro rfl ?_); conv => whnf) | fail)
      have hCN : n = (c).length := hnc
      have qf := f26 (c) (n) mo hCN false
      have nn : (((n : Nat) : Int) != ((n : Nat) : Int)) = false := by simp
      refine ok1_callF [3, 4] [false, true] true (qf) rfl rfl ⟨⟨rfl, by first | rfl | fail⟩, by (repeat' (first | exact trivial | refine And.intro ?_ ?_)) <;> first | rfl | exact ren_eq (by first | (simp; done) | fail) (by first | rfl | fail) | fail, by first | simp [plainHf, plainB], by first | rfl | fail, ?_⟩
      conv => whnf
      repeat (first | (refine gdF nn ?_; conv => whnf) | (refine gdT hq2 ?_; conv => whnf) | (refine pkF hq2 ?_; conv => whnf) | (refine Exists.intro _ (And.intro rfl ?_); conv => whnf) | (refine And.intro (by kernel_rfl) ?_; conv => whnf) | fail)
      refine ⟨⟨(i + 1, c), by omega, by simp only; rw [← hCN, hs]; omega⟩, by simp only; omega, ?_⟩
      dsimp only
      rw [← hCN]
      refine Weak.sel [0, 1, 2, 3, 4, 5, 6] rfl rfl ?_ ?_ rfl rfl
      ·
       (repeat' (first | exact trivial | refine And.intro ?_ ?_ | fail)) <;> first | exact wk_i (by first | exact hp1 | exact hp1.symm | fail) | rfl | fail
      ·
       (repeat' (first | exact trivial | refine And.intro ?_ ?_ | (refine wk_cons ?_ ?_))) <;> first | rfl | exact ren_eq (by first | (simp; done) | fail) (by first | rfl | fail) | fail
   have t2 : decide (dn < (n : Int)) = true := by simp; omega
   obtain ⟨k, rfl⟩ := Int.eq_ofNat_of_zero_le (show 0 ≤ dn by omega)
   have hk : k < n := by omega
   have t3 : (!decide (((k : Nat) : Int) < (n : Int))) = false := by rw [t2]; rfl
   have hgg := setGet (l := c) (k := k)
   have hle1 : (c.eraseIdx k).length = n - 1 := by rw [List.length_eraseIdx, if_pos (by omega), hnc]
   by_cases k0 : dk = 0
   ·
    have w0 : (dk == UInt8.ofNat (Int.toNat 0)) = true := by rw [k0]; rfl
    obtain ⟨kq, hkq⟩ : ∃ q : Nat, q = k := ⟨_, rfl⟩
    rw [← hkq] at *
    obtain ⟨k, hk⟩ : ∃ k, k = min dl.length (most.toNat - n) := ⟨_, rfl⟩
    have qp := f25 c dl n dl.length mo k hnc rfl (by omega) (by omega) hmo2 (by rw [hmoe]; exact hk) false false
    have kk : ((k : Int) == (k : Int)) = true := by simp
    have kk2 : (!((k : Int) == (k : Int))) = false := by simp
    by_cases hk0 : k = 0
    ·
     have qr := f29_0 c dl n dl.length most hnc rfl (by omega) (by omega) (by omega) false false
     subst hk0
     rw [Nat.add_zero, List.take_zero, List.append_nil] at qp
     repeat (first | (refine brT rfl ?_; conv => whnf) | (refine pkT t1 ?_; conv => whnf) | (refine gdT w0 ?_; conv => whnf) | (refine Exists.intro _ (And.intro rfl ?_); conv => whnf) | (refine And.intro ⟨rfl, Nat.le_of_ble_eq_true rfl⟩ ?_; conv => whnf) | fail)
     refine swp_sops rfl ?_
     refine sops_pre (pre := [_, _, _, _]) ttOk (by kernel_rfl) ?_
     conv => whnf
     repeat (first | (refine Exists.intro _ (And.intro rfl ?_); conv => whnf) | fail)
     refine sops_focus 86 1 rfl hmem rfl ?_
     refine sops_end ttOk (by kernel_rfl) ?_
     conv => whnf
     refine ok1_callF [6, 9] [true, true] false (qr) rfl rfl ⟨⟨rfl, by first | rfl | fail⟩, by (repeat' (first | exact trivial | refine And.intro ?_ ?_)) <;> first | exact ren_eq (by first | (simp; done) | fail) (by first | rfl | fail) | fail, by first | simp [plainHf, plainB], by first | rfl | fail, ?_⟩
     conv => whnf
     repeat (fail)
     refine swp_sops rfl ?_
     refine sops_pre (pre := [_, _, _, _]) ttOk (by kernel_rfl) ?_
     conv => whnf
     repeat (first | (refine Exists.intro _ (And.intro rfl ?_); conv => whnf) | fail)
     refine sops_focus 93 1 rfl hmem rfl ?_
     refine sops_end ttOk (by kernel_rfl) ?_
     conv => whnf
     refine ok1_callF [3, 4, 10] [false, true, true, true] true (qp) rfl rfl ⟨⟨rfl, by first | rfl | fail⟩, by (repeat' (first | exact trivial | refine And.intro ?_ ?_)) <;> first | rfl | exact ren_eq (by first | (simp; done) | fail) (by first | rfl | fail) | fail, by first | simp [plainHf, plainB], by first | rfl | fail, ?_⟩
     conv => whnf
     repeat (first | (refine gdT rfl ?_; conv => whnf) | (refine Exists.intro _ (And.intro rfl ?_); conv => whnf) | (refine And.intro ⟨rfl, Nat.le_of_ble_eq_true rfl⟩ ?_; conv => whnf) | fail)
     have hCN : n = (c).length := hnc
     have qf := f26 (c) (n) mo hCN false
     have nn : (((n : Nat) : Int) != ((n : Nat) : Int)) = false := by simp
     refine ok1_callF [3, 11] [false, true] true (qf) rfl rfl ⟨⟨rfl, by first | rfl | fail⟩, by (repeat' (first | exact trivial | refine And.intro ?_ ?_)) <;> first | rfl | exact ren_eq (by first | (simp; done) | fail) (by first | rfl | fail) | fail, by first | simp [plainHf, plainB], by first | rfl | fail, ?_⟩
     conv => whnf
     repeat (first | (refine gdT rfl ?_; conv => whnf) | (refine gdF nn ?_; conv => whnf) | (refine Exists.intro _ (And.intro rfl ?_); conv => whnf) | (refine And.intro (by kernel_rfl) ?_; conv => whnf) | fail)
     refine ⟨⟨(i + 1, c), by omega, by simp only; rw [← hCN, hs]; omega⟩, by simp only; omega, ?_⟩
     dsimp only
     rw [← hCN]
     refine Weak.sel [0, 1, 2, 3, 11, 5, 6] rfl rfl ?_ ?_ rfl rfl
     ·
      (repeat' (first | exact trivial | refine And.intro ?_ ?_ | fail)) <;> first | exact wk_i (by first | exact hp1 | exact hp1.symm | fail) | rfl | fail
     ·
      (repeat' (first | exact trivial | refine And.intro ?_ ?_ | (refine wk_cons ?_ ?_))) <;> first | rfl | exact ren_eq (by first | (simp; done) | fail) (by first | rfl | fail) | fail
    ·
     have qr := f29_s c dl n dl.length k most hnc rfl (by omega) (by omega) hk (by omega) false false
     have hcn : n + k = (c ++ dl.take k).length := by rw [List.length_append, List.length_take]; omega
     obtain ⟨C, hC⟩ : ∃ C, C = c ++ dl.take k := ⟨_, rfl⟩
     rw [← hC] at qp qr hcn
     repeat (first | (refine brT rfl ?_; conv => whnf) | (refine pkT t1 ?_; conv => whnf) | (refine gdT w0 ?_; conv => whnf) | (refine Exists.intro _ (And.intro rfl ?_); conv => whnf) | (refine And.intro ⟨rfl, Nat.le_of_ble_eq_true rfl⟩ ?_; conv => whnf) | fail)
     refine swp_sops rfl ?_
     refine sops_pre (pre := [_, _, _, _]) ttOk (by kernel_rfl) ?_
     conv => whnf
     repeat (first | (refine Exists.intro _ (And.intro rfl ?_); conv => whnf) | fail)
     refine sops_focus 86 1 rfl hmem rfl ?_
     refine sops_end ttOk (by kernel_rfl) ?_
     conv => whnf
     refine ok1_callF [6, 9] [true, true, true] false (qr) rfl rfl ⟨⟨rfl, by first | rfl | fail⟩, by (repeat' (first | exact trivial | refine And.intro ?_ ?_)) <;> first | exact ren_eq (by first | (simp; done) | fail) (by first | rfl | fail) | fail, by first | simp [plainHf, plainB], by first | rfl | fail, ?_⟩
     conv => whnf
     repeat (fail)
     refine swp_sops rfl ?_
     refine sops_pre (pre := [_, _, _, _]) ttOk (by kernel_rfl) ?_
     conv => whnf
     repeat (first | (refine Exists.intro _ (And.intro rfl ?_); conv => whnf) | fail)
     refine sops_focus 93 1 rfl hmem rfl ?_
     refine sops_end ttOk (by kernel_rfl) ?_
     conv => whnf
     refine ok1_callF [3, 4, 11] [false, true, true, true] true (qp) rfl rfl ⟨⟨rfl, by first | rfl | fail⟩, by (repeat' (first | exact trivial | refine And.intro ?_ ?_)) <;> first | rfl | exact ren_eq (by first | (simp; done) | fail) (by first | rfl | fail) | fail, by first | simp [plainHf, plainB], by first | rfl | fail, ?_⟩
     conv => whnf
     repeat (first | (refine gdT kk2 ?_; conv => whnf) | (refine Exists.intro _ (And.intro rfl ?_); conv => whnf) | (refine And.intro ⟨rfl, Nat.le_of_ble_eq_true rfl⟩ ?_; conv => whnf) | fail)
     have hCN : n + k = (C).length := hcn
     have qf := f26 (C) (n + k) mo hCN false
     have nn : (((n + k : Nat) : Int) != ((n + k : Nat) : Int)) = false := by simp
     refine ok1_callF [3, 12] [false, true] true (qf) rfl rfl ⟨⟨rfl, by first | rfl | fail⟩, by (repeat' (first | exact trivial | refine And.intro ?_ ?_)) <;> first | rfl | exact ren_eq (by first | (simp; done) | fail) (by first | rfl | fail) | fail, by first | simp [plainHf, plainB], by first | rfl | fail, ?_⟩
     conv => whnf
     repeat (first | (refine gdF nn ?_; conv => whnf) | (refine Exists.intro _ (And.intro rfl ?_); conv => whnf) | (refine gdT (by first | (simp; done) | fail) ?_; conv => whnf) | (refine pkF (by first | (simp; done) | fail) ?_; conv => whnf) | (refine And.intro (by kernel_rfl) ?_; conv => whnf) | fail)
     refine ⟨⟨(i + 1, C), by omega, by simp only; rw [← hCN, hs]; omega⟩, by simp only; omega, ?_⟩
     dsimp only
     rw [← hCN]
     refine Weak.sel [0, 1, 2, 3, 12, 5, 10] rfl rfl ?_ ?_ rfl rfl
     ·
      (repeat' (first | exact trivial | refine And.intro ?_ ?_ | fail)) <;> first | exact wk_i (by first | exact hp1 | exact hp1.symm | fail) | rfl | fail
     ·
      (repeat' (first | exact trivial | refine And.intro ?_ ?_ | (refine wk_cons ?_ ?_))) <;> first | rfl | exact ren_eq (by first | (simp; done) | fail) (by first | rfl | fail) | fail
   have w0 : (dk == UInt8.ofNat (Int.toNat 0)) = false := by rw [beq_eq_false_iff_ne]; exact k0
   by_cases k1 : dk = 1
   ·
    have w1 : (dk == UInt8.ofNat (Int.toNat 1)) = true := by rw [k1]; rfl
    have q := f27_y c n mo k hnc hk (by omega) false
    have q2 := f30 c n k hnc hk (by omega) false
    obtain ⟨C, hC⟩ : ∃ C, C = c.eraseIdx k := ⟨_, rfl⟩
    rw [← hC] at q q2 hle1
    repeat (first | (refine brT rfl ?_; conv => whnf) | (refine pkT t1 ?_; conv => whnf) | (refine gdF w0 ?_; conv => whnf) | (refine gdT w1 ?_; conv => whnf) | (refine Exists.intro _ (And.intro rfl ?_); conv => whnf) | (refine And.intro ⟨rfl, Nat.le_of_ble_eq_true rfl⟩ ?_; conv => whnf) | fail)
    refine ok1_callF [3, 4] [false, true, true] true (q) rfl rfl ⟨⟨rfl, by first | rfl | fail⟩, by (repeat' (first | exact trivial | refine And.intro ?_ ?_)) <;> first | rfl | exact ren_eq (by first | (simp; done) | fail) (by first | rfl | fail) | fail, by first | simp [plainHf, plainB], by first | rfl | fail, ?_⟩
    conv => whnf
    repeat (first | (refine gdF t3 ?_; conv => whnf) | (refine gdT hgg ?_; conv => whnf) | (refine pkT hgg ?_; conv => whnf) | (refine Exists.intro _ (And.intro (sload_u32 (i := k) (by first | rfl | omega | fail) (by first | omega | fail)) ?_); conv => whnf) | (refine Exists.intro _ (And.intro (idx_i (m := k) (by first | rfl | fail)) ?_); conv => whnf) | (refine Exists.intro _ (And.intro rfl ?_); conv => whnf) | (refine And.intro (by first | omega | fail) ?_; conv => whnf) | fail)
    refine ok1_callF [6] [true, true] false (q2) rfl rfl ⟨⟨rfl, by first | rfl | fail⟩, by (repeat' (first | exact trivial | refine And.intro ?_ ?_)) <;> first | exact ren_eq (by first | (simp; done) | fail) (by first | rfl | fail) | fail, by first | simp [plainHf, plainB], by first | rfl | fail, ?_⟩
    conv => whnf
    repeat (first | (refine gdT rfl ?_; conv => whnf) | (refine Exists.intro _ (And.intro rfl ?_); conv => whnf) | (refine And.intro ⟨rfl, Nat.le_of_ble_eq_true rfl⟩ ?_; conv => whnf) | fail)
    have hCN : n - 1 = (C).length := hle1.symm
    have qf := f26 (C) (n - 1) mo hCN false
    have nn : (((n - 1 : Nat) : Int) != ((n - 1 : Nat) : Int)) = false := by simp
    refine ok1_callF [3, 9] [false, true] true (qf) rfl rfl ⟨⟨rfl, by first | rfl | fail⟩, by (repeat' (first | exact trivial | refine And.intro ?_ ?_)) <;> first | rfl | exact ren_eq (by first | (simp; done) | fail) (by first | rfl | fail) | fail, by first | simp [plainHf, plainB], by first | rfl | fail, ?_⟩
    conv => whnf
    repeat (first | (refine gdT rfl ?_; conv => whnf) | (refine gdF nn ?_; conv => whnf) | (refine Exists.intro _ (And.intro rfl ?_); conv => whnf) | (refine And.intro (by kernel_rfl) ?_; conv => whnf) | fail)
    refine ⟨⟨(i + 1, C), by omega, by simp only; rw [← hCN, hs]; omega⟩, by simp only; omega, ?_⟩
    dsimp only
    rw [← hCN]
    refine Weak.sel [0, 1, 2, 3, 9, 5, 10] rfl rfl ?_ ?_ rfl rfl
    ·
     (repeat' (first | exact trivial | refine And.intro ?_ ?_ | fail)) <;> first | exact wk_i (by first | exact hp1 | exact hp1.symm | fail) | rfl | fail
    ·
     (repeat' (first | exact trivial | refine And.intro ?_ ?_ | (refine wk_cons ?_ ?_))) <;> first | rfl | exact ren_eq (by first | (simp; done) | fail) (by first | rfl | fail) | fail
   have w1 : (dk == UInt8.ofNat (Int.toNat 1)) = false := by rw [beq_eq_false_iff_ne]; exact k1
   by_cases k2 : dk = 2
   ·
    have w2 : (dk == UInt8.ofNat (Int.toNat 2)) = true := by rw [k2]; rfl
    by_cases hfull : most ≤ (n : Int)
    ·
     have t6 : decide ((n : Int) ≥ most) = true := by simp; omega
     have q := f31_f c n mo k hnc hk (by omega) hmo2 (by omega) false
     repeat (first | (refine brT rfl ?_; conv => whnf) | (refine pkT t1 ?_; conv => whnf) | (refine gdF w0 ?_; conv => whnf) | (refine gdF w1 ?_; conv => whnf) | (refine gdT w2 ?_; conv => whnf) | (refine Exists.intro _ (And.intro rfl ?_); conv => whnf) | (refine And.intro ⟨rfl, Nat.le_of_ble_eq_true rfl⟩ ?_; conv => whnf) | fail)
     refine ok1_callF [3, 4] [false, true, true] true (q) rfl rfl ⟨⟨rfl, by first | rfl | fail⟩, by (repeat' (first | exact trivial | refine And.intro ?_ ?_)) <;> first | rfl | exact ren_eq (by first | (simp; done) | fail) (by first | rfl | fail) | fail, by first | simp [plainHf, plainB], by first | rfl | fail, ?_⟩
     conv => whnf
     repeat (first | (refine gdT rfl ?_; conv => whnf) | (refine gdF t3 ?_; conv => whnf) | (refine gdT t6 ?_; conv => whnf) | (refine Exists.intro _ (And.intro rfl ?_); conv => whnf) | fail)
     have hCN : n = (c).length := hnc
     have qf := f26 (c) (n) mo hCN false
     have nn : (((n : Nat) : Int) != ((n : Nat) : Int)) = false := by simp
     refine ok1_callF [3, 9] [false, true] true (qf) rfl rfl ⟨⟨rfl, by first | rfl | fail⟩, by (repeat' (first | exact trivial | refine And.intro ?_ ?_)) <;> first | rfl | exact ren_eq (by first | (simp; done) | fail) (by first | rfl | fail) | fail, by first | simp [plainHf, plainB], by first | rfl | fail, ?_⟩
     conv => whnf
     repeat (first | (refine gdT rfl ?_; conv => whnf) | (refine gdF nn ?_; conv => whnf) | (refine Exists.intro _ (And.intro rfl ?_); conv => whnf) | (refine And.intro (by kernel_rfl) ?_; conv => whnf) | fail)
     refine ⟨⟨(i + 1, c), by omega, by simp only; rw [← hCN, hs]; omega⟩, by simp only; omega, ?_⟩
     dsimp only
     rw [← hCN]
     refine Weak.sel [0, 1, 2, 3, 9, 5, 6] rfl rfl ?_ ?_ rfl rfl
     ·
      (repeat' (first | exact trivial | refine And.intro ?_ ?_ | fail)) <;> first | exact wk_i (by first | exact hp1 | exact hp1.symm | fail) | rfl | fail
     ·
      (repeat' (first | exact trivial | refine And.intro ?_ ?_ | (refine wk_cons ?_ ?_))) <;> first | rfl | exact ren_eq (by first | (simp; done) | fail) (by first | rfl | fail) | fail
    ·
     have t6 : decide ((n : Int) ≥ most) = false := by simp; omega
     have q := f31_y c n mo k hnc hk (by omega) hmo2 (by omega) false
     have hcut : ((c.map SV.u32).drop k).take ([c.getD k 0].map SV.u32).length = [c.getD k 0].map SV.u32 := by
      have hkc : k < (c.map SV.u32).length := by omega
      rw [List.drop_eq_getElem_cons hkc, List.getD_eq_getElem?_getD, List.getElem?_eq_getElem (by omega)]; simp
     have qr := (f29_s c [c.getD k 0] n 1 1 most hnc rfl (by omega) (by decide) (by omega) (by decide) false false).sub 1 k (c.map .u32) ([c.getD k 0].map .u32) 4 rfl rfl hcut (plainL_u32 _) (plainL_u32 _) (by decide) ⟨.inr ⟨rfl, rfl⟩, .inr ⟨rfl, rfl⟩, .inl rfl, trivial⟩ rfl ⟨.inr (.inl (by simp [plainB])), .inl rfl, trivial⟩ ⟨.inr (.inl (by simp [plainB])), .inl rfl, .inr (.inl (by simp [plainB])), trivial⟩
     rw [show List.take 1 [c.getD k 0] = [c.getD k 0] from rfl] at qr
     have hcn : n + 1 = (c ++ [c.getD k 0]).length := by simp [hnc]
     obtain ⟨C, hC⟩ : ∃ C, C = c ++ [c.getD k 0] := ⟨_, rfl⟩
     rw [← hC] at q qr hcn
     have hpk := wpB k (by omega)
     repeat (first | (refine brT rfl ?_; conv => whnf) | (refine pkT t1 ?_; conv => whnf) | (refine gdF w0 ?_; conv => whnf) | (refine gdF w1 ?_; conv => whnf) | (refine gdT w2 ?_; conv => whnf) | (refine Exists.intro _ (And.intro rfl ?_); conv => whnf) | (refine And.intro ⟨rfl, Nat.le_of_ble_eq_true rfl⟩ ?_; conv => whnf) | fail)
     refine ok1_callF [3, 4] [false, true, true] true (q) rfl rfl ⟨⟨rfl, by first | rfl | fail⟩, by (repeat' (first | exact trivial | refine And.intro ?_ ?_)) <;> first | rfl | exact ren_eq (by first | (simp; done) | fail) (by first | rfl | fail) | fail, by first | simp [plainHf, plainB], by first | rfl | fail, ?_⟩
     conv => whnf
     repeat (first | (refine gdF t3 ?_; conv => whnf) | (refine gdF t6 ?_; conv => whnf) | (refine Exists.intro _ (And.intro (evb_i (m := k) rfl (by first | rfl | fail)) ?_); conv => whnf) | (refine Exists.intro _ (And.intro (idx_i (m := k + 1) (by first | rfl | omega | fail)) ?_); conv => whnf) | (refine Exists.intro _ (And.intro rfl ?_); conv => whnf) | (refine And.intro (by first | omega | fail) ?_; conv => whnf) | fail)
     have qs : SCall Try.prog 29 [.sl 0 0 n 1 false, .i most, .sl 1 (0 + k * 1) (k + 1 - k) 1 (false && decide (k + 1 = n))] [some (.ro (c.map .u32)), some (.ro (c.map .u32))] (.tup [.sl 2 0 (n + 1) 1 false, .i ((1 : Nat) : Int)]) [some (.ro (c.map .u32)), some (.ro (c.map .u32)), some (.row 49 (C.map .u32))] := by
      rw [show k + 1 - k = 1 by omega, show 0 + k * 1 = k by omega]; exact qr
     refine ok1_callF [6, 6] [true, true, true] false (qs) rfl rfl ⟨⟨rfl, by first | rfl | fail⟩, by (repeat' (first | exact trivial | refine And.intro ?_ ?_)) <;> first | exact ren_eq (by first | (simp; done) | fail) (by first | rfl | fail) | fail, by first | simp [plainHf, plainB], by first | rfl | fail, ?_⟩
     conv => whnf
     repeat (first | (refine gdT rfl ?_; conv => whnf) | (refine Exists.intro _ (And.intro rfl ?_); conv => whnf) | (refine And.intro ⟨rfl, Nat.le_of_ble_eq_true rfl⟩ ?_; conv => whnf) | (refine And.intro (by kernel_rfl) ?_; conv => whnf) | fail)
     have hCN : n + 1 = (C).length := hcn
     have qf := f26 (C) (n + 1) mo hCN false
     have nn : (((n + 1 : Nat) : Int) != ((n + 1 : Nat) : Int)) = false := by simp
     refine ok1_callF [3, 9] [false, true] true (qf) rfl rfl ⟨⟨rfl, by first | rfl | fail⟩, by (repeat' (first | exact trivial | refine And.intro ?_ ?_)) <;> first | rfl | exact ren_eq (by first | (simp; done) | fail) (by first | rfl | fail) | fail, by first | simp [plainHf, plainB], by first | rfl | fail, ?_⟩
     conv => whnf
     repeat (first | (refine gdT rfl ?_; conv => whnf) | (refine gdF nn ?_; conv => whnf) | (refine Exists.intro _ (And.intro rfl ?_); conv => whnf) | (refine And.intro (by kernel_rfl) ?_; conv => whnf) | fail)
     refine ⟨⟨(i + 1, C), by omega, by simp only; rw [← hCN, hs]; omega⟩, by simp only; omega, ?_⟩
     dsimp only
     rw [← hCN]
     refine Weak.sel [0, 1, 2, 3, 9, 5, 10] rfl rfl ?_ ?_ rfl rfl
     ·
      (repeat' (first | exact trivial | refine And.intro ?_ ?_ | fail)) <;> first | exact wk_i (by first | exact hp1 | exact hp1.symm | fail) | rfl | fail
     ·
      (repeat' (first | exact trivial | refine And.intro ?_ ?_ | (refine wk_cons ?_ ?_))) <;> first | rfl | exact ren_eq (by first | (simp; done) | fail) (by first | rfl | fail) | fail
   have w2 : (dk == UInt8.ofNat (Int.toNat 2)) = false := by rw [beq_eq_false_iff_ne]; exact k2
   by_cases k3 : dk = 3
   ·
    have w3 : (dk == UInt8.ofNat (Int.toNat 3)) = true := by rw [k3]; rfl
    have q := f32_y c n mo k hnc hk (by omega) dk dv dx false false false
    have hap := takeAll (l := c.map SV.u32) (n := n) hcl.symm
    have hsn : n = (c.set k dx).length := by rw [List.length_set]; exact hnc
    obtain ⟨C, hC⟩ : ∃ C, C = c.set k dx := ⟨_, rfl⟩
    rw [← hC] at q hsn
    repeat (first | (refine brT rfl ?_; conv => whnf) | (refine pkT t1 ?_; conv => whnf) | (refine gdF w0 ?_; conv => whnf) | (refine gdF w1 ?_; conv => whnf) | (refine gdF w2 ?_; conv => whnf) | (refine gdT w3 ?_; conv => whnf) | (refine Exists.intro _ (And.intro rfl ?_); conv => whnf) | (refine And.intro ⟨rfl, Nat.le_of_ble_eq_true rfl⟩ ?_; conv => whnf) | fail)
    rw [t2]
    refine ok1_callF [3, 4, 8, 5, 6, 7, 9] [false, true, true, false, true, false, true, true] true (q) rfl rfl ⟨⟨rfl, by first | rfl | fail⟩, by (repeat' (first | exact trivial | refine And.intro ?_ ?_)) <;> first | rfl | exact ren_eq (by first | (simp; done) | fail) (by first | rfl | fail) | fail, by first | simp [plainHf, plainB], by first | rfl | fail, ?_⟩
    conv => whnf
    repeat (first | (refine brT rfl ?_; conv => whnf) | (refine gdF rfl ?_; conv => whnf) | (refine Exists.intro _ (And.intro rfl ?_); conv => whnf) | (refine And.intro ⟨rfl, Nat.le_of_ble_eq_true rfl⟩ ?_; conv => whnf) | (refine And.intro (by kernel_rfl) ?_; conv => whnf) | (refine And.intro ⟨by first | omega | fail, by first | (simp; omega) | fail, by first | (show _ * 4 ≤ _; omega) | fail⟩ ?_; conv => whnf) | fail)
    refine SWp.weak (R0 := [(0, .i most), (4, .p 2 0), (5, .p 3 0), (6, .p 5 0), (8, .p 7 0), (10, .b true), (27, .sl 0 0 ds.length 4 false), (28, .i (ds.length : Int)), (29, .i (i : Int))]) (H0 := [some (.ro (drR ds)), some (.ext (.fam (ds.map drF))), some (.box [.b false]), some (.box [.sl 4 0 n 1 false, .i (mo : Int)]), some (.row 49 (C.map .u32)), some (.box [.sl 6 0 n 1 false]), some (.row 49 (c.map .u32)), some (.box [.u8 dk, .i (k : Int), .lit dv, .u32 dx])]) (L0 := 8) ?_ ?_
    ·
     refine Weak.sel [0, 1, 2, 3, 10, 5, 12, 7] rfl rfl ?_ ?_ rfl rfl
     ·
      (repeat' (first | exact trivial | refine And.intro ?_ ?_ | fail)) <;> first | rfl | fail
     ·
      (repeat' (first | exact trivial | exact ren_eq (plainL_u32 _) hap.symm | refine And.intro ?_ ?_ | (refine wk_cons ?_ ?_))) <;> first | rfl | exact wk_sl rfl (by first | rfl | fail) (by first | rfl | omega | fail) | exact ren_eq (by first | (simp; done) | fail) (by first | rfl | fail) | fail
    refine sw_ok ttOk mixed (by kernel_rfl) ?_
    conv => whnf
    repeat (first | (refine gdT rfl ?_; conv => whnf) | (refine Exists.intro _ (And.intro (sput_m32 (i := k) (by first | rfl | omega | fail)) ?_); conv => whnf) | (refine Exists.intro _ (And.intro (idx_i (m := k) (by first | rfl | fail)) ?_); conv => whnf) | (refine Exists.intro _ (And.intro rfl ?_); conv => whnf) | (refine And.intro (by first | omega | (simp; omega) | fail) ?_; conv => whnf) | fail)
    rw [← hC]
    have hCN : n = (C).length := hsn
    have qf := f26 (C) (n) mo hCN false
    have nn : (((n : Nat) : Int) != ((n : Nat) : Int)) = false := by simp
    refine ok1_callF [3, 4] [false, true] true (qf) rfl rfl ⟨⟨rfl, by first | rfl | fail⟩, by (repeat' (first | exact trivial | refine And.intro ?_ ?_)) <;> first | rfl | exact ren_eq (by first | (simp; done) | fail) (by first | rfl | fail) | fail, by first | simp [plainHf, plainB], by first | rfl | fail, ?_⟩
    conv => whnf
    repeat (first | (refine gdT rfl ?_; conv => whnf) | (refine gdF nn ?_; conv => whnf) | (refine Exists.intro _ (And.intro rfl ?_); conv => whnf) | (refine And.intro (by kernel_rfl) ?_; conv => whnf) | fail)
    refine ⟨⟨(i + 1, C), by omega, by simp only; rw [← hCN, hs]; omega⟩, by simp only; omega, ?_⟩
    dsimp only
    rw [← hCN]
    refine Weak.sel [0, 1, 2, 3, 4, 5, 6] rfl rfl ?_ ?_ rfl rfl
    ·
     (repeat' (first | exact trivial | refine And.intro ?_ ?_ | fail)) <;> first | exact wk_i (by first | exact hp1 | exact hp1.symm | fail) | rfl | fail
    ·
     (repeat' (first | exact trivial | refine And.intro ?_ ?_ | (refine wk_cons ?_ ?_))) <;> first | rfl | exact ren_eq (by first | (simp; done) | fail) (by first | rfl | fail) | fail
   have w3 : (dk == UInt8.ofNat (Int.toNat 3)) = false := by rw [beq_eq_false_iff_ne]; exact k3
   have q34 := f34 c n mo false
   have hjj : ∀ j : Nat, (((j : Nat) : Int) != ((j : Nat) : Int)) = false := fun j => by simp
   have hcc : ∀ x : UInt32, (x != x) = false := fun x => by simp
   repeat (first | (refine brT rfl ?_; conv => whnf) | (refine pkT t1 ?_; conv => whnf) | (refine gdF w0 ?_; conv => whnf) | (refine gdF w1 ?_; conv => whnf) | (refine gdF w2 ?_; conv => whnf) | (refine gdF w3 ?_; conv => whnf) | (refine Exists.intro _ (And.intro rfl ?_); conv => whnf) | (refine And.intro (by first | omega | (simp; done) | fail) ?_; conv => whnf) | (refine And.intro ⟨rfl, Nat.le_of_ble_eq_true rfl⟩ ?_; conv => whnf) | fail)
   refine ok1_callF [3, 4] [false, true, false] false (q34) rfl rfl ⟨⟨rfl, by first | rfl | fail⟩, by (repeat' (first | exact trivial | refine And.intro ?_ ?_)) <;> first | rfl | exact ren_eq (by first | (simp; done) | fail) (by first | rfl | fail) | fail, by first | simp [plainHf, plainB], by first | rfl | fail, ?_⟩
   conv => whnf
   repeat (fail)
   refine SWp.weak (R0 := [(0, .i most), (4, .p 2 0), (5, .p 3 0), (6, .p 5 0), (8, .p 7 0), (18, .p 8 0), (27, .sl 0 0 ds.length 4 false), (28, .i (ds.length : Int)), (29, .i (i : Int)), (46, .fn 74 [.p 9 0])]) (H0 := [some (.ro (drR ds)), some (.ext (.fam (ds.map drF))), some (.box [.b false]), some (.box [.sl 4 0 n 1 false, .i (mo : Int)]), some (.row 49 (c.map .u32)), some (.box [.sl 6 0 n 1 false]), some (.row 49 (c.map .u32)), some (.box [.u8 dk, .i ((k : Nat) : Int), .lit dv, .u32 dx]), some (.box [.i 0]), some (.box [.p 3 0])]) (L0 := 10) ?_ ?_
   ·
    refine Weak.sel [0, 1, 2, 3, 4, 5, 6, 7, 9, 10] rfl rfl ?_ ?_ rfl rfl
    ·
     (repeat' (first | exact trivial | refine And.intro ?_ ?_ | fail)) <;> first | rfl | fail
    ·
     (repeat' (first | exact trivial | refine And.intro ?_ ?_ | (refine wk_cons ?_ ?_))) <;> first | rfl | exact ren_eq (by first | (simp; done) | fail) (by first | rfl | fail) | fail
   refine range_named rfl rfl rfl (by kernel_rfl : Try.prog.funcs[74]? = some Try.f74) rfl rfl rfl rfl ?_
   intro asq bdq hasq hbdq
   refine sw_ok ttOk mixed (by kernel_rfl) ?_
   conv => whnf
   repeat (first | (refine brF rfl ?_; conv => whnf) | (refine Exists.intro _ (And.intro rfl ?_); conv => whnf) | (refine And.intro (by kernel_rfl) ?_; conv => whnf) | fail)
   refine loop_rule ttOk mixed (by kernel_rfl) (ι := { j : Nat // j ≤ n ∧ (j = 0 ∨ (j : Int) < ((k : Nat) : Int)) }) (fun j => [(0, .yld 10), (10, .sl 4 0 n 1 false), (11, .i (n : Int)), (12, .i (j.1 : Int))]) (fun j => [some (.ro (drR ds)), some (.ext (.fam (ds.map drF))), some (.box [.b false]), some (.box [.sl 4 0 n 1 false, .i (mo : Int)]), some (.row 49 (c.map .u32)), some (.box [.sl 6 0 n 1 false]), some (.row 49 (c.map .u32)), some (.box [.u8 dk, .i ((k : Nat) : Int), .lit dv, .u32 dx]), some (.box [.i (j.1 : Int)]), some (.box [.p 3 0]), some (.obj (.loop [(6, .p 5 0), (8, .p 7 0), (18, .p 8 0)] Try.f7.ntmps [47, 48] asq bdq))]) (fun _ => 11) (fun j => n - j.1) ⟨0, by omega, .inl rfl⟩ ?_ ?_
   ·
    dsimp only
    refine Weak.sel [0, 1, 2, 3, 4, 5, 6, 7, 8, 9, 10] rfl rfl ?_ ?_ rfl rfl
    ·
     (repeat' (first | exact trivial | refine And.intro ?_ ?_ | fail)) <;> first | rfl | fail
    ·
     (repeat' (first | exact trivial | refine And.intro ?_ ?_ | (refine wk_cons ?_ ?_))) <;> first | rfl | exact ren_eq (by first | (simp; done) | fail) (by first | rfl | fail) | fail
   ·
    rintro ⟨j, hj, hjd⟩
    dsimp only at hj hjd ⊢
    have hpj := wpB j (by omega)
    by_cases hjn : j < n
    ·
     have hlt : decide ((j : Int) < (n : Int)) = true := by simp; omega
     have hgn : decide ((j : Int) ≥ (n : Int)) = false := by simp; omega
     have hj1 := hjj j
     have hc1 := hcc (c.getD j 0)
     conv => whnf
     first | refine brT (by exact hlt) ?_ | fail
     conv => whnf
     repeat (first | (refine Exists.intro _ (And.intro (sload_u32 (i := j) (by first | rfl | omega | fail) (by first | omega | fail)) ?_); conv => whnf) | (refine Exists.intro _ (And.intro (idx_i (m := j) (by first | rfl | fail)) ?_); conv => whnf) | (refine And.intro (by first | omega | fail) ?_; conv => whnf) | fail)
     by_cases hbr : ((j : Int) + 1) < ((k : Nat) : Int)
     ·
      have hge : decide (w64 ((j : Int) + 1) ≥ ((k : Nat) : Int)) = false := by rw [hpj]; simp; omega
      refine ok1_yield 10 [5, 6, 7, 8] [false, false, true, false, true] (syield_of (ps := [47, 48]) (N := Try.f7.ntmps) (R0 := [(6, .p 1 0), (8, .p 3 0), (18, .p 4 0)]) (args0 := [.i (j : Int), .u32 (c.getD j 0)]) (ex := .normal) (H0t := [some (.box [.sl 2 0 n 1 false]), some (.row 49 (c.map .u32)), some (.box [.u8 dk, .i ((k : Nat) : Int), .lit dv, .u32 dx]), some (.box [.i (j : Int)])]) (H1t := [some (.box [.sl 2 0 n 1 false]), some (.row 49 (c.map .u32)), some (.box [.u8 dk, .i ((k : Nat) : Int), .lit dv, .u32 dx]), some (.box [.i ((j + 1 : Nat) : Int)])]) (.inl rfl) rfl rfl rfl ?_) rfl rfl ⟨⟨rfl, by first | rfl | fail⟩, by (repeat' (first | exact trivial | refine And.intro ?_ ?_)) <;> first | rfl | exact ren_eq (by first | (simp; done) | fail) (by first | rfl | fail), by first | (simp [plainHf, plainB]; done) | fail, ?_⟩
      ·
       subst hasq
       subst hbdq
       refine sw_ok ttOk mixed (by kernel_rfl) ?_
       conv => whnf
       repeat (first | (refine And.intro (by first | omega | (simp; done) | fail) ?_; conv => whnf) | (refine And.intro (by kernel_rfl) ?_; conv => whnf) | fail)
       refine sw_ok ttOk mixed (by kernel_rfl) ?_
       conv => whnf
       repeat (first | (refine gdT hj1 ?_; conv => whnf) | (refine pkF hj1 ?_; conv => whnf) | (refine gdT hgn ?_; conv => whnf) | (refine pkF hgn ?_; conv => whnf) | (refine gdF hc1 ?_; conv => whnf) | (refine gdF hge ?_; conv => whnf) | (refine Exists.intro _ (And.intro (sload_u32 (i := j) (by first | rfl | omega | fail) (by first | omega | fail)) ?_); conv => whnf) | (refine Exists.intro _ (And.intro (idx_i (m := j) (by first | rfl | fail)) ?_); conv => whnf) | (refine Exists.intro _ (And.intro rfl ?_); conv => whnf) | (refine And.intro (by first | omega | (simp; done) | fail) ?_; conv => whnf) | (refine And.intro (by kernel_rfl) ?_; conv => whnf) | fail)
       rw [hpj]
       exact ⟨[0, 1, 2, 3, 4], rfl, rfl, by (repeat' (first | exact trivial | refine And.intro ?_ ?_)) <;> first | rfl | exact ren_eq (by first | (simp; done) | fail) (by first | rfl | fail) | fail, rfl⟩
      ·
       conv => whnf
       repeat (first | (refine brF rfl ?_; conv => whnf) | fail)
       refine ⟨⟨j + 1, by omega, .inr (by omega)⟩, by simp only; omega, ?_⟩
       dsimp only
       refine Weak.sel [0, 1, 2, 3, 4, 5, 6, 7, 8, 9, 10] rfl rfl ?_ ?_ rfl rfl
       ·
        (repeat' (first | exact trivial | refine And.intro ?_ ?_ | fail)) <;> first | exact wk_i (by first | exact hpj | exact hpj.symm | fail) | rfl | fail
       ·
        (repeat' (first | exact trivial | refine And.intro ?_ ?_ | (refine wk_cons ?_ ?_))) <;> first | rfl | exact ren_eq (by first | (simp; done) | fail) (by first | rfl | fail) | fail
     ·
      have hge : decide (w64 ((j : Int) + 1) ≥ ((k : Nat) : Int)) = true := by rw [hpj]; simp; omega
      have hq : (((j + 1 : Nat) : Int) == (if (if (1 : Int) > ((k : Nat) : Int) then 1 else ((k : Nat) : Int)) < (n : Int) then (if (1 : Int) > ((k : Nat) : Int) then 1 else ((k : Nat) : Int)) else (n : Int))) = true := by
       by_cases h1 : (1 : Int) > ((k : Nat) : Int)
       ·
        simp only [if_pos h1, beq_iff_eq]; split <;> omega
       ·
        simp only [if_neg h1, beq_iff_eq]; split <;> omega
      have hq2 : (!(((j + 1 : Nat) : Int) == (if (if (1 : Int) > ((k : Nat) : Int) then 1 else ((k : Nat) : Int)) < (n : Int) then (if (1 : Int) > ((k : Nat) : Int) then 1 else ((k : Nat) : Int)) else (n : Int)))) = false := by rw [hq]; rfl
      refine ok1_yield 10 [5, 6, 7, 8] [false, false, true, false, true] (syield_of (ps := [47, 48]) (N := Try.f7.ntmps) (R0 := [(6, .p 1 0), (8, .p 3 0), (18, .p 4 0)]) (args0 := [.i (j : Int), .u32 (c.getD j 0)]) (ex := .exit 3) (H0t := [some (.box [.sl 2 0 n 1 false]), some (.row 49 (c.map .u32)), some (.box [.u8 dk, .i ((k : Nat) : Int), .lit dv, .u32 dx]), some (.box [.i (j : Int)])]) (H1t := [some (.box [.sl 2 0 n 1 false]), some (.row 49 (c.map .u32)), some (.box [.u8 dk, .i ((k : Nat) : Int), .lit dv, .u32 dx]), some (.box [.i ((j + 1 : Nat) : Int)])]) (.inr (.inr ⟨3, rfl⟩)) rfl rfl rfl ?_) rfl rfl ⟨⟨rfl, by first | rfl | fail⟩, by (repeat' (first | exact trivial | refine And.intro ?_ ?_)) <;> first | rfl | exact ren_eq (by first | (simp; done) | fail) (by first | rfl | fail), by first | (simp [plainHf, plainB]; done) | fail, ?_⟩
      ·
       subst hasq
       subst hbdq
       refine sw_ok ttOk mixed (by kernel_rfl) ?_
       conv => whnf
       repeat (first | (refine And.intro (by first | omega | (simp; done) | fail) ?_; conv => whnf) | (refine And.intro (by kernel_rfl) ?_; conv => whnf) | fail)
       refine sw_ok ttOk mixed (by kernel_rfl) ?_
       conv => whnf
       repeat (first | (refine gdT hj1 ?_; conv => whnf) | (refine pkF hj1 ?_; conv => whnf) | (refine gdT hgn ?_; conv => whnf) | (refine pkF hgn ?_; conv => whnf) | (refine gdF hc1 ?_; conv => whnf) | (refine gdT hge ?_; conv => whnf) | (refine Exists.intro _ (And.intro (sload_u32 (i := j) (by first | rfl | omega | fail) (by first | omega | fail)) ?_); conv => whnf) | (refine Exists.intro _ (And.intro (idx_i (m := j) (by first | rfl | fail)) ?_); conv => whnf) | (refine Exists.intro _ (And.intro rfl ?_); conv => whnf) | (refine And.intro (by first | omega | (simp; done) | fail) ?_; conv => whnf) | (refine And.intro (by kernel_rfl) ?_; conv => whnf) | fail)
       rw [hpj]
       exact ⟨[0, 1, 2, 3, 4], rfl, rfl, by (repeat' (first | exact trivial | refine And.intro ?_ ?_)) <;> first | rfl | exact ren_eq (by first | (simp; done) | fail) (by first | rfl | fail) | fail, rfl⟩
      ·
       conv => whnf
       repeat (first | (refine brT rfl ?_; conv => whnf) | (refine gdT hq2 ?_; conv => whnf) | (refine Exists.intro _ (And.intro rfl ?_); conv => whnf) | fail)
       have hCN : n = (c).length := hnc
       have qf := f26 (c) (n) mo hCN false
       have nn : (((n : Nat) : Int) != ((n : Nat) : Int)) = false := by simp
       refine ok1_callF [3, 4] [false, true] true (qf) rfl rfl ⟨⟨rfl, by first | rfl | fail⟩, by (repeat' (first | exact trivial | refine And.intro ?_ ?_)) <;> first | rfl | exact ren_eq (by first | (simp; done) | fail) (by first | rfl | fail) | fail, by first | simp [plainHf, plainB], by first | rfl | fail, ?_⟩
       conv => whnf
       repeat (first | (refine gdF nn ?_; conv => whnf) | (refine gdT hq2 ?_; conv => whnf) | (refine pkF hq2 ?_; conv => whnf) | (refine Exists.intro _ (And.intro rfl ?_); conv => whnf) | (refine And.intro (by kernel_rfl) ?_; conv => whnf) | fail)
       refine ⟨⟨(i + 1, c), by omega, by simp only; rw [← hCN, hs]; omega⟩, by simp only; omega, ?_⟩
       dsimp only
       rw [← hCN]
       refine Weak.sel [0, 1, 2, 3, 4, 5, 6] rfl rfl ?_ ?_ rfl rfl
       ·
        (repeat' (first | exact trivial | refine And.intro ?_ ?_ | fail)) <;> first | exact wk_i (by first | exact hp1 | exact hp1.symm | fail) | rfl | fail
       ·
        (repeat' (first | exact trivial | refine And.intro ?_ ?_ | (refine wk_cons ?_ ?_))) <;> first | rfl | exact ren_eq (by first | (simp; done) | fail) (by first | rfl | fail) | fail
    ·
     obtain rfl : n = j := by omega
     have hlt : decide ((n : Int) < (n : Int)) = false := by simp
     have hq : (((n : Nat) : Int) == (if (if (1 : Int) > ((k : Nat) : Int) then 1 else ((k : Nat) : Int)) < (n : Int) then (if (1 : Int) > ((k : Nat) : Int) then 1 else ((k : Nat) : Int)) else (n : Int))) = true := by
      by_cases h1 : (1 : Int) > ((k : Nat) : Int)
      ·
       simp only [if_pos h1, beq_iff_eq]; split <;> omega
      ·
       simp only [if_neg h1, beq_iff_eq]; split <;> omega
     have hq2 : (!(((n : Nat) : Int) == (if (if (1 : Int) > ((k : Nat) : Int) then 1 else ((k : Nat) : Int)) < (n : Int) then (if (1 : Int) > ((k : Nat) : Int) then 1 else ((k : Nat) : Int)) else (n : Int)))) = false := by rw [hq]; rfl
     conv => whnf
     first | refine brF (by exact hlt) ?_ | fail
     conv => whnf
     repeat (first | (refine gdT hq2 ?_; conv => whnf) | (refine Exists.intro _ (And.intro rfl ?_); conv => whnf) | fail)
     have hCN : n = (c).length := hnc
     have qf := f26 (c) (n) mo hCN false
     have nn : (((n : Nat) : Int) != ((n : Nat) : Int)) = false := by simp
     refine ok1_callF [3, 4] [false, true] true (qf) rfl rfl ⟨⟨rfl, by first | rfl | fail⟩, by (repeat' (first | exact trivial | refine And.intro ?_ ?_)) <;> first | rfl | exact ren_eq (by first | (simp; done) | fail) (by first | rfl | fail) | fail, by first | simp [plainHf, plainB], by first | rfl | fail, ?_⟩
     conv => whnf
     repeat (first | (refine gdF nn ?_; conv => whnf) | (refine gdT hq2 ?_; conv => whnf) | (refine pkF hq2 ?_; conv => whnf) | (refine Exists.intro _ (And.intro rfl ?_); conv => whnf) | (refine And.intro (by first | omega | fail) ?_; conv => whnf) | fail)
     refine ⟨⟨(i + 1, c), by omega, by simp only; rw [← hCN, hs]; omega⟩, by simp only; omega, ?_⟩
     dsimp only
     rw [← hCN]
     refine Weak.sel [0, 1, 2, 3, 4, 5, 6] rfl rfl ?_ ?_ rfl rfl
     ·
      (repeat' (first | exact trivial | refine And.intro ?_ ?_ | fail)) <;> first | exact wk_i (by first | exact hp1 | exact hp1.symm | fail) | rfl | fail
     ·
      (repeat' (first | exact trivial | refine And.intro ?_ ?_ | (refine wk_cons ?_ ?_))) <;> first | rfl | exact ren_eq (by first | (simp; done) | fail) (by first | rfl | fail) | fail
  ·
   obtain rfl : i = ds.length := by omega
   have hlt : decide ((ds.length : Int) < (ds.length : Int)) = false := by simp
   conv => whnf
   first | refine brF (by exact hlt) ?_ | fail
   conv => whnf
   repeat (first | (refine Exists.intro _ (And.intro rfl ?_); conv => whnf) | (refine And.intro ⟨rfl, Nat.le_of_ble_eq_true rfl⟩ ?_; conv => whnf) | fail)
   refine ⟨[0, 1], ?_, rfl, rfl, ?_, rfl⟩
   ·
    (repeat' (fail)) <;> first | rfl | fail
   ·
    (repeat' (first | exact trivial | refine And.intro ?_ ?_ | fail)) <;> first | rfl | exact ren_eq (by first | (simp; done) | fail) (by first | rfl | fail) | fail
end Go.Sh
namespace Go.Sh
open Go.Proofs
set_option maxHeartbeats 4000000
theorem f7 (most : Int) (ds : List Dr) (hmo : most < 9223372036854775808) (hn : ds.length < 1000000000000000) (hT : ∀ d ∈ ds, d.l.length < 1000000000000000) : SCall Try.prog 7 [.i most, .sl 0 0 ds.length 4 false] [some (.ro (drR ds)), some (.ext (.fam (ds.map drF)))] (.b true) [some (.ro (drR ds)), some (.ext (.fam (ds.map drF)))] := by
 by_cases h5 : hvS ds ds.length ≤ 500
 ·
  exact f7_m most ds hmo hn hT h5
 ·
  have q28 := f28 ds hn hT false
  rw [decide_eq_true (show 500 < hvS ds ds.length by omega)] at q28
  refine scall_of ttOk (by kernel_rfl : Try.prog.funcs[7]? = some Try.f7) rfl rfl rfl ?_
  try simp only [List.length_cons, List.length_nil, Nat.zero_add, Nat.reduceAdd]
  refine sw_ok ttOk mixed (by kernel_rfl) ?_
  conv => whnf
  repeat (first | (refine Exists.intro _ (And.intro bytesOf_all ?_); conv => whnf) | (refine Exists.intro _ (And.intro (bytesOf_cut rfl) ?_); conv => whnf) | (refine brT rfl ?_; conv => whnf) | (refine brF rfl ?_; conv => whnf) | (refine gdT rfl ?_; conv => whnf) | (refine gdF rfl ?_; conv => whnf) | (refine Exists.intro _ (And.intro (sload_all rfl (by first | rfl | (simp; done) | (simp; omega))) ?_); conv => whnf) | (refine Exists.intro _ (And.intro (sput_all rfl (by first | rfl | (simp; done) | (simp; omega))) ?_); conv => whnf) | (refine Exists.intro _ (And.intro rfl ?_); conv => whnf) | (refine pkT rfl ?_; conv => whnf) | (refine pkF rfl ?_; conv => whnf) | (refine gdT (by first | (simp; done) | fail) ?_; conv => whnf) | (refine gdF (by first | (simp; done) | fail) ?_; conv => whnf) | (refine brT (by first | (simp; done) | fail) ?_; conv => whnf) | (refine brF (by first | (simp; done) | fail) ?_; conv => whnf) | (refine pkT (by first | (simp; done) | fail) ?_; conv => whnf) | (refine pkF (by first | (simp; done) | fail) ?_; conv => whnf) | (refine And.intro ⟨rfl, rfl⟩ ?_; conv => whnf) | (refine And.intro (by first | omega | (simp; done) | (simp; omega) | (simp [ti5]; omega)) ?_; conv => whnf) | (refine And.intro (Nat.le_of_ble_eq_true rfl) ?_; conv => whnf) | (refine And.intro ⟨rfl, Nat.le_of_ble_eq_true rfl⟩ ?_; conv => whnf) | (refine And.intro ⟨Nat.le_of_ble_eq_true rfl, Nat.le_of_ble_eq_true rfl⟩ ?_; conv => whnf) | (refine And.intro ⟨Nat.le_of_ble_eq_true rfl, Nat.le_of_ble_eq_true rfl, Nat.le_of_ble_eq_true rfl⟩ ?_; conv => whnf) | (refine And.intro ⟨Nat.le_of_ble_eq_true rfl, Nat.le_of_ble_eq_true rfl, Nat.le_of_ble_eq_true rfl, Nat.le_of_ble_eq_true rfl⟩ ?_; conv => whnf) | (refine And.intro (by kernel_rfl) ?_; conv => whnf) | (refine And.intro ⟨by first | exact @rfl Nat _ | omega | (simp; done) | (simp; omega) | exact Nat.le_of_ble_eq_true rfl | (show _ * 4 ≤ _; omega) | decide | (simp [ti5]; done) | (simp [ti5]; omega) | (simp only [ti5, List.length_map]; omega) | (simp only [ti5_sz, ti25_sz, List.length_map, List.length_set]; omega) | fail, by first | exact @rfl Nat _ | omega | (simp; done) | (simp; omega) | exact Nat.le_of_ble_eq_true rfl | (show _ * 4 ≤ _; omega) | decide | (simp [ti5]; done) | (simp [ti5]; omega) | (simp only [ti5, List.length_map]; omega) | (simp only [ti5_sz, ti25_sz, List.length_map, List.length_set]; omega) | fail⟩ ?_; conv => whnf) | (refine And.intro ⟨by first | exact @rfl Nat _ | omega | (simp; done) | (simp; omega) | exact Nat.le_of_ble_eq_true rfl | (show _ * 4 ≤ _; omega) | decide | (simp [ti5]; done) | (simp [ti5]; omega) | (simp only [ti5, List.length_map]; omega) | (simp only [ti5_sz, ti25_sz, List.length_map, List.length_set]; omega) | fail, by first | exact @rfl Nat _ | omega | (simp; done) | (simp; omega) | exact Nat.le_of_ble_eq_true rfl | (show _ * 4 ≤ _; omega) | decide | (simp [ti5]; done) | (simp [ti5]; omega) | (simp only [ti5, List.length_map]; omega) | (simp only [ti5_sz, ti25_sz, List.length_map, List.length_set]; omega) | fail, by first | exact @rfl Nat _ | omega | (simp; done) | (simp; omega) | exact Nat.le_of_ble_eq_true rfl | (show _ * 4 ≤ _; omega) | decide | (simp [ti5]; done) | (simp [ti5]; omega) | (simp only [ti5, List.length_map]; omega) | (simp only [ti5_sz, ti25_sz, List.length_map, List.length_set]; omega) | fail⟩ ?_; conv => whnf) | (refine And.intro ⟨by first | exact @rfl Nat _ | omega | (simp; done) | (simp; omega) | exact Nat.le_of_ble_eq_true rfl | (show _ * 4 ≤ _; omega) | decide | (simp [ti5]; done) | (simp [ti5]; omega) | (simp only [ti5, List.length_map]; omega) | (simp only [ti5_sz, ti25_sz, List.length_map, List.length_set]; omega) | fail, by first | exact @rfl Nat _ | omega | (simp; done) | (simp; omega) | exact Nat.le_of_ble_eq_true rfl | (show _ * 4 ≤ _; omega) | decide | (simp [ti5]; done) | (simp [ti5]; omega) | (simp only [ti5, List.length_map]; omega) | (simp only [ti5_sz, ti25_sz, List.length_map, List.length_set]; omega) | fail, by first | exact @rfl Nat _ | omega | (simp; done) | (simp; omega) | exact Nat.le_of_ble_eq_true rfl | (show _ * 4 ≤ _; omega) | decide | (simp [ti5]; done) | (simp [ti5]; omega) | (simp only [ti5, List.length_map]; omega) | (simp only [ti5_sz, ti25_sz, List.length_map, List.length_set]; omega) | fail, by first | exact @rfl Nat _ | omega | (simp; done) | (simp; omega) | exact Nat.le_of_ble_eq_true rfl | (show _ * 4 ≤ _; omega) | decide | (simp [ti5]; done) | (simp [ti5]; omega) | (simp only [ti5, List.length_map]; omega) | (simp only [ti5_sz, ti25_sz, List.length_map, List.length_set]; omega) | fail⟩ ?_; conv => whnf) | fail)
  refine ok1_callF [] [] true (f21) rfl rfl ⟨⟨rfl, by first | rfl | ((repeat' (first | exact wk_nil | exact ren_z8 | exact ren_m8 rfl | exact ren_m32 rfl | exact ren_m64 rfl | exact ren_mi rfl | exact rfl | exact ren_eq (by first | (simp; done) | fail) rfl | (refine wk_agg ?_) | (refine wk_cons ?_ ?_))); done) | (simp [renL, renV]; done) | (simp [renL, renV]; omega)⟩, trivial, by first | rfl | simp [plainHf, plainB], by first | rfl | simp [plainRf, plainR, plainT, plainW], ?_⟩
  conv => whnf
  repeat (first | (refine Exists.intro _ (And.intro bytesOf_all ?_); conv => whnf) | (refine Exists.intro _ (And.intro (bytesOf_cut rfl) ?_); conv => whnf) | (refine brT rfl ?_; conv => whnf) | (refine brF rfl ?_; conv => whnf) | (refine gdT rfl ?_; conv => whnf) | (refine gdF rfl ?_; conv => whnf) | (refine Exists.intro _ (And.intro (sload_all rfl (by first | rfl | (simp; done) | (simp; omega))) ?_); conv => whnf) | (refine Exists.intro _ (And.intro (sput_all rfl (by first | rfl | (simp; done) | (simp; omega))) ?_); conv => whnf) | (refine Exists.intro _ (And.intro rfl ?_); conv => whnf) | (refine pkT rfl ?_; conv => whnf) | (refine pkF rfl ?_; conv => whnf) | (refine gdT (by first | (simp; done) | fail) ?_; conv => whnf) | (refine gdF (by first | (simp; done) | fail) ?_; conv => whnf) | (refine brT (by first | (simp; done) | fail) ?_; conv => whnf) | (refine brF (by first | (simp; done) | fail) ?_; conv => whnf) | (refine pkT (by first | (simp; done) | fail) ?_; conv => whnf) | (refine pkF (by first | (simp; done) | fail) ?_; conv => whnf) | (refine And.intro ⟨rfl, rfl⟩ ?_; conv => whnf) | (refine And.intro (by first | omega | (simp; done) | (simp; omega) | (simp [ti5]; omega)) ?_; conv => whnf) | (refine And.intro (Nat.le_of_ble_eq_true rfl) ?_; conv => whnf) | (refine And.intro ⟨rfl, Nat.le_of_ble_eq_true rfl⟩ ?_; conv => whnf) | (refine And.intro ⟨Nat.le_of_ble_eq_true rfl, Nat.le_of_ble_eq_true rfl⟩ ?_; conv => whnf) | (refine And.intro ⟨Nat.le_of_ble_eq_true rfl, Nat.le_of_ble_eq_true rfl, Nat.le_of_ble_eq_true rfl⟩ ?_; conv => whnf) | (refine And.intro ⟨Nat.le_of_ble_eq_true rfl, Nat.le_of_ble_eq_true rfl, Nat.le_of_ble_eq_true rfl, Nat.le_of_ble_eq_true rfl⟩ ?_; conv => whnf) | (refine And.intro (by kernel_rfl) ?_; conv => whnf) | (refine And.intro ⟨by first | exact @rfl Nat _ | omega | (simp; done) | (simp; omega) | exact Nat.le_of_ble_eq_true rfl | (show _ * 4 ≤ _; omega) | decide | (simp [ti5]; done) | (simp [ti5]; omega) | (simp only [ti5, List.length_map]; omega) | (simp only [ti5_sz, ti25_sz, List.length_map, List.length_set]; omega) | fail, by first | exact @rfl Nat _ | omega | (simp; done) | (simp; omega) | exact Nat.le_of_ble_eq_true rfl | (show _ * 4 ≤ _; omega) | decide | (simp [ti5]; done) | (simp [ti5]; omega) | (simp only [ti5, List.length_map]; omega) | (simp only [ti5_sz, ti25_sz, List.length_map, List.length_set]; omega) | fail⟩ ?_; conv => whnf) | (refine And.intro ⟨by first | exact @rfl Nat _ | omega | (simp; done) | (simp; omega) | exact Nat.le_of_ble_eq_true rfl | (show _ * 4 ≤ _; omega) | decide | (simp [ti5]; done) | (simp [ti5]; omega) | (simp only [ti5, List.length_map]; omega) | (simp only [ti5_sz, ti25_sz, List.length_map, List.length_set]; omega) | fail, by first | exact @rfl Nat _ | omega | (simp; done) | (simp; omega) | exact Nat.le_of_ble_eq_true rfl | (show _ * 4 ≤ _; omega) | decide | (simp [ti5]; done) | (simp [ti5]; omega) | (simp only [ti5, List.length_map]; omega) | (simp only [ti5_sz, ti25_sz, List.length_map, List.length_set]; omega) | fail, by first | exact @rfl Nat _ | omega | (simp; done) | (simp; omega) | exact Nat.le_of_ble_eq_true rfl | (show _ * 4 ≤ _; omega) | decide | (simp [ti5]; done) | (simp [ti5]; omega) | (simp only [ti5, List.length_map]; omega) | (simp only [ti5_sz, ti25_sz, List.length_map, List.length_set]; omega) | fail⟩ ?_; conv => whnf) | (refine And.intro ⟨by first | exact @rfl Nat _ | omega | (simp; done) | (simp; omega) | exact Nat.le_of_ble_eq_true rfl | (show _ * 4 ≤ _; omega) | decide | (simp [ti5]; done) | (simp [ti5]; omega) | (simp only [ti5, List.length_map]; omega) | (simp only [ti5_sz, ti25_sz, List.length_map, List.length_set]; omega) | fail, by first | exact @rfl Nat _ | omega | (simp; done) | (simp; omega) | exact Nat.le_of_ble_eq_true rfl | (show _ * 4 ≤ _; omega) | decide | (simp [ti5]; done) | (simp [ti5]; omega) | (simp only [ti5, List.length_map]; omega) | (simp only [ti5_sz, ti25_sz, List.length_map, List.length_set]; omega) | fail, by first | exact @rfl Nat _ | omega | (simp; done) | (simp; omega) | exact Nat.le_of_ble_eq_true rfl | (show _ * 4 ≤ _; omega) | decide | (simp [ti5]; done) | (simp [ti5]; omega) | (simp only [ti5, List.length_map]; omega) | (simp only [ti5_sz, ti25_sz, List.length_map, List.length_set]; omega) | fail, by first | exact @rfl Nat _ | omega | (simp; done) | (simp; omega) | exact Nat.le_of_ble_eq_true rfl | (show _ * 4 ≤ _; omega) | decide | (simp [ti5]; done) | (simp [ti5]; omega) | (simp only [ti5, List.length_map]; omega) | (simp only [ti5_sz, ti25_sz, List.length_map, List.length_set]; omega) | fail⟩ ?_; conv => whnf) | fail)
  refine ok1_callF [0, 1] [false, false] true (q28) rfl rfl ⟨⟨rfl, by first | rfl | ((repeat' (first | exact wk_nil | exact ren_z8 | exact ren_m8 rfl | exact ren_m32 rfl | exact ren_m64 rfl | exact ren_mi rfl | exact rfl | exact ren_eq (by first | (simp; done) | fail) rfl | (refine wk_agg ?_) | (refine wk_cons ?_ ?_))); done) | (simp [renL, renV]; done) | (simp [renL, renV]; omega)⟩, by (repeat' (first | exact trivial | refine And.intro ?_ ?_)) <;> first | rfl | exact ren_eq (by first | (simp; done) | fail) (by first | rfl | (simp; done) | fail) | exact ren_app2 (by first | (simp; done) | fail) (by first | rfl | (simp; done) | fail) (by first | rfl | (simp; done) | fail) | ((repeat' (first | exact wk_nil | (refine wk_cons ?_ ?_))) <;> first | rfl | exact ren_eq (by first | (simp; done) | fail) rfl | exact wk_sl rfl (by first | rfl | omega) (by first | rfl | omega)), by first | rfl | simp [plainHf, plainB], by first | rfl | simp [plainRf, plainR, plainT, plainW], ?_⟩
  conv => whnf
  repeat (first | (refine Exists.intro _ (And.intro bytesOf_all ?_); conv => whnf) | (refine Exists.intro _ (And.intro (bytesOf_cut rfl) ?_); conv => whnf) | (refine brT rfl ?_; conv => whnf) | (refine brF rfl ?_; conv => whnf) | (refine gdT rfl ?_; conv => whnf) | (refine gdF rfl ?_; conv => whnf) | (refine Exists.intro _ (And.intro (sload_all rfl (by first | rfl | (simp; done) | (simp; omega))) ?_); conv => whnf) | (refine Exists.intro _ (And.intro (sput_all rfl (by first | rfl | (simp; done) | (simp; omega))) ?_); conv => whnf) | (refine Exists.intro _ (And.intro rfl ?_); conv => whnf) | (refine pkT rfl ?_; conv => whnf) | (refine pkF rfl ?_; conv => whnf) | (refine gdT (by first | (simp; done) | fail) ?_; conv => whnf) | (refine gdF (by first | (simp; done) | fail) ?_; conv => whnf) | (refine brT (by first | (simp; done) | fail) ?_; conv => whnf) | (refine brF (by first | (simp; done) | fail) ?_; conv => whnf) | (refine pkT (by first | (simp; done) | fail) ?_; conv => whnf) | (refine pkF (by first | (simp; done) | fail) ?_; conv => whnf) | (refine And.intro ⟨rfl, rfl⟩ ?_; conv => whnf) | (refine And.intro (by first | omega | (simp; done) | (simp; omega) | (simp [ti5]; omega)) ?_; conv => whnf) | (refine And.intro (Nat.le_of_ble_eq_true rfl) ?_; conv => whnf) | (refine And.intro ⟨rfl, Nat.le_of_ble_eq_true rfl⟩ ?_; conv => whnf) | (refine And.intro ⟨Nat.le_of_ble_eq_true rfl, Nat.le_of_ble_eq_true rfl⟩ ?_; conv => whnf) | (refine And.intro ⟨Nat.le_of_ble_eq_true rfl, Nat.le_of_ble_eq_true rfl, Nat.le_of_ble_eq_true rfl⟩ ?_; conv => whnf) | (refine And.intro ⟨Nat.le_of_ble_eq_true rfl, Nat.le_of_ble_eq_true rfl, Nat.le_of_ble_eq_true rfl, Nat.le_of_ble_eq_true rfl⟩ ?_; conv => whnf) | (refine And.intro (by kernel_rfl) ?_; conv => whnf) | (refine And.intro ⟨by first | exact @rfl Nat _ | omega | (simp; done) | (simp; omega) | exact Nat.le_of_ble_eq_true rfl | (show _ * 4 ≤ _; omega) | decide | (simp [ti5]; done) | (simp [ti5]; omega) | (simp only [ti5, List.length_map]; omega) | (simp only [ti5_sz, ti25_sz, List.length_map, List.length_set]; omega) | fail, by first | exact @rfl Nat _ | omega | (simp; done) | (simp; omega) | exact Nat.le_of_ble_eq_true rfl | (show _ * 4 ≤ _; omega) | decide | (simp [ti5]; done) | (simp [ti5]; omega) | (simp only [ti5, List.length_map]; omega) | (simp only [ti5_sz, ti25_sz, List.length_map, List.length_set]; omega) | fail⟩ ?_; conv => whnf) | (refine And.intro ⟨by first | exact @rfl Nat _ | omega | (simp; done) | (simp; omega) | exact Nat.le_of_ble_eq_true rfl | (show _ * 4 ≤ _; omega) | decide | (simp [ti5]; done) | (simp [ti5]; omega) | (simp only [ti5, List.length_map]; omega) | (simp only [ti5_sz, ti25_sz, List.length_map, List.length_set]; omega) | fail, by first | exact @rfl Nat _ | omega | (simp; done) | (simp; omega) | exact Nat.le_of_ble_eq_true rfl | (show _ * 4 ≤ _; omega) | decide | (simp [ti5]; done) | (simp [ti5]; omega) | (simp only [ti5, List.length_map]; omega) | (simp only [ti5_sz, ti25_sz, List.length_map, List.length_set]; omega) | fail, by first | exact @rfl Nat _ | omega | (simp; done) | (simp; omega) | exact Nat.le_of_ble_eq_true rfl | (show _ * 4 ≤ _; omega) | decide | (simp [ti5]; done) | (simp [ti5]; omega) | (simp only [ti5, List.length_map]; omega) | (simp only [ti5_sz, ti25_sz, List.length_map, List.length_set]; omega) | fail⟩ ?_; conv => whnf) | (refine And.intro ⟨by first | exact @rfl Nat _ | omega | (simp; done) | (simp; omega) | exact Nat.le_of_ble_eq_true rfl | (show _ * 4 ≤ _; omega) | decide | (simp [ti5]; done) | (simp [ti5]; omega) | (simp only [ti5, List.length_map]; omega) | (simp only [ti5_sz, ti25_sz, List.length_map, List.length_set]; omega) | fail, by first | exact @rfl Nat _ | omega | (simp; done) | (simp; omega) | exact Nat.le_of_ble_eq_true rfl | (show _ * 4 ≤ _; omega) | decide | (simp [ti5]; done) | (simp [ti5]; omega) | (simp only [ti5, List.length_map]; omega) | (simp only [ti5_sz, ti25_sz, List.length_map, List.length_set]; omega) | fail, by first | exact @rfl Nat _ | omega | (simp; done) | (simp; omega) | exact Nat.le_of_ble_eq_true rfl | (show _ * 4 ≤ _; omega) | decide | (simp [ti5]; done) | (simp [ti5]; omega) | (simp only [ti5, List.length_map]; omega) | (simp only [ti5_sz, ti25_sz, List.length_map, List.length_set]; omega) | fail, by first | exact @rfl Nat _ | omega | (simp; done) | (simp; omega) | exact Nat.le_of_ble_eq_true rfl | (show _ * 4 ≤ _; omega) | decide | (simp [ti5]; done) | (simp [ti5]; omega) | (simp only [ti5, List.length_map]; omega) | (simp only [ti5_sz, ti25_sz, List.length_map, List.length_set]; omega) | fail⟩ ?_; conv => whnf) | fail)
  refine ⟨[0, 1], ?_, rfl, rfl, ?_, rfl⟩
  ·
   (repeat' (first | exact trivial | exact ren_z8 | exact ren_zi | exact ren_z32 | exact ren_z64 | refine And.intro ?_ ?_ | (refine wk_tup ?_) | (refine wk_agg ?_) | (refine wk_cons ?_ ?_))) <;> first | exact ren_z8 | exact ren_zi | exact ren_z32 | exact ren_z64 | rfl | exact wk_i (by first | rfl | omega | (simp; done) | (simp; omega) | fail) | exact wk_sl rfl (by first | rfl | omega | (simp; done) | (simp; omega) | fail) (by first | rfl | omega | (simp; done) | (simp; omega) | fail) | exact ren_eq (by first | rfl | (simp; done) | fail) (by first | rfl | omega | (simp; done) | (simp; omega) | fail) | exact ren_app2 (by first | rfl | (simp; done) | fail) (by first | rfl | (simp; done) | fail) rfl | exact wk_u64 (by first | rfl | omega | (simp; done) | (simp; omega) | fail) | exact wk_u8 (by first | rfl | omega | (simp; done) | (simp; omega) | fail) | exact wk_u32 (by first | rfl | omega | (simp; done) | (simp; omega) | fail) | exact wk_b (by first | rfl | omega | (simp; done) | (simp; omega) | fail) | exact ren_m8 (by first | rfl | omega | (simp; done) | (simp; omega) | fail) | exact ren_m32 (by first | rfl | omega | (simp; done) | (simp; omega) | fail) | exact ren_m64 (by first | rfl | omega | (simp; done) | (simp; omega) | fail) | exact ren_mi (by first | rfl | omega | (simp; done) | (simp; omega) | fail) | skip
  ·
   (repeat' (first | exact trivial | exact ren_z8 | exact ren_zi | exact ren_z32 | exact ren_z64 | refine And.intro ?_ ?_ | (refine wk_tup ?_) | (refine wk_agg ?_) | (refine wk_cons ?_ ?_))) <;> first | exact ren_z8 | exact ren_zi | exact ren_z32 | exact ren_z64 | rfl | exact wk_i (by first | rfl | omega | (simp; done) | (simp; omega) | fail) | exact wk_sl rfl (by first | rfl | omega | (simp; done) | (simp; omega) | fail) (by first | rfl | omega | (simp; done) | (simp; omega) | fail) | exact ren_eq (by first | rfl | (simp; done) | fail) (by first | rfl | omega | (simp; done) | (simp; omega) | fail) | exact ren_app2 (by first | rfl | (simp; done) | fail) (by first | rfl | (simp; done) | fail) rfl | exact wk_u64 (by first | rfl | omega | (simp; done) | (simp; omega) | fail) | exact wk_u8 (by first | rfl | omega | (simp; done) | (simp; omega) | fail) | exact wk_u32 (by first | rfl | omega | (simp; done) | (simp; omega) | fail) | exact wk_b (by first | rfl | omega | (simp; done) | (simp; omega) | fail) | exact ren_m8 (by first | rfl | omega | (simp; done) | (simp; omega) | fail) | exact ren_m32 (by first | rfl | omega | (simp; done) | (simp; omega) | fail) | exact ren_m64 (by first | rfl | omega | (simp; done) | (simp; omega) | fail) | exact ren_mi (by first | rfl | omega | (simp; done) | (simp; omega) | fail) | skip
end Go.Sh
