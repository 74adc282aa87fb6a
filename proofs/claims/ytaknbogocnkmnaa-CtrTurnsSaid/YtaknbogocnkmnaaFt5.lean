/- Merged for a claim: F10, F5, F11, F12, Sh37. -/
import Derived.SizedLaws
import Derived.Test.YtaknbogocnkmnaaFt4
set_option linter.unusedSimpArgs false
set_option linter.unusedVariables false
namespace Go.Sh
open Go.Proofs
set_option maxHeartbeats 4000000
attribute [local irreducible] pTx
theorem f53_g (n : Nat) (fl : Bool) (w : List UInt8) (R : Nat) (hn : n = 4 * (R + 1)) (hw : w.length = 16 * (R + 1)) (hR1 : 1 ≤ R) (hR2 : R ≤ 20) (c : List UInt8) (ps : List Part) (b : List UInt8) (hbp : pTx ps ps.length = b) (hps : ps.length < 1000000) (hc : c.length = 16) (hb : b.length < 10000000000000) (f1 : Bool) :
  SCall Try.prog 53 [.p 0 0, .agg (c.map .u8), .sl 2 0 ps.length 1 f1] [some (.ro (sbx.map .u8 ++ [.sl 1 0 n 4 fl])), some (.ro (w.map .u8)), some (.ro (ps.map pLit)), some (.ext (.fam (ps.map pFe)))]
   (.tup [.sl 4 0 b.length 1 false, .i 0]) [some (.ro (sbx.map .u8 ++ [.sl 1 0 n 4 fl])), some (.ro (w.map .u8)), some (.ro (ps.map pLit)), some (.ext (.fam (ps.map pFe))), some (.row 5 ((turnL w R c b).map .u8))] := by
 have h89 := f89 n fl w c
 refine scall_of ttOk (by kernel_rfl : Try.prog.funcs[53]? = some Try.f53) rfl rfl rfl ?_
 try simp only [List.length_cons, List.length_nil, Nat.zero_add, Nat.reduceAdd]
 refine sw_ok ttOk mixed (by kernel_rfl) ?_
 conv => whnf
 repeat (first | (refine brF rfl ?_; conv => whnf) | (refine And.intro (by kernel_rfl) ?_; conv => whnf) | fail)
 refine SWp.weak (Weak.virtB 5 0 5 1 rfl rfl rfl rfl rfl) ?_
 refine loop_rulex [7] ttOk mixed (by kernel_rfl) (ι := { i : Nat // i ≤ ps.length }) (fun i => [(0, .p 0 0), (4, .p 4 0), (8, .p 5 0), (16, .sl 2 0 ps.length 1 f1), (17, .i (ps.length : Int)), (18, .i (i.1 : Int))]) (fun i => [some (.ro (sbx.map .u8 ++ [.sl 1 0 n 4 fl])), some (.ro (w.map .u8)), some (.ro (ps.map pLit)), some (.ext (.fam (ps.map pFe))), some (.box (c.map .u8)), some (.box [.sl 6 0 (pTx ps i.1).length 1 false]), some (.row 5 ((pTx ps i.1).map .u8))]) (fun _ => 7) (fun i => ps.length - i.1) ⟨0, by omega⟩ ?_ ?_
 ·
  have hz := pTx_z ps
  dsimp only
  rw [hz]
  refine Weak.sel [0, 1, 2, 3, 4, 5, 6] rfl rfl ?_ ?_ rfl rfl
  ·
   (repeat' (first | exact trivial | refine And.intro ?_ ?_ | fail)) <;> first | rfl | fail
  ·
   (repeat' (first | exact trivial | refine And.intro ?_ ?_ | (refine wk_cons ?_ ?_))) <;> first | rfl | exact ren_eq (by first | (simp; done) | fail) (by first | rfl | fail) | exact ren_app2 (by first | (simp; done) | fail) (by first | rfl | fail) rfl | fail
 ·
  rintro ⟨i, hi⟩
  dsimp only
  have hle := pTx_le ps i
  rw [hbp] at hle
  by_cases hi2 : i < ps.length
  ·
   obtain ⟨p, hp⟩ : ∃ p, ps[i]? = some p := ⟨_, List.getElem?_eq_getElem hi2⟩
   have hld := sload_lit hp
   have hmem : pFe p ∈ ps.map pFe := List.mem_map_of_mem (List.mem_of_getElem? hp)
   have htxs := pTx_s hp
   have hle1 := pTx_le ps (i + 1)
   rw [hbp] at hle1
   have hlt : decide ((i : Int) < (ps.length : Int)) = true := by simp; omega
   have hp1 : w64 ((i : Int) + 1) = ((i + 1 : Nat) : Int) := by simp only [w64_eq]; omega
   obtain ⟨pv, prb, pb⟩ := p
   dsimp only at htxs
   obtain ⟨Y, hY⟩ : ∃ Y, Y = pTx ps i := ⟨_, rfl⟩
   rw [← hY] at htxs hle ⊢
   have hl : (pTx ps (i + 1)).length = Y.length + pb.length := by rw [htxs, List.length_append]
   have hap := rcatJ (E := Y) (b := pb) rfl rfl
   conv => whnf
   first | refine brT (by exact hlt) ?_ | fail
   conv => whnf
   repeat (first | (refine Exists.intro _ (And.intro (hld) ?_); conv => whnf) | (refine Exists.intro _ (And.intro rfl ?_); conv => whnf) | (refine And.intro (by first | omega | fail) ?_; conv => whnf) | fail)
   refine SWp.weak (focus_p 10 3 rfl hmem rfl) ?_
   refine sw_ok ttOk mixed (by kernel_rfl) ?_
   conv => whnf
   repeat (first | (refine Exists.intro _ (And.intro rfl ?_); conv => whnf) | (refine And.intro (by first | omega | (simp; done) | (simp [ti5]; omega)) ?_; conv => whnf) | fail)
   refine ⟨⟨i + 1, by omega⟩, by simp only; omega, ?_⟩
   dsimp only
   rw [hl, htxs]
   refine Weak.sel [0, 1, 2, 3, 4, 5, 8] rfl rfl ?_ ?_ rfl rfl
   ·
    (repeat' (first | exact trivial | refine And.intro ?_ ?_ | fail)) <;> first | exact wk_i (by first | exact hp1 | exact hp1.symm | fail) | rfl | fail
   ·
    (repeat' (first | exact trivial | exact ren_eq (plainL_u8 _) hap | refine And.intro ?_ ?_ | (refine wk_cons ?_ ?_))) <;> first | rfl | exact ren_eq (by first | (simp; done) | fail) (by first | rfl | fail) | exact ren_app2 (by first | (simp; done) | fail) (by first | rfl | fail) rfl | fail
  ·
   obtain rfl : i = ps.length := by omega
   have hlt : decide ((ps.length : Int) < (ps.length : Int)) = false := by simp
   rw [hbp]
   conv => whnf
   first | refine brF (by exact hlt) ?_ | fail
   conv => whnf
   repeat (first | (refine Exists.intro _ (And.intro (sload_all rfl (by first | rfl | (simp; omega))) ?_); conv => whnf) | (refine Exists.intro _ (And.intro rfl ?_); conv => whnf) | (refine And.intro (by first | omega | (simp; done) | fail) ?_; conv => whnf) | fail)
   refine ok1_callF [0, 1] [false, true, false, true] false (h89) rfl rfl ⟨⟨rfl, by first | ((repeat' (first | exact wk_nil | exact ren_m8 rfl | exact rfl | (refine wk_agg ?_) | (refine wk_cons ?_ ?_))); done) | fail⟩, by (repeat' (first | exact trivial | refine And.intro ?_ ?_)) <;> first | exact ren_eq (by first | (simp; done) | fail) (by first | rfl | fail) | exact ren_app2 (by first | (simp; done) | fail) (by first | rfl | fail) (by first | rfl | fail) | fail, by first | simp [plainHf, plainB], by first | rfl | fail, ?_⟩
   conv => whnf
   repeat (fail)
   refine SWp.weak (R0 := [(8, .p 5 0), (11, .p 7 0), (28, .fn 102 [.p 8 0, .p 9 0])]) (H0 := [some (.ro (sbx.map .u8 ++ [.sl 1 0 n 4 fl])), some (.ro (w.map .u8)), some (.ro (ps.map pLit)), some (.ext (.fam (ps.map pFe))), none, some (.box [.sl 6 0 b.length 1 false]), some (.row 5 (b.map .u8)), some (.box [.i 0]), some (.box [.p 0 0]), some (.box (c.map .u8))]) (L0 := 10) ?_ ?_
   ·
    refine Weak.sel [0, 1, 2, 3, 4, 5, 6, 7, 8, 9] rfl rfl ?_ ?_ rfl rfl
    ·
     (repeat' (first | exact trivial | refine And.intro ?_ ?_ | fail)) <;> first | rfl | fail
    ·
     (repeat' (first | exact trivial | refine And.intro ?_ ?_ | (refine wk_cons ?_ ?_))) <;> first | rfl | exact ren_eq (by first | (simp; done) | fail) (by first | rfl | fail) | exact ren_app2 (by first | (simp; done) | fail) (by first | rfl | fail) rfl | fail
   refine range_named rfl rfl rfl (by kernel_rfl : Try.prog.funcs[102]? = some Try.f102) rfl rfl rfl rfl ?_
   intro asq bdq hasq hbdq
   refine sw_ok ttOk mixed (by kernel_rfl) ?_
   conv => whnf
   repeat (fail)
   refine loop_rule ttOk mixed (by kernel_rfl) (ι := { k : Nat // k = 0 ∨ 16 * k < b.length }) (fun k => [(0, .yld 10), (1, .p 8 0), (2, .p 9 0)]) (fun k => [some (.ro (sbx.map .u8 ++ [.sl 1 0 n 4 fl])), some (.ro (w.map .u8)), some (.ro (ps.map pLit)), some (.ext (.fam (ps.map pFe))), none, some (.box [.sl 6 0 b.length 1 false]), some (.row 5 ((fil b.length (16 * k.1) (trn w R c b) (fun j => b.getD j 0)).map .u8)), some (.box [.i ((16 * k.1 : Nat) : Int)]), some (.box [.p 0 0]), some (.box ((ctrN c k.1).map .u8)), some (.obj (.loop [(8, .p 5 0), (11, .p 7 0)] Try.f53.ntmps [29] asq bdq))]) (fun _ => 11) (fun k => b.length - 16 * k.1) ⟨0, .inl rfl⟩ ?_ ?_
   ·
    have hz : fil b.length (16 * 0) (trn w R c b) (fun j => b.getD j 0) = b := fil_of_list rfl
    refine Weak.sel [0, 1, 2, 3, 4, 5, 6, 7, 8, 9, 10] rfl rfl ?_ ?_ rfl rfl
    ·
     (repeat' (first | exact trivial | refine And.intro ?_ ?_ | fail)) <;> first | rfl | fail
    ·
     (repeat' (first | exact trivial | refine And.intro ?_ ?_ | (refine wk_cons ?_ ?_))) <;> first | exact ren_m8 (by first | exact hz | fail) | rfl | exact ren_eq (by first | (simp; done) | fail) (by first | rfl | fail) | exact ren_app2 (by first | (simp; done) | fail) (by first | rfl | fail) rfl | fail
   ·
    rintro ⟨k, hk⟩
    have hf := fil_len b.length (16 * k) (trn w R c b) (fun j => b.getD j 0)
    have hcl := ctrN_len hc k
    have hse := f47L n fl w R hn hw hR1 hR2 (ctrN c k) hcl
    have h54 := f54L (ctrN c k) hcl
    rw [ksB_eq] at hse
    have hkl := ksB_len (w := w) (R := R) hc k
    dsimp only
    conv => whnf
    repeat (first | (refine brT rfl ?_; conv => whnf) | (refine Exists.intro _ (And.intro (sload_all rfl (by first | rfl | (simp; omega))) ?_); conv => whnf) | (refine Exists.intro _ (And.intro rfl ?_); conv => whnf) | (refine And.intro (by kernel_rfl) ?_; conv => whnf) | fail)
    refine ok1_callF [0, 1] [false, false] true (hse) rfl rfl ⟨⟨rfl, by first | ((repeat' (first | exact wk_nil | exact ren_m8 rfl | exact rfl | (refine wk_agg ?_) | (refine wk_cons ?_ ?_))); done) | fail⟩, by (repeat' (first | exact trivial | refine And.intro ?_ ?_)) <;> first | exact ren_eq (by first | (simp; done) | fail) (by first | rfl | fail) | exact ren_app2 (by first | (simp; done) | fail) (by first | rfl | fail) (by first | rfl | fail) | fail, by first | rfl | fail, by first | simp [plainRf, plainR, plainT, plainW], ?_⟩
    conv => whnf
    repeat (first | (refine brT rfl ?_; conv => whnf) | fail)
    have hcase : b.length ≤ 16 * (k + 1) ∨ 16 * (k + 1) < b.length := by omega
    rcases hcase with hca | hca
    ·
     refine ok1_yield 10 [5, 6, 7] [false, false, true, true] (syield_of (ps := [29]) (N := Try.f53.ntmps) (R0 := [(8, .p 1 0), (11, .p 3 0)]) (args0 := [.agg ((ksB w R c k).map .u8)]) (ex := (.exit 2)) (H0t := [some (.box [.sl 2 0 b.length 1 false]), some (.row 5 ((fil b.length (16 * k) (trn w R c b) (fun j => b.getD j 0)).map .u8)), some (.box [.i ((16 * k : Nat) : Int)])]) (H1t := [some (.box [.sl 2 0 b.length 1 false]), some (.row 5 ((fil b.length (b.length) (trn w R c b) (fun j => b.getD j 0)).map .u8)), some (.box [.i ((b.length : Nat) : Int)])]) (.inr (.inr ⟨2, rfl⟩)) rfl rfl rfl ?_) rfl rfl ⟨⟨rfl, by first | ((repeat' (first | exact wk_nil | exact ren_m8 rfl | (refine wk_agg ?_) | (refine wk_cons ?_ ?_))); done)⟩, by (repeat' (first | exact trivial | refine And.intro ?_ ?_)) <;> first | exact ren_m8 rfl | rfl | fail, by first | (simp [plainHf, plainB]; done) | fail, ?_⟩
     ·
      subst hasq
      subst hbdq
      refine sw_ok ttOk mixed (by kernel_rfl) ?_
      conv => whnf
      repeat (first | (refine Exists.intro _ (And.intro (sput_all rfl (by first | rfl | (simp [hkl]; done) | fail)) ?_); conv => whnf) | (refine And.intro (by first | omega | (simp; done) | (simp; omega) | fail) ?_; conv => whnf) | (refine And.intro (by kernel_rfl) ?_; conv => whnf) | fail)
      refine sw_ok ttOk mixed (by kernel_rfl) ?_
      conv => whnf
      repeat (fail)
      refine loop_rule ttOk mixed (by kernel_rfl) (ι := { i : Nat // i ≤ 16 ∧ 16 * k + i ≤ b.length }) (fun i => [(8, .p 1 0), (11, .p 3 0), (12, .p 4 0), (13, .i (i.1 : Int))]) (fun i => [none, some (.box [.sl 2 0 b.length 1 false]), some (.row 5 ((fil b.length (16 * k + i.1) (trn w R c b) (fun j => b.getD j 0)).map .u8)), some (.box [.i ((16 * k + i.1 : Nat) : Int)]), some (.box ((ksB w R c k).map .u8))]) (fun _ => 5) (fun i => 16 - i.1) ⟨0, by omega, by omega⟩ ?_ ?_
      ·
       refine Weak.sel [0, 1, 2, 3, 4] rfl rfl ?_ ?_ rfl rfl
       ·
        (repeat' (first | exact trivial | refine And.intro ?_ ?_ | fail)) <;> first | rfl | fail
       ·
        (repeat' (first | exact trivial | refine And.intro ?_ ?_ | (refine wk_cons ?_ ?_))) <;> first | rfl | exact ren_eq (by first | (simp; done) | fail) (by first | rfl | fail) | fail
      ·
       rintro ⟨i, hi, him⟩
       have hf := fil_len b.length (16 * k + i) (trn w R c b) (fun j => b.getD j 0)
       dsimp only
       by_cases hi2 : i < 16
       ·
        have hl1 : decide ((i : Int) < 16) = true := by simp; omega
        by_cases hm2 : 16 * k + i < b.length
        ·
         have hl2 : decide (((16 * k + i : Nat) : Int) < (b.length : Int)) = true := by simp; omega
         have hp1 := wp1 i (by omega)
         have hp2 := wp1 (16 * k + i) (by omega)
         have hx : (fil b.length (16 * k + i) (trn w R c b) (fun j => b.getD j 0)).getD (16 * k + i) 0 ^^^ (ksB w R c k).getD i 0 = trn w R c b (16 * k + i) := by
          rw [fil_getD hm2, if_neg (by omega)]
          unfold trn
          rw [show (16 * k + i) / 16 = k by omega, show (16 * k + i) % 16 = i by omega]
         have hst := fil_setx (g := fun j => b.getD j 0) hm2 hx
         conv => whnf
         repeat (first | (refine gdT hl1 ?_; conv => whnf) | (refine pkT hl1 ?_; conv => whnf) | (refine gdT hl2 ?_; conv => whnf) | (refine Exists.intro _ (And.intro (sput_m8 (i := 16 * k + i) (by first | rfl | omega | fail)) ?_); conv => whnf) | (refine Exists.intro _ (And.intro (sload_u8 (i := 16 * k + i) (by first | rfl | omega | fail) (by first | omega | fail)) ?_); conv => whnf) | (refine Exists.intro _ (And.intro (idx_i (m := 16 * k + i) (by first | rfl | fail)) ?_); conv => whnf) | (refine Exists.intro _ (And.intro (sload_u8 (i := i) (by first | rfl | (simp; done) | fail) (by first | omega | fail)) ?_); conv => whnf) | (refine Exists.intro _ (And.intro (idx_i (m := i) (by first | rfl | fail)) ?_); conv => whnf) | (refine Exists.intro _ (And.intro rfl ?_); conv => whnf) | (refine And.intro (by first | omega | (simp; done) | fail) ?_; conv => whnf) | (refine And.intro (by kernel_rfl) ?_; conv => whnf) | (refine And.intro ⟨by first | exact @rfl Nat _ | fail, by first | (simp only [hf, hkl, ti5, List.length_map]; omega) | fail⟩ ?_; conv => whnf) | fail)
         refine ⟨⟨i + 1, by omega, by omega⟩, by simp only; omega, ?_⟩
         refine Weak.sel [0, 1, 2, 3, 4] rfl rfl ?_ ?_ rfl rfl
         ·
          (repeat' (first | exact trivial | refine And.intro ?_ ?_ | fail)) <;> first | exact wk_i (by first | exact hp1 | exact hp1.symm | fail) | rfl | fail
         ·
          (repeat' (first | exact trivial | refine And.intro ?_ ?_ | (refine wk_cons ?_ ?_))) <;> first | exact ren_m8 (by first | exact hst | exact hst.symm | fail) | exact wk_i (by first | exact hp1 | exact hp2.symm | fail) | rfl | exact ren_eq (by first | (simp; done) | fail) (by first | rfl | fail) | fail
        ·
         have hl2 : decide (((16 * k + i : Nat) : Int) < (b.length : Int)) = false := by simp; omega
         have hmm : 16 * k + i = b.length := by omega
         have hl3 : (((16 * k + i : Nat) : Int) == (b.length : Int)) = true := by simp; omega
         conv => whnf
         repeat (first | (refine gdT hl1 ?_; conv => whnf) | (refine pkT hl1 ?_; conv => whnf) | (refine gdF hl2 ?_; conv => whnf) | (refine gdT hl3 ?_; conv => whnf) | (refine Exists.intro _ (And.intro rfl ?_); conv => whnf) | (refine And.intro (by first | omega | (simp; done) | fail) ?_; conv => whnf) | (refine And.intro (by kernel_rfl) ?_; conv => whnf) | fail)
         have hfm : fil b.length (16 * k + i) (trn w R c b) (fun j => b.getD j 0) = fil b.length (b.length) (trn w R c b) (fun j => b.getD j 0) := by rw [hmm]
         exact ⟨[0, 1, 2, 3], rfl, rfl, by (repeat' (first | exact trivial | refine And.intro ?_ ?_)) <;> first | exact ren_m8 (by first | rfl | exact hfm.symm | fail) | rfl | exact wk_cons (wk_i (by first | omega)) rfl, rfl⟩
       ·
        obtain rfl : i = 16 := by omega
        have hl1 : decide (((16 : Nat) : Int) < 16) = false := by decide
        have hmm : 16 * k + 16 = b.length := by omega
        have hl3 : (((16 * k + 16 : Nat) : Int) == (b.length : Int)) = true := by simp; omega
        conv => whnf
        repeat (first | (refine brF rfl ?_; conv => whnf) | (refine pkF hl1 ?_; conv => whnf) | (refine gdT hl3 ?_; conv => whnf) | (refine And.intro (by first | omega | (simp; done) | fail) ?_; conv => whnf) | (refine And.intro (by kernel_rfl) ?_; conv => whnf) | fail)
        have hfm : fil b.length (16 * k + 16) (trn w R c b) (fun j => b.getD j 0) = fil b.length (b.length) (trn w R c b) (fun j => b.getD j 0) := by rw [hmm]
        exact ⟨[0, 1, 2, 3], rfl, rfl, by (repeat' (first | exact trivial | refine And.intro ?_ ?_)) <;> first | exact ren_m8 (by first | rfl | exact hfm.symm | fail) | rfl | exact wk_cons (wk_i (by first | omega)) rfl, rfl⟩
     ·
      conv => whnf
      repeat (first | (refine brF rfl ?_; conv => whnf) | (refine Exists.intro _ (And.intro rfl ?_); conv => whnf) | fail)
      have htl : fil b.length b.length (trn w R c b) (fun j => b.getD j 0) = turnL w R c b := fil_full ..
      refine ⟨[0, 1, 2, 3, 6], ?_, rfl, rfl, ?_, rfl⟩
      ·
       (repeat' (first | (refine wk_tup ?_) | (refine wk_cons ?_ ?_))) <;> first | rfl | fail
      ·
       (repeat' (first | exact trivial | refine And.intro ?_ ?_ | fail)) <;> first | exact ren_m8 (by first | exact htl | exact htl.symm | fail) | rfl | exact ren_eq (by first | (simp; done) | fail) (by first | rfl | fail) | exact ren_app2 (by first | (simp; done) | fail) (by first | rfl | fail) rfl | fail
    ·
     refine ok1_yield 10 [5, 6, 7] [false, false, true, true] (syield_of (ps := [29]) (N := Try.f53.ntmps) (R0 := [(8, .p 1 0), (11, .p 3 0)]) (args0 := [.agg ((ksB w R c k).map .u8)]) (ex := .normal) (H0t := [some (.box [.sl 2 0 b.length 1 false]), some (.row 5 ((fil b.length (16 * k) (trn w R c b) (fun j => b.getD j 0)).map .u8)), some (.box [.i ((16 * k : Nat) : Int)])]) (H1t := [some (.box [.sl 2 0 b.length 1 false]), some (.row 5 ((fil b.length (16 * (k + 1)) (trn w R c b) (fun j => b.getD j 0)).map .u8)), some (.box [.i ((16 * (k + 1) : Nat) : Int)])]) (.inl rfl) rfl rfl rfl ?_) rfl rfl ⟨⟨rfl, by first | ((repeat' (first | exact wk_nil | exact ren_m8 rfl | (refine wk_agg ?_) | (refine wk_cons ?_ ?_))); done)⟩, by (repeat' (first | exact trivial | refine And.intro ?_ ?_)) <;> first | exact ren_m8 rfl | rfl | fail, by first | (simp [plainHf, plainB]; done) | fail, ?_⟩
     ·
      subst hasq
      subst hbdq
      refine sw_ok ttOk mixed (by kernel_rfl) ?_
      conv => whnf
      repeat (first | (refine Exists.intro _ (And.intro (sput_all rfl (by first | rfl | (simp [hkl]; done) | fail)) ?_); conv => whnf) | (refine And.intro (by first | omega | (simp; done) | (simp; omega) | fail) ?_; conv => whnf) | (refine And.intro (by kernel_rfl) ?_; conv => whnf) | fail)
      refine sw_ok ttOk mixed (by kernel_rfl) ?_
      conv => whnf
      repeat (fail)
      refine loop_rule ttOk mixed (by kernel_rfl) (ι := { i : Nat // i ≤ 16 ∧ 16 * k + i ≤ b.length }) (fun i => [(8, .p 1 0), (11, .p 3 0), (12, .p 4 0), (13, .i (i.1 : Int))]) (fun i => [none, some (.box [.sl 2 0 b.length 1 false]), some (.row 5 ((fil b.length (16 * k + i.1) (trn w R c b) (fun j => b.getD j 0)).map .u8)), some (.box [.i ((16 * k + i.1 : Nat) : Int)]), some (.box ((ksB w R c k).map .u8))]) (fun _ => 5) (fun i => 16 - i.1) ⟨0, by omega, by omega⟩ ?_ ?_
      ·
       refine Weak.sel [0, 1, 2, 3, 4] rfl rfl ?_ ?_ rfl rfl
       ·
        (repeat' (first | exact trivial | refine And.intro ?_ ?_ | fail)) <;> first | rfl | fail
       ·
        (repeat' (first | exact trivial | refine And.intro ?_ ?_ | (refine wk_cons ?_ ?_))) <;> first | rfl | exact ren_eq (by first | (simp; done) | fail) (by first | rfl | fail) | fail
      ·
       rintro ⟨i, hi, him⟩
       have hf := fil_len b.length (16 * k + i) (trn w R c b) (fun j => b.getD j 0)
       dsimp only
       by_cases hi2 : i < 16
       ·
        have hl1 : decide ((i : Int) < 16) = true := by simp; omega
        by_cases hm2 : 16 * k + i < b.length
        ·
         have hl2 : decide (((16 * k + i : Nat) : Int) < (b.length : Int)) = true := by simp; omega
         have hp1 := wp1 i (by omega)
         have hp2 := wp1 (16 * k + i) (by omega)
         have hx : (fil b.length (16 * k + i) (trn w R c b) (fun j => b.getD j 0)).getD (16 * k + i) 0 ^^^ (ksB w R c k).getD i 0 = trn w R c b (16 * k + i) := by
          rw [fil_getD hm2, if_neg (by omega)]
          unfold trn
          rw [show (16 * k + i) / 16 = k by omega, show (16 * k + i) % 16 = i by omega]
         have hst := fil_setx (g := fun j => b.getD j 0) hm2 hx
         conv => whnf
         repeat (first | (refine gdT hl1 ?_; conv => whnf) | (refine pkT hl1 ?_; conv => whnf) | (refine gdT hl2 ?_; conv => whnf) | (refine Exists.intro _ (And.intro (sput_m8 (i := 16 * k + i) (by first | rfl | omega | fail)) ?_); conv => whnf) | (refine Exists.intro _ (And.intro (sload_u8 (i := 16 * k + i) (by first | rfl | omega | fail) (by first | omega | fail)) ?_); conv => whnf) | (refine Exists.intro _ (And.intro (idx_i (m := 16 * k + i) (by first | rfl | fail)) ?_); conv => whnf) | (refine Exists.intro _ (And.intro (sload_u8 (i := i) (by first | rfl | (simp; done) | fail) (by first | omega | fail)) ?_); conv => whnf) | (refine Exists.intro _ (And.intro (idx_i (m := i) (by first | rfl | fail)) ?_); conv => whnf) | (refine Exists.intro _ (And.intro rfl ?_); conv => whnf) | (refine And.intro (by first | omega | (simp; done) | fail) ?_; conv => whnf) | (refine And.intro (by kernel_rfl) ?_; conv => whnf) | (refine And.intro ⟨by first | exact @rfl Nat _ | fail, by first | (simp only [hf, hkl, ti5, List.length_map]; omega) | fail⟩ ?_; conv => whnf) | fail)
         refine ⟨⟨i + 1, by omega, by omega⟩, by simp only; omega, ?_⟩
         refine Weak.sel [0, 1, 2, 3, 4] rfl rfl ?_ ?_ rfl rfl
         ·
          (repeat' (first | exact trivial | refine And.intro ?_ ?_ | fail)) <;> first | exact wk_i (by first | exact hp1 | exact hp1.symm | fail) | rfl | fail
         ·
          (repeat' (first | exact trivial | refine And.intro ?_ ?_ | (refine wk_cons ?_ ?_))) <;> first | exact ren_m8 (by first | exact hst | exact hst.symm | fail) | exact wk_i (by first | exact hp1 | exact hp2.symm | fail) | rfl | exact ren_eq (by first | (simp; done) | fail) (by first | rfl | fail) | fail
        ·
         have hl2 : decide (((16 * k + i : Nat) : Int) < (b.length : Int)) = false := by simp; omega
         exact absurd hca (by omega)
       ·
        obtain rfl : i = 16 := by omega
        have hl1 : decide (((16 : Nat) : Int) < 16) = false := by decide
        have hmm : 16 * k + 16 = 16 * (k + 1) := by omega
        have hl3 : (((16 * k + 16 : Nat) : Int) == (b.length : Int)) = false := by simp; omega
        conv => whnf
        repeat (first | (refine brF rfl ?_; conv => whnf) | (refine pkF hl1 ?_; conv => whnf) | (refine gdF hl3 ?_; conv => whnf) | (refine And.intro (by first | omega | (simp; done) | fail) ?_; conv => whnf) | (refine And.intro (by kernel_rfl) ?_; conv => whnf) | fail)
        have hfm : fil b.length (16 * k + 16) (trn w R c b) (fun j => b.getD j 0) = fil b.length (16 * (k + 1)) (trn w R c b) (fun j => b.getD j 0) := by rw [hmm]
        exact ⟨[0, 1, 2, 3], rfl, rfl, by (repeat' (first | exact trivial | refine And.intro ?_ ?_)) <;> first | exact ren_m8 (by first | rfl | fail) | rfl | fail, rfl⟩
     ·
      conv => whnf
      repeat (first | (refine brT rfl ?_; conv => whnf) | (refine Exists.intro _ (And.intro (sload_all rfl (by first | rfl | (simp; omega))) ?_); conv => whnf) | (refine Exists.intro _ (And.intro rfl ?_); conv => whnf) | fail)
      refine ok1_callF [] [] true (h54) rfl rfl ⟨⟨rfl, by first | ((repeat' (first | exact wk_nil | exact ren_m8 rfl | (refine wk_agg ?_) | (refine wk_cons ?_ ?_))); done) | fail⟩, trivial, by first | rfl | fail, by first | simp [plainRf, plainR, plainT, plainW], ?_⟩
      conv => whnf
      have hnl := nextC_len hcl
      repeat (first | (refine Exists.intro _ (And.intro (sput_all rfl (by first | rfl | (simp [hcl, hnl]; done) | fail)) ?_); conv => whnf) | (refine And.intro (by first | omega | (simp; omega) | fail) ?_; conv => whnf) | fail)
      refine ⟨⟨k + 1, .inr (by omega)⟩, by simp only; omega, ?_⟩
      refine Weak.sel [0, 1, 2, 3, 4, 5, 6, 7, 8, 9, 10] rfl rfl ?_ ?_ rfl rfl
      ·
       (repeat' (first | exact trivial | refine And.intro ?_ ?_ | fail)) <;> first | rfl | fail
      ·
       (repeat' (first | exact trivial | refine And.intro ?_ ?_ | (refine wk_cons ?_ ?_))) <;> first | rfl | exact ren_eq (by first | (simp; done) | fail) (by first | rfl | fail) | exact ren_app2 (by first | (simp; done) | fail) (by first | rfl | fail) rfl | fail
end Go.Sh
namespace Go.Sh
open Go.Proofs
theorem turnL_len (w : List UInt8) (R : Nat) (c b : List UInt8) : (turnL w R c b).length = b.length := by unfold turnL; exact rng_len
theorem turnL_getD (w : List UInt8) (R : Nat) (c b : List UInt8) (j : Nat) (h : j < b.length) : (turnL w R c b).getD j 0 = trn w R c b j := by unfold turnL; exact rng_getD h
theorem ext_getD {l m : List UInt8} (hl : l.length = m.length) (h : ∀ j, j < l.length → l.getD j 0 = m.getD j 0) : l = m := by
 apply List.ext_getElem hl
 intro j h1 h2
 have := h j h1
 rw [List.getD_eq_getElem?_getD, List.getD_eq_getElem?_getD, List.getElem?_eq_getElem h1, List.getElem?_eq_getElem h2] at this
 exact this
theorem turnL_twice (w : List UInt8) (R : Nat) (c b : List UInt8) : turnL w R c (turnL w R c b) = b := by
 apply ext_getD
 ·
  rw [turnL_len, turnL_len]
 ·
  intro j hj
  rw [turnL_len] at hj
  rw [turnL_getD _ _ _ _ _ hj]
  rw [turnL_len] at hj
  unfold trn
  rw [turnL_getD _ _ _ _ _ hj]
  unfold trn
  rw [UInt8.xor_assoc, UInt8.xor_self, UInt8.xor_zero]
theorem ctrN_add (c : List UInt8) (a : Nat) : ∀ k, ctrN (ctrN c a) k = ctrN c (a + k)
 | 0 => rfl
 | k + 1 => by rw [ctrN_s, ctrN_add c a k]; rfl
theorem drop_getD (l : List UInt8) (n j : Nat) : (l.drop n).getD j 0 = l.getD (n + j) 0 := by
 rw [List.getD_eq_getElem?_getD, List.getD_eq_getElem?_getD, List.getElem?_drop]
theorem turnL_drop (w : List UInt8) (R : Nat) (c b : List UInt8) (a : Nat) : turnL w R (ctrN c a) (b.drop (16 * a)) = (turnL w R c b).drop (16 * a) := by
 apply ext_getD
 ·
  rw [turnL_len, List.length_drop, List.length_drop, turnL_len]
 ·
  intro j hj
  rw [turnL_len] at hj
  rw [turnL_getD _ _ _ _ _ hj, drop_getD]
  rw [List.length_drop] at hj
  rw [turnL_getD _ _ _ _ _ (by omega)]
  unfold trn ksB
  rw [drop_getD, ctrN_add, show (16 * a + j) / 16 = a + j / 16 by omega, show (16 * a + j) % 16 = j % 16 by omega]
end Go.Sh
namespace Go.Sh
open Go.Proofs
set_option maxHeartbeats 4000000
def ksA (w : List UInt8) (R : Nat) (c : List UInt8) : Nat → List UInt8
 | 0 => []
 | k + 1 => ksA w R c k ++ ksB w R c k
theorem ksA_z (w : List UInt8) (R : Nat) (c : List UInt8) : ksA w R c 0 = [] := rfl
theorem ksA_s (w : List UInt8) (R : Nat) (c : List UInt8) (k : Nat) : ksA w R c (k + 1) = ksA w R c k ++ ksB w R c k := rfl
theorem ksA_len {w : List UInt8} {R : Nat} {c : List UInt8} (hc : c.length = 16) : ∀ k, (ksA w R c k).length = 16 * k
 | 0 => rfl
 | k + 1 => by rw [ksA_s, List.length_append, ksA_len hc k, ksB_len hc]; omega
theorem ksA_e {w : List UInt8} {R : Nat} {c : List UInt8} (hc : c.length = 16) : ∀ k, ksA w R c k = (List.range (16 * k)).map (fun j => (ksB w R c (j / 16)).getD (j % 16) 0)
 | 0 => rfl
 | k + 1 => by
  rw [ksA_s, ksA_e hc k, show 16 * (k + 1) = 16 * k + 16 by omega, List.range_add, List.map_append, List.map_map]
  congr 1
  apply ext_getD
  ·
   simp [ksB_len hc]
  ·
   intro j hj
   rw [ksB_len hc] at hj
   rw [List.getD_eq_getElem?_getD, List.getD_eq_getElem?_getD, List.getElem?_map, List.getElem?_range hj]
   simp only [Option.map_some, Option.getD_some, Function.comp]
   rw [show (16 * k + j) / 16 = k by omega, show (16 * k + j) % 16 = j by omega, List.getD_eq_getElem?_getD]
theorem ksA_turn {w : List UInt8} {R : Nat} {c : List UInt8} (hc : c.length = 16) (k : Nat) : turnL w R c (List.replicate (16 * k) 0) = ksA w R c k := by
 rw [ksA_e hc]
 unfold turnL
 rw [List.length_replicate]
 apply List.map_congr_left
 intro j hj
 rw [List.mem_range] at hj
 unfold trn
 have : (List.replicate (16 * k) (0 : UInt8)).getD j 0 = 0 := by rw [List.getD_eq_getElem?_getD, List.getElem?_replicate, if_pos hj]; rfl
 rw [this, UInt8.zero_xor]
theorem rcatK {E b : List UInt8} {n m : Nat} (hn : n = E.length) (hm : m = b.length) : (E ++ b).map SV.u8 = List.take (n * 1) (List.drop 0 (E.map SV.u8)) ++ List.take (m * 1) (List.drop 0 (b.map SV.u8)) := by
 subst hn; subst hm
 rw [Nat.mul_one, Nat.mul_one, List.drop_zero, List.drop_zero, List.take_of_length_le (l := b.map SV.u8) (by rw [List.length_map]; exact Nat.le_refl _), List.take_of_length_le (l := E.map SV.u8) (by rw [List.length_map]; exact Nat.le_refl _), List.map_append]
attribute [local irreducible] ksA ksB
theorem f58 (n : Nat) (fl : Bool) (w : List UInt8) (R : Nat) (hn : n = 4 * (R + 1)) (hw : w.length = 16 * (R + 1)) (hR1 : 1 ≤ R) (hR2 : R ≤ 20) (c : List UInt8) (hc : c.length = 16) :
  SCall Try.prog 58 [.p 0 0, .agg (c.map .u8), .i 3] [some (.ro (sbx.map .u8 ++ [.sl 1 0 n 4 fl])), some (.ro (w.map .u8))]
   (.sl 2 0 48 1 false) [some (.ro (sbx.map .u8 ++ [.sl 1 0 n 4 fl])), some (.ro (w.map .u8)), some (.row 5 ((ksA w R c 3).map .u8))] := by
 have h89 := f89 n fl w c
 refine scall_of ttOk (by kernel_rfl : Try.prog.funcs[58]? = some Try.f58) rfl rfl rfl ?_
 try simp only [List.length_cons, List.length_nil, Nat.zero_add, Nat.reduceAdd]
 refine sw_ok ttOk mixed (by kernel_rfl) ?_
 conv => whnf
 repeat (first | (refine Exists.intro _ (And.intro (sload_all rfl (by first | rfl | (simp; omega))) ?_); conv => whnf) | fail)
 refine ok1_callF [0, 1] [false, true, false, true] false (h89) rfl rfl ⟨⟨rfl, by first | ((repeat' (first | exact wk_nil | exact ren_m8 rfl | exact rfl | (refine wk_agg ?_) | (refine wk_cons ?_ ?_))); done) | fail⟩, by (repeat' (first | exact trivial | refine And.intro ?_ ?_)) <;> first | exact ren_eq (by first | (simp; done) | fail) (by first | rfl | fail) | exact ren_app2 (by first | (simp; done) | fail) (by first | rfl | fail) (by first | rfl | fail) | fail, by first | simp [plainHf, plainB], by first | rfl | fail, ?_⟩
 conv => whnf
 repeat (fail)
 refine SWp.weak (R0 := [(5, .p 3 0), (7, .p 4 0), (11, .fn 102 [.p 5 0, .p 6 0])]) (H0 := [some (.ro (sbx.map .u8 ++ [.sl 1 0 n 4 fl])), some (.ro (w.map .u8)), none, some (.box [.i 3]), some (.box [.slnil]), some (.box [.p 0 0]), some (.box (c.map .u8))]) (L0 := 7) ?_ ?_
 ·
  refine Weak.sel [0, 1, 2, 3, 4, 5, 6] rfl rfl ?_ ?_ rfl rfl
  ·
   (repeat' (first | exact trivial | refine And.intro ?_ ?_ | fail)) <;> first | rfl | fail
  ·
   (repeat' (first | exact trivial | refine And.intro ?_ ?_ | (refine wk_cons ?_ ?_))) <;> first | rfl | exact ren_eq (by first | (simp; done) | fail) (by first | rfl | fail) | exact ren_app2 (by first | (simp; done) | fail) (by first | rfl | fail) rfl | fail
 refine range_named rfl rfl rfl (by kernel_rfl : Try.prog.funcs[102]? = some Try.f102) rfl rfl rfl rfl ?_
 intro asq bdq hasq hbdq
 refine SWp.weak (Weak.virtB 4 0 5 1 rfl rfl rfl rfl rfl) ?_
 refine sw_ok ttOk mixed (by kernel_rfl) ?_
 conv => whnf
 repeat (fail)
 refine loop_rule ttOk mixed (by kernel_rfl) (ι := { k : Nat // k ≤ 3 }) (fun k => [(0, .yld 7), (1, .p 5 0), (2, .p 6 0)]) (fun k => [some (.ro (sbx.map .u8 ++ [.sl 1 0 n 4 fl])), some (.ro (w.map .u8)), none, some (.box [.i 3]), some (.box [.sl 8 0 (16 * k.1) 1 false]), some (.box [.p 0 0]), some (.box ((ctrN c k.1).map .u8)), some (.obj (.loop [(5, .p 3 0), (7, .p 4 0)] Try.f58.ntmps [12] asq bdq)), some (.row 5 ((ksA w R c k.1).map .u8))]) (fun _ => 9) (fun k => 3 - k.1) ⟨0, by omega⟩ ?_ ?_
 ·
  have hz := ksA_z w R c
  dsimp only
  rw [hz]
  refine Weak.sel [0, 1, 2, 3, 4, 5, 6, 7, 8] rfl rfl ?_ ?_ rfl rfl
  ·
   (repeat' (first | exact trivial | refine And.intro ?_ ?_ | fail)) <;> first | rfl | fail
  ·
   (repeat' (first | exact trivial | refine And.intro ?_ ?_ | (refine wk_cons ?_ ?_))) <;> first | rfl | exact ren_eq (by first | (simp; done) | fail) (by first | rfl | fail) | exact ren_app2 (by first | (simp; done) | fail) (by first | rfl | fail) rfl | fail
 ·
  rintro ⟨k, hk⟩
  have hcl := ctrN_len hc k
  have hse := f47L n fl w R hn hw hR1 hR2 (ctrN c k) hcl
  have h54 := f54L (ctrN c k) hcl
  rw [ksB_eq] at hse
  have hkl := ksB_len (w := w) (R := R) hc k
  have hal := ksA_len (w := w) (R := R) hc k
  have hs := ksA_s w R c k
  obtain ⟨Y, hY⟩ : ∃ Y, Y = ksA w R c k := ⟨_, rfl⟩
  obtain ⟨Z, hZ⟩ : ∃ Z, Z = ksB w R c k := ⟨_, rfl⟩
  rw [← hY] at hal hs
  rw [← hZ] at hse hkl hs
  have hap := rcatK (E := Y) (b := Z) (n := 16 * k) (m := 16) hal.symm hkl.symm
  have h16 : 16 * (k + 1) = 16 * k + 16 := by omega
  dsimp only
  rw [← hY]
  conv => whnf
  repeat (first | (refine brT rfl ?_; conv => whnf) | (refine Exists.intro _ (And.intro (sload_all rfl (by first | rfl | (simp; omega))) ?_); conv => whnf) | (refine Exists.intro _ (And.intro rfl ?_); conv => whnf) | (refine And.intro (by kernel_rfl) ?_; conv => whnf) | fail)
  refine ok1_callF [0, 1] [false, false] true (hse) rfl rfl ⟨⟨rfl, by first | ((repeat' (first | exact wk_nil | exact ren_m8 rfl | exact rfl | (refine wk_agg ?_) | (refine wk_cons ?_ ?_))); done) | fail⟩, by (repeat' (first | exact trivial | refine And.intro ?_ ?_)) <;> first | exact ren_eq (by first | (simp; done) | fail) (by first | rfl | fail) | exact ren_app2 (by first | (simp; done) | fail) (by first | rfl | fail) (by first | rfl | fail) | fail, by first | rfl | fail, by first | simp [plainRf, plainR, plainT, plainW], ?_⟩
  conv => whnf
  repeat (first | (refine brT rfl ?_; conv => whnf) | fail)
  by_cases hk3 : k < 3
  ·
   have hge : decide (((16 * k : Nat) : Int) ≥ 48) = false := by simp; omega
   refine ok1_yield 7 [3, 4, 8] [false, true, false, false, true] (syield_of (ps := [12]) (N := Try.f58.ntmps) (R0 := [(5, .p 1 0), (7, .p 2 0)]) (args0 := [.agg (Z.map .u8)]) (ex := .normal) (H0t := [some (.box [.i 3]), some (.box [.sl 3 0 (16 * k) 1 false]), some (.row 5 (Y.map .u8))]) (H1t := [some (.box [.i 3]), some (.box [.sl 4 0 (16 * (k + 1)) 1 false]), none, some (.row 5 ((Y ++ Z).map .u8))]) (.inl rfl) rfl rfl rfl ?_) rfl rfl ⟨⟨rfl, by first | ((repeat' (first | exact wk_nil | exact ren_m8 rfl | (refine wk_agg ?_) | (refine wk_cons ?_ ?_))); done)⟩, by (repeat' (first | exact trivial | refine And.intro ?_ ?_)) <;> first | exact ren_m8 rfl | rfl | fail, by first | (simp [plainHf, plainB]; done) | fail, ?_⟩
   ·
    subst hasq
    subst hbdq
    refine sw_ok ttOk mixed (by kernel_rfl) ?_
    conv => whnf
    repeat (first | (refine Exists.intro _ (And.intro (sput_all rfl (by first | rfl | (simp [hkl]; done) | fail)) ?_); conv => whnf) | (refine And.intro (by first | omega | (simp; done) | (simp; omega) | fail) ?_; conv => whnf) | (refine And.intro (by kernel_rfl) ?_; conv => whnf) | fail)
    refine sw_ok ttOk mixed (by kernel_rfl) ?_
    conv => whnf
    repeat (first | (refine gdF hge ?_; conv => whnf) | (refine Exists.intro _ (And.intro rfl ?_); conv => whnf) | (refine And.intro (by first | omega | (simp; done) | (simp; omega) | (simp [ti5]; omega)) ?_; conv => whnf) | (refine And.intro (by kernel_rfl) ?_; conv => whnf) | fail)
    rw [h16]
    refine ⟨[0, 1, 2, 3, 5], rfl, rfl, ?_, rfl⟩
    repeat' (first | exact trivial | exact ren_eq (plainL_u8 _) hap | rfl | refine And.intro ?_ ?_)
   ·
    conv => whnf
    repeat (first | (refine brT rfl ?_; conv => whnf) | (refine Exists.intro _ (And.intro (sload_all rfl (by first | rfl | (simp; omega))) ?_); conv => whnf) | (refine Exists.intro _ (And.intro rfl ?_); conv => whnf) | fail)
    refine ok1_callF [] [] true (h54) rfl rfl ⟨⟨rfl, by first | ((repeat' (first | exact wk_nil | exact ren_m8 rfl | (refine wk_agg ?_) | (refine wk_cons ?_ ?_))); done) | fail⟩, trivial, by first | rfl | fail, by first | simp [plainRf, plainR, plainT, plainW], ?_⟩
    conv => whnf
    have hnl := nextC_len hcl
    repeat (first | (refine Exists.intro _ (And.intro (sput_all rfl (by first | rfl | (simp [hcl, hnl]; done) | fail)) ?_); conv => whnf) | (refine And.intro (by first | omega | (simp; omega) | fail) ?_; conv => whnf) | fail)
    refine ⟨⟨k + 1, by omega⟩, by simp only; omega, ?_⟩
    dsimp only
    rw [hs]
    refine Weak.sel [0, 1, 2, 3, 4, 5, 6, 7, 9] rfl rfl ?_ ?_ rfl rfl
    ·
     (repeat' (first | exact trivial | refine And.intro ?_ ?_ | fail)) <;> first | rfl | fail
    ·
     (repeat' (first | exact trivial | refine And.intro ?_ ?_ | (refine wk_cons ?_ ?_))) <;> first | rfl | exact ren_eq (by first | (simp; done) | fail) (by first | rfl | fail) | exact ren_app2 (by first | (simp; done) | fail) (by first | rfl | fail) rfl | fail
  ·
   obtain rfl : k = 3 := by omega
   have hge : decide (((16 * 3 : Nat) : Int) ≥ 48) = true := by decide
   refine ok1_yield 7 [3, 4, 8] [false, true, false, true] (syield_of (ps := [12]) (N := Try.f58.ntmps) (R0 := [(5, .p 1 0), (7, .p 2 0)]) (args0 := [.agg (Z.map .u8)]) (ex := .exit 0) (H0t := [some (.box [.i 3]), some (.box [.sl 3 0 (16 * 3) 1 false]), some (.row 5 (Y.map .u8))]) (H1t := [some (.box [.i 3]), some (.box [.sl 3 0 (16 * 3) 1 false]), some (.row 5 (Y.map .u8))]) (.inr (.inr ⟨0, rfl⟩)) rfl rfl rfl ?_) rfl rfl ⟨⟨rfl, by first | ((repeat' (first | exact wk_nil | exact ren_m8 rfl | (refine wk_agg ?_) | (refine wk_cons ?_ ?_))); done)⟩, by (repeat' (first | exact trivial | refine And.intro ?_ ?_)) <;> first | exact ren_m8 rfl | rfl | fail, by first | (simp [plainHf, plainB]; done) | fail, ?_⟩
   ·
    subst hasq
    subst hbdq
    refine sw_ok ttOk mixed (by kernel_rfl) ?_
    conv => whnf
    repeat (first | (refine Exists.intro _ (And.intro (sput_all rfl (by first | rfl | (simp [hkl]; done) | fail)) ?_); conv => whnf) | (refine And.intro (by first | omega | (simp; done) | (simp; omega) | fail) ?_; conv => whnf) | (refine And.intro (by kernel_rfl) ?_; conv => whnf) | fail)
    refine sw_ok ttOk mixed (by kernel_rfl) ?_
    conv => whnf
    repeat (first | (refine brT rfl ?_; conv => whnf) | (refine Exists.intro _ (And.intro rfl ?_); conv => whnf) | (refine And.intro (by first | omega | (simp; done) | fail) ?_; conv => whnf) | (refine And.intro (by kernel_rfl) ?_; conv => whnf) | fail)
    exact ⟨[0, 1, 2, 3], rfl, rfl, by (repeat' (first | exact trivial | refine And.intro ?_ ?_)) <;> first | exact ren_m8 (by first | rfl | fail) | rfl | fail, rfl⟩
   ·
    conv => whnf
    repeat (first | (refine brF rfl ?_; conv => whnf) | (refine Exists.intro _ (And.intro rfl ?_); conv => whnf) | fail)
    rw [hY]
    refine ⟨[0, 1, 8], ?_, rfl, rfl, ?_, rfl⟩
    ·
     (repeat' (fail)) <;> first | rfl | fail
    ·
     (repeat' (first | exact trivial | refine And.intro ?_ ?_ | fail)) <;> first | rfl | exact ren_eq (by first | (simp; done) | fail) (by first | rfl | fail) | exact ren_app2 (by first | (simp; done) | fail) (by first | rfl | fail) rfl | fail
end Go.Sh
namespace Go.Sh
open Go.Proofs
set_option maxHeartbeats 8000000
theorem f11k (key c : List UInt8) (ps : List Part) (h1 : key.length ≠ 16) (h2 : key.length ≠ 32) :
  SCall Try.prog 11 [.sl 0 0 key.length 1 false, .agg (c.map .u8), .sl 1 0 ps.length 1 false] [some (.ro (key.map .u8)), some (.ro (ps.map pLit)), some (.ext (.fam (ps.map pFe)))] (.b true) [some (.ro (key.map .u8)), some (.ro (ps.map pLit)), some (.ext (.fam (ps.map pFe)))] := by
 have g1 : ((key.length : Int) != 16) = true := by simp; omega
 have g2 : ((key.length : Int) != 32) = true := by simp; omega
 refine scall_of ttOk (by kernel_rfl : Try.prog.funcs[11]? = some Try.f11) rfl rfl rfl ?_
 try simp only [List.length_cons, List.length_nil, Nat.zero_add, Nat.reduceAdd]
 refine sw_ok ttOk mixed (by kernel_rfl) ?_
 conv => whnf
 repeat (fail)
 refine ok1_callP [] (f51) rfl rfl ⟨⟨rfl, by first | rfl | fail⟩, trivial, by first | rfl | fail, ?_⟩
 conv => whnf
 repeat (first | (refine brT rfl ?_; conv => whnf) | (refine brF rfl ?_; conv => whnf) | (refine gdT g1 ?_; conv => whnf) | (refine pkT g1 ?_; conv => whnf) | (refine gdF g2 ?_; conv => whnf) | (refine pkT g2 ?_; conv => whnf) | fail)
 refine ⟨[0, 1, 2], ?_, rfl, rfl, ?_, rfl⟩
 ·
  (repeat' (fail)) <;> first | rfl | fail
 ·
  (repeat' (first | exact trivial | refine And.intro ?_ ?_ | fail)) <;> first | rfl | exact ren_eq (by first | (simp; done) | fail) (by first | rfl | fail) | fail
attribute [local irreducible] ksA ksB turnL pTx nextC
theorem f11x_4 (key c : List UInt8) (ps : List Part) (hps : ps.length < 1000000000000000) (hT : ∀ p ∈ ps, p.2.2.length < 1000000000000000) (hx : 1000 < ps.length + (pTx ps ps.length).length) :
  SCall Try.prog 11 [.sl 0 0 16 1 false, .agg (c.map .u8), .sl 1 0 ps.length 1 false] [some (.ro (key.map .u8)), some (.ro (ps.map pLit)), some (.ext (.fam (ps.map pFe)))] (.b true) [some (.ro (key.map .u8)), some (.ro (ps.map pLit)), some (.ext (.fam (ps.map pFe)))] := by
 have q := f52 ps hps hT 1000 (by decide) false
 rw [show decide (((ps.length + (pTx ps ps.length).length : Nat) : Int) > ((1000 : Nat) : Int)) = true from by simp; omega] at q
 refine scall_of ttOk (by kernel_rfl : Try.prog.funcs[11]? = some Try.f11) rfl rfl rfl ?_
 try simp only [List.length_cons, List.length_nil, Nat.zero_add, Nat.reduceAdd]
 refine sw_ok ttOk mixed (by kernel_rfl) ?_
 conv => whnf
 repeat (fail)
 refine ok1_callP [] (f51) rfl rfl ⟨⟨rfl, by first | rfl | fail⟩, trivial, by first | rfl | fail, ?_⟩
 conv => whnf
 repeat (first | (refine brF rfl ?_; conv => whnf) | (refine gdT rfl ?_; conv => whnf) | (refine Exists.intro _ (And.intro rfl ?_); conv => whnf) | fail)
 refine ok1_callF [1, 2] [false, false] true (q) rfl rfl ⟨⟨rfl, by first | rfl | fail⟩, by (repeat' (first | exact trivial | refine And.intro ?_ ?_)) <;> first | rfl | exact ren_eq (by first | (simp; done) | fail) (by first | rfl | fail) | fail, by first | rfl | fail, by first | rfl | fail, ?_⟩
 conv => whnf
 repeat (first | (refine brT rfl ?_; conv => whnf) | (refine Exists.intro _ (And.intro rfl ?_); conv => whnf) | fail)
 refine ⟨[0, 1, 2], ?_, rfl, rfl, ?_, rfl⟩
 ·
  (repeat' (fail)) <;> first | rfl | fail
 ·
  (repeat' (first | exact trivial | refine And.intro ?_ ?_ | fail)) <;> first | rfl | exact ren_eq (by first | (simp; done) | fail) (by first | rfl | fail) | fail
theorem f11m_4 (key c : List UInt8) (ps : List Part) (hk : key.length = 16) (hc : c.length = 16) (hps : ps.length + (pTx ps ps.length).length ≤ 1000) (hT : ∀ p ∈ ps, p.2.2.length < 1000000000000000) :
  SCall Try.prog 11 [.sl 0 0 16 1 false, .agg (c.map .u8), .sl 1 0 ps.length 1 false] [some (.ro (key.map .u8)), some (.ro (ps.map pLit)), some (.ext (.fam (ps.map pFe)))] (.b true) [some (.ro (key.map .u8)), some (.ro (ps.map pLit)), some (.ext (.fam (ps.map pFe)))] := by
 have q := f52 ps (by omega) hT 1000 (by decide) false
 rw [show decide (((ps.length + (pTx ps ps.length).length : Nat) : Int) > ((1000 : Nat) : Int)) = false from by simp; omega] at q
 have hwl := wSt_4 key
 have h50 := f50_4 true false key hk
 obtain ⟨w, hwe⟩ : ∃ w, w = wSt key 4 44 := ⟨_, rfl⟩
 have hn := f45s_4 false key key 0 hk (by rw [← hk]; simp)
 rw [← hwe] at hn hwl h50
 have hj := f56 ps (by omega) (by omega) false
 obtain ⟨b, hb⟩ : ∃ b, b = pTx ps ps.length := ⟨_, rfl⟩
 have ht := f53_g 44 false w 10 rfl hwl (by omega) (by omega) c ps b hb.symm (by omega) hc (by rw [hb]; omega) false
 rw [← hb] at hj hps
 have hr := f55 true false true false w c b 10 hwl (by omega) (by omega) hc (by omega)
 have h48 : (List.replicate 48 (0 : UInt8)).length = 48 := rfl
 have hs := f55 true false true true w c (List.replicate 48 0) 10 hwl (by omega) (by omega) hc (by decide)
 rw [show turnL w 10 c (List.replicate 48 0) = ksA w 10 c 3 from ksA_turn hc 3, h48] at hs
 have hsm := f58 44 false w 10 rfl hwl (by omega) (by omega) c hc
 have h54 := f54L c hc
 have h57 := f57 true c hc
 have h46 := f46
 rw [outB_sbx] at h46
 obtain ⟨X, hX⟩ : ∃ X, X = turnL w 10 c b := ⟨_, rfl⟩
 have hXl : X.length = b.length := by rw [hX]; exact turnL_len ..
 obtain ⟨Y, hY⟩ : ∃ Y, Y = ksA w 10 c 3 := ⟨_, rfl⟩
 have hYl : Y.length = 48 := by rw [hY]; exact ksA_len hc 3
 have hZl := nextC_len hc
 obtain ⟨Z, hZ⟩ : ∃ Z, Z = nextC c := ⟨_, rfl⟩
 rw [← hX] at ht hr
 rw [← hY] at hs hsm
 rw [← hZ] at h54 h57 hZl
 clear hwe hX hY hZ hb
 refine scall_of ttOk (by kernel_rfl : Try.prog.funcs[11]? = some Try.f11) rfl rfl rfl ?_
 try simp only [List.length_cons, List.length_nil, Nat.zero_add, Nat.reduceAdd]
 refine sw_ok ttOk mixed (by kernel_rfl) ?_
 conv => whnf
 repeat (fail)
 refine ok1_callP [] (f51) rfl rfl ⟨⟨rfl, by first | rfl | fail⟩, trivial, by first | rfl | fail, ?_⟩
 conv => whnf
 repeat (first | (refine brF rfl ?_; conv => whnf) | (refine gdT rfl ?_; conv => whnf) | (refine Exists.intro _ (And.intro rfl ?_); conv => whnf) | fail)
 refine ok1_callF [1, 2] [false, false] true (q) rfl rfl ⟨⟨rfl, by first | rfl | fail⟩, by (repeat' (first | exact trivial | refine And.intro ?_ ?_)) <;> first | rfl | exact ren_eq (by first | (simp; done) | fail) (by first | rfl | fail) | fail, by first | rfl | fail, by first | rfl | fail, ?_⟩
 conv => whnf
 repeat (first | (refine brF rfl ?_; conv => whnf) | (refine Exists.intro _ (And.intro rfl ?_); conv => whnf) | fail)
 refine ok1_callE [0] [some (.ro (key.map .u8)), some (.box (sbx.map .u8 ++ [.sl 5 0 44 4 false])), some (.row 137 (w.map .u8))] (.tup [.p 4 0, .i 0]) (hn) rfl rfl ⟨⟨rfl, by first | rfl | fail⟩, by (repeat' (first | exact trivial | refine And.intro ?_ ?_)) <;> first | exact ren_m8 rfl | fail, by (repeat' (first | exact trivial | refine And.intro ?_ ?_)) <;> first | exact renB_plain _ (by first | (simp; done) | fail) | exact rb_boxa (by first | (simp; done) | fail) rfl | rfl, by first | rfl | fail, ?_⟩
 conv => whnf
 repeat (first | (refine Exists.intro _ (And.intro (sload_all rfl (by first | rfl | (simp; omega))) ?_); conv => whnf) | fail)
 refine ok1_callF [4, 5, 1, 2] [false, false, false, false, true] false (ht) rfl rfl ⟨⟨rfl, by first | ((repeat' (first | exact ren_m8 rfl | exact rfl | (refine wk_agg ?_) | (refine wk_cons ?_ ?_))); done) | fail⟩, by (repeat' (first | exact trivial | refine And.intro ?_ ?_)) <;> first | rfl | exact ren_eq (by first | (simp; done) | fail) (by first | rfl | fail) | exact ren_app2 (by first | (simp; done) | fail) (by first | rfl | fail) (by first | rfl | fail) | fail, by first | simp [plainHf, plainB], by first | rfl | fail, ?_⟩
 conv => whnf
 repeat (first | (refine Exists.intro _ (And.intro (sload_all rfl (by first | rfl | (simp [hc]; done) | fail)) ?_); conv => whnf) | fail)
 refine ok1_callF [] [] true (h54) rfl rfl ⟨⟨rfl, by first | ((repeat' (first | exact wk_nil | exact ren_m8 rfl | (refine wk_agg ?_) | (refine wk_cons ?_ ?_))); done) | fail⟩, trivial, by first | rfl | fail, by first | simp [plainRf, plainR, plainT, plainW], ?_⟩
 conv => whnf
 repeat (first | (refine Exists.intro _ (And.intro (sput_all rfl (by first | rfl | (simp [hc, hZl]; done) | fail)) ?_); conv => whnf) | (refine And.intro (by first | omega | (simp; omega) | fail) ?_; conv => whnf) | fail)
 refine ok1_callP [] (h46) rfl rfl ⟨⟨rfl, by first | rfl | fail⟩, trivial, by first | simp [plainH], ?_⟩
 conv => whnf
 repeat (fail)
 refine ok1_callF [8, 0] [true, true, true] false (h50) rfl rfl ⟨⟨rfl, by first | rfl | fail⟩, by (repeat' (first | exact trivial | refine And.intro ?_ ?_)) <;> first | exact ren_eq (by first | (simp; done) | fail) (by first | rfl | fail) | fail, by first | simp [plainHf, plainB], by first | rfl | fail, ?_⟩
 conv => whnf
 repeat (first | (refine Exists.intro _ (And.intro (bytesOf_cut rfl) ?_); conv => whnf) | (refine brT rfl ?_; conv => whnf) | (refine Exists.intro _ (And.intro rfl ?_); conv => whnf) | (refine And.intro (by first | omega | (simp; omega) | fail) ?_; conv => whnf) | fail)
 refine ok1_callF [1, 2] [false, false, true] false (hj) rfl rfl ⟨⟨rfl, by first | rfl | fail⟩, by (repeat' (first | exact trivial | refine And.intro ?_ ?_)) <;> first | rfl | exact ren_eq (by first | (simp; done) | fail) (by first | rfl | fail) | fail, by first | simp [plainHf, plainB], by first | rfl | fail, ?_⟩
 conv => whnf
 repeat (first | (refine brT rfl ?_; conv => whnf) | fail)
 refine ok1_callF [8, 9, 3, 10] [true, true, true, true, true] false (hr) rfl rfl ⟨⟨rfl, by first | rfl | fail⟩, by (repeat' (first | exact trivial | refine And.intro ?_ ?_)) <;> first | exact ren_eq (by first | (simp; done) | fail) (by first | rfl | fail) | fail, by first | simp [plainHf, plainB], by first | rfl | fail, ?_⟩
 conv => whnf
 repeat (first | (refine Exists.intro _ (And.intro (bytesOf_cut rfl) ?_); conv => whnf) | (refine brT rfl ?_; conv => whnf) | (refine Exists.intro _ (And.intro rfl ?_); conv => whnf) | (refine gdT (by first | (simp; done) | fail) ?_; conv => whnf) | (refine And.intro (by first | omega | (simp; omega) | fail) ?_; conv => whnf) | fail)
 refine ok1_callF [3] [true, true] false (h57) rfl rfl ⟨⟨rfl, by first | rfl | fail⟩, by (repeat' (first | exact trivial | refine And.intro ?_ ?_)) <;> first | exact ren_eq (by first | (simp; done) | fail) (by first | rfl | fail) | fail, by first | simp [plainHf, plainB], by first | rfl | fail, ?_⟩
 conv => whnf
 repeat (first | (refine Exists.intro _ (And.intro (bytesOf_cut rfl) ?_); conv => whnf) | (refine Exists.intro _ (And.intro (sload_all rfl (by first | rfl | (simp [hXl, hZl, hc]; done) | fail)) ?_); conv => whnf) | (refine gdT (by first | (simp; done) | fail) ?_; conv => whnf) | (refine pkT (by first | (simp; done) | fail) ?_; conv => whnf) | (refine And.intro (by first | omega | (simp; omega) | fail) ?_; conv => whnf) | fail)
 refine ok1_callF [4, 5] [false, true, true] false (hsm) rfl rfl ⟨⟨rfl, by first | ((repeat' (first | exact ren_m8 rfl | exact rfl | (refine wk_agg ?_) | (refine wk_cons ?_ ?_))); done) | fail⟩, by (repeat' (first | exact trivial | refine And.intro ?_ ?_)) <;> first | exact ren_eq (by first | (simp; done) | fail) (by first | rfl | fail) | exact ren_app2 (by first | (simp; done) | fail) (by first | rfl | fail) (by first | rfl | fail) | fail, by first | simp [plainHf, plainB], by first | rfl | fail, ?_⟩
 conv => whnf
 repeat (first | (refine Exists.intro _ (And.intro (bytesOf_cut rfl) ?_); conv => whnf) | (refine Exists.intro _ (And.intro rfl ?_); conv => whnf) | (refine gdT (by first | (simp; done) | fail) ?_; conv => whnf) | (refine And.intro (by first | omega | (simp; omega) | fail) ?_; conv => whnf) | (refine And.intro ⟨by first | omega | fail, by first | decide | fail⟩ ?_; conv => whnf) | fail)
 refine ok1_callF [8, 9, 3, 14] [true, true, true, true, true] false (hs) rfl rfl ⟨⟨rfl, by first | rfl | fail⟩, by (repeat' (first | exact trivial | refine And.intro ?_ ?_)) <;> first | rfl | exact ren_eq (by first | (simp; done) | fail) (by first | rfl | fail) | fail, by first | simp [plainHf, plainB], by first | rfl | fail, ?_⟩
 conv => whnf
 repeat (first | (refine Exists.intro _ (And.intro (bytesOf_cut rfl) ?_); conv => whnf) | (refine gdT (by first | (simp; done) | fail) ?_; conv => whnf) | (refine pkT (by first | (simp; done) | fail) ?_; conv => whnf) | (refine And.intro (by first | omega | (simp; omega) | fail) ?_; conv => whnf) | (refine And.intro (by kernel_rfl) ?_; conv => whnf) | fail)
 refine ⟨[0, 1, 2], ?_, rfl, rfl, ?_, rfl⟩
 ·
  (repeat' (fail)) <;> first | exact wk_b (by first | (simp; done) | fail) | fail
 ·
  (repeat' (first | exact trivial | refine And.intro ?_ ?_ | fail)) <;> first | rfl | exact ren_eq (by first | (simp; done) | fail) (by first | rfl | fail) | fail
theorem f11x_8 (key c : List UInt8) (ps : List Part) (hps : ps.length < 1000000000000000) (hT : ∀ p ∈ ps, p.2.2.length < 1000000000000000) (hx : 1000 < ps.length + (pTx ps ps.length).length) :
  SCall Try.prog 11 [.sl 0 0 32 1 false, .agg (c.map .u8), .sl 1 0 ps.length 1 false] [some (.ro (key.map .u8)), some (.ro (ps.map pLit)), some (.ext (.fam (ps.map pFe)))] (.b true) [some (.ro (key.map .u8)), some (.ro (ps.map pLit)), some (.ext (.fam (ps.map pFe)))] := by
 have q := f52 ps hps hT 1000 (by decide) false
 rw [show decide (((ps.length + (pTx ps ps.length).length : Nat) : Int) > ((1000 : Nat) : Int)) = true from by simp; omega] at q
 refine scall_of ttOk (by kernel_rfl : Try.prog.funcs[11]? = some Try.f11) rfl rfl rfl ?_
 try simp only [List.length_cons, List.length_nil, Nat.zero_add, Nat.reduceAdd]
 refine sw_ok ttOk mixed (by kernel_rfl) ?_
 conv => whnf
 repeat (fail)
 refine ok1_callP [] (f51) rfl rfl ⟨⟨rfl, by first | rfl | fail⟩, trivial, by first | rfl | fail, ?_⟩
 conv => whnf
 repeat (first | (refine brT rfl ?_; conv => whnf) | (refine brF rfl ?_; conv => whnf) | (refine gdT rfl ?_; conv => whnf) | (refine Exists.intro _ (And.intro rfl ?_); conv => whnf) | fail)
 refine ok1_callF [1, 2] [false, false] true (q) rfl rfl ⟨⟨rfl, by first | rfl | fail⟩, by (repeat' (first | exact trivial | refine And.intro ?_ ?_)) <;> first | rfl | exact ren_eq (by first | (simp; done) | fail) (by first | rfl | fail) | fail, by first | rfl | fail, by first | rfl | fail, ?_⟩
 conv => whnf
 repeat (first | (refine brT rfl ?_; conv => whnf) | (refine Exists.intro _ (And.intro rfl ?_); conv => whnf) | fail)
 refine ⟨[0, 1, 2], ?_, rfl, rfl, ?_, rfl⟩
 ·
  (repeat' (fail)) <;> first | rfl | fail
 ·
  (repeat' (first | exact trivial | refine And.intro ?_ ?_ | fail)) <;> first | rfl | exact ren_eq (by first | (simp; done) | fail) (by first | rfl | fail) | fail
theorem f11m_8 (key c : List UInt8) (ps : List Part) (hk : key.length = 32) (hc : c.length = 16) (hps : ps.length + (pTx ps ps.length).length ≤ 1000) (hT : ∀ p ∈ ps, p.2.2.length < 1000000000000000) :
  SCall Try.prog 11 [.sl 0 0 32 1 false, .agg (c.map .u8), .sl 1 0 ps.length 1 false] [some (.ro (key.map .u8)), some (.ro (ps.map pLit)), some (.ext (.fam (ps.map pFe)))] (.b true) [some (.ro (key.map .u8)), some (.ro (ps.map pLit)), some (.ext (.fam (ps.map pFe)))] := by
 have q := f52 ps (by omega) hT 1000 (by decide) false
 rw [show decide (((ps.length + (pTx ps ps.length).length : Nat) : Int) > ((1000 : Nat) : Int)) = false from by simp; omega] at q
 have hwl := wSt_8 key
 have h50 := f50_8 true false key hk
 obtain ⟨w, hwe⟩ : ∃ w, w = wSt key 8 60 := ⟨_, rfl⟩
 have hn := f45s_8 false key key 0 hk (by rw [← hk]; simp)
 rw [← hwe] at hn hwl h50
 have hj := f56 ps (by omega) (by omega) false
 obtain ⟨b, hb⟩ : ∃ b, b = pTx ps ps.length := ⟨_, rfl⟩
 have ht := f53_g 60 false w 14 rfl hwl (by omega) (by omega) c ps b hb.symm (by omega) hc (by rw [hb]; omega) false
 rw [← hb] at hj hps
 have hr := f55 true false true false w c b 14 hwl (by omega) (by omega) hc (by omega)
 have h48 : (List.replicate 48 (0 : UInt8)).length = 48 := rfl
 have hs := f55 true false true true w c (List.replicate 48 0) 14 hwl (by omega) (by omega) hc (by decide)
 rw [show turnL w 14 c (List.replicate 48 0) = ksA w 14 c 3 from ksA_turn hc 3, h48] at hs
 have hsm := f58 60 false w 14 rfl hwl (by omega) (by omega) c hc
 have h54 := f54L c hc
 have h57 := f57 true c hc
 have h46 := f46
 rw [outB_sbx] at h46
 obtain ⟨X, hX⟩ : ∃ X, X = turnL w 14 c b := ⟨_, rfl⟩
 have hXl : X.length = b.length := by rw [hX]; exact turnL_len ..
 obtain ⟨Y, hY⟩ : ∃ Y, Y = ksA w 14 c 3 := ⟨_, rfl⟩
 have hYl : Y.length = 48 := by rw [hY]; exact ksA_len hc 3
 have hZl := nextC_len hc
 obtain ⟨Z, hZ⟩ : ∃ Z, Z = nextC c := ⟨_, rfl⟩
 rw [← hX] at ht hr
 rw [← hY] at hs hsm
 rw [← hZ] at h54 h57 hZl
 clear hwe hX hY hZ hb
 refine scall_of ttOk (by kernel_rfl : Try.prog.funcs[11]? = some Try.f11) rfl rfl rfl ?_
 try simp only [List.length_cons, List.length_nil, Nat.zero_add, Nat.reduceAdd]
 refine sw_ok ttOk mixed (by kernel_rfl) ?_
 conv => whnf
 repeat (fail)
 refine ok1_callP [] (f51) rfl rfl ⟨⟨rfl, by first | rfl | fail⟩, trivial, by first | rfl | fail, ?_⟩
 conv => whnf
 repeat (first | (refine brT rfl ?_; conv => whnf) | (refine brF rfl ?_; conv => whnf) | (refine gdT rfl ?_; conv => whnf) | (refine Exists.intro _ (And.intro rfl ?_); conv => whnf) | fail)
 refine ok1_callF [1, 2] [false, false] true (q) rfl rfl ⟨⟨rfl, by first | rfl | fail⟩, by (repeat' (first | exact trivial | refine And.intro ?_ ?_)) <;> first | rfl | exact ren_eq (by first | (simp; done) | fail) (by first | rfl | fail) | fail, by first | rfl | fail, by first | rfl | fail, ?_⟩
 conv => whnf
 repeat (first | (refine brF rfl ?_; conv => whnf) | (refine Exists.intro _ (And.intro rfl ?_); conv => whnf) | fail)
 refine ok1_callE [0] [some (.ro (key.map .u8)), some (.box (sbx.map .u8 ++ [.sl 5 0 60 4 false])), some (.row 137 (w.map .u8))] (.tup [.p 4 0, .i 0]) (hn) rfl rfl ⟨⟨rfl, by first | rfl | fail⟩, by (repeat' (first | exact trivial | refine And.intro ?_ ?_)) <;> first | exact ren_m8 rfl | fail, by (repeat' (first | exact trivial | refine And.intro ?_ ?_)) <;> first | exact renB_plain _ (by first | (simp; done) | fail) | exact rb_boxa (by first | (simp; done) | fail) rfl | rfl, by first | rfl | fail, ?_⟩
 conv => whnf
 repeat (first | (refine Exists.intro _ (And.intro (sload_all rfl (by first | rfl | (simp; omega))) ?_); conv => whnf) | fail)
 refine ok1_callF [4, 5, 1, 2] [false, false, false, false, true] false (ht) rfl rfl ⟨⟨rfl, by first | ((repeat' (first | exact ren_m8 rfl | exact rfl | (refine wk_agg ?_) | (refine wk_cons ?_ ?_))); done) | fail⟩, by (repeat' (first | exact trivial | refine And.intro ?_ ?_)) <;> first | rfl | exact ren_eq (by first | (simp; done) | fail) (by first | rfl | fail) | exact ren_app2 (by first | (simp; done) | fail) (by first | rfl | fail) (by first | rfl | fail) | fail, by first | simp [plainHf, plainB], by first | rfl | fail, ?_⟩
 conv => whnf
 repeat (first | (refine Exists.intro _ (And.intro (sload_all rfl (by first | rfl | (simp [hc]; done) | fail)) ?_); conv => whnf) | fail)
 refine ok1_callF [] [] true (h54) rfl rfl ⟨⟨rfl, by first | ((repeat' (first | exact wk_nil | exact ren_m8 rfl | (refine wk_agg ?_) | (refine wk_cons ?_ ?_))); done) | fail⟩, trivial, by first | rfl | fail, by first | simp [plainRf, plainR, plainT, plainW], ?_⟩
 conv => whnf
 repeat (first | (refine Exists.intro _ (And.intro (sput_all rfl (by first | rfl | (simp [hc, hZl]; done) | fail)) ?_); conv => whnf) | (refine And.intro (by first | omega | (simp; omega) | fail) ?_; conv => whnf) | fail)
 refine ok1_callP [] (h46) rfl rfl ⟨⟨rfl, by first | rfl | fail⟩, trivial, by first | simp [plainH], ?_⟩
 conv => whnf
 repeat (fail)
 refine ok1_callF [8, 0] [true, true, true] false (h50) rfl rfl ⟨⟨rfl, by first | rfl | fail⟩, by (repeat' (first | exact trivial | refine And.intro ?_ ?_)) <;> first | exact ren_eq (by first | (simp; done) | fail) (by first | rfl | fail) | fail, by first | simp [plainHf, plainB], by first | rfl | fail, ?_⟩
 conv => whnf
 repeat (first | (refine Exists.intro _ (And.intro (bytesOf_cut rfl) ?_); conv => whnf) | (refine brT rfl ?_; conv => whnf) | (refine Exists.intro _ (And.intro rfl ?_); conv => whnf) | (refine And.intro (by first | omega | (simp; omega) | fail) ?_; conv => whnf) | fail)
 refine ok1_callF [1, 2] [false, false, true] false (hj) rfl rfl ⟨⟨rfl, by first | rfl | fail⟩, by (repeat' (first | exact trivial | refine And.intro ?_ ?_)) <;> first | rfl | exact ren_eq (by first | (simp; done) | fail) (by first | rfl | fail) | fail, by first | simp [plainHf, plainB], by first | rfl | fail, ?_⟩
 conv => whnf
 repeat (first | (refine brT rfl ?_; conv => whnf) | fail)
 refine ok1_callF [8, 9, 3, 10] [true, true, true, true, true] false (hr) rfl rfl ⟨⟨rfl, by first | rfl | fail⟩, by (repeat' (first | exact trivial | refine And.intro ?_ ?_)) <;> first | exact ren_eq (by first | (simp; done) | fail) (by first | rfl | fail) | fail, by first | simp [plainHf, plainB], by first | rfl | fail, ?_⟩
 conv => whnf
 repeat (first | (refine Exists.intro _ (And.intro (bytesOf_cut rfl) ?_); conv => whnf) | (refine brT rfl ?_; conv => whnf) | (refine Exists.intro _ (And.intro rfl ?_); conv => whnf) | (refine gdT (by first | (simp; done) | fail) ?_; conv => whnf) | (refine And.intro (by first | omega | (simp; omega) | fail) ?_; conv => whnf) | fail)
 refine ok1_callF [3] [true, true] false (h57) rfl rfl ⟨⟨rfl, by first | rfl | fail⟩, by (repeat' (first | exact trivial | refine And.intro ?_ ?_)) <;> first | exact ren_eq (by first | (simp; done) | fail) (by first | rfl | fail) | fail, by first | simp [plainHf, plainB], by first | rfl | fail, ?_⟩
 conv => whnf
 repeat (first | (refine Exists.intro _ (And.intro (bytesOf_cut rfl) ?_); conv => whnf) | (refine Exists.intro _ (And.intro (sload_all rfl (by first | rfl | (simp [hXl, hZl, hc]; done) | fail)) ?_); conv => whnf) | (refine gdT (by first | (simp; done) | fail) ?_; conv => whnf) | (refine pkT (by first | (simp; done) | fail) ?_; conv => whnf) | (refine And.intro (by first | omega | (simp; omega) | fail) ?_; conv => whnf) | fail)
 refine ok1_callF [4, 5] [false, true, true] false (hsm) rfl rfl ⟨⟨rfl, by first | ((repeat' (first | exact ren_m8 rfl | exact rfl | (refine wk_agg ?_) | (refine wk_cons ?_ ?_))); done) | fail⟩, by (repeat' (first | exact trivial | refine And.intro ?_ ?_)) <;> first | exact ren_eq (by first | (simp; done) | fail) (by first | rfl | fail) | exact ren_app2 (by first | (simp; done) | fail) (by first | rfl | fail) (by first | rfl | fail) | fail, by first | simp [plainHf, plainB], by first | rfl | fail, ?_⟩
 conv => whnf
 repeat (first | (refine Exists.intro _ (And.intro (bytesOf_cut rfl) ?_); conv => whnf) | (refine Exists.intro _ (And.intro rfl ?_); conv => whnf) | (refine gdT (by first | (simp; done) | fail) ?_; conv => whnf) | (refine And.intro (by first | omega | (simp; omega) | fail) ?_; conv => whnf) | (refine And.intro ⟨by first | omega | fail, by first | decide | fail⟩ ?_; conv => whnf) | fail)
 refine ok1_callF [8, 9, 3, 14] [true, true, true, true, true] false (hs) rfl rfl ⟨⟨rfl, by first | rfl | fail⟩, by (repeat' (first | exact trivial | refine And.intro ?_ ?_)) <;> first | rfl | exact ren_eq (by first | (simp; done) | fail) (by first | rfl | fail) | fail, by first | simp [plainHf, plainB], by first | rfl | fail, ?_⟩
 conv => whnf
 repeat (first | (refine Exists.intro _ (And.intro (bytesOf_cut rfl) ?_); conv => whnf) | (refine gdT (by first | (simp; done) | fail) ?_; conv => whnf) | (refine pkT (by first | (simp; done) | fail) ?_; conv => whnf) | (refine And.intro (by first | omega | (simp; omega) | fail) ?_; conv => whnf) | (refine And.intro (by kernel_rfl) ?_; conv => whnf) | fail)
 refine ⟨[0, 1, 2], ?_, rfl, rfl, ?_, rfl⟩
 ·
  (repeat' (fail)) <;> first | exact wk_b (by first | (simp; done) | fail) | fail
 ·
  (repeat' (first | exact trivial | refine And.intro ?_ ?_ | fail)) <;> first | rfl | exact ren_eq (by first | (simp; done) | fail) (by first | rfl | fail) | fail
theorem f11 (key c : List UInt8) (ps : List Part) (hc : c.length = 16) (hps : ps.length < 1000000000000000) (hT : ∀ p ∈ ps, p.2.2.length < 1000000000000000) :
  SCall Try.prog 11 [.sl 0 0 key.length 1 false, .agg (c.map .u8), .sl 1 0 ps.length 1 false] [some (.ro (key.map .u8)), some (.ro (ps.map pLit)), some (.ext (.fam (ps.map pFe)))] (.b true) [some (.ro (key.map .u8)), some (.ro (ps.map pLit)), some (.ext (.fam (ps.map pFe)))] := by
 by_cases h1 : key.length = 16 ∨ key.length = 32
 ·
  by_cases hx : 1000 < ps.length + (pTx ps ps.length).length
  ·
   rcases h1 with h1 | h1
   ·
    have := f11x_4 key c ps hps hT hx; rw [← h1] at this; exact this
   ·
    have := f11x_8 key c ps hps hT hx; rw [← h1] at this; exact this
  ·
   rcases h1 with h1 | h1
   ·
    have := f11m_4 key c ps h1 hc (by omega) hT; rw [← h1] at this; exact this
   ·
    have := f11m_8 key c ps h1 hc (by omega) hT; rw [← h1] at this; exact this
 ·
  exact f11k key c ps (by omega) (by omega)
end Go.Sh
namespace Go.Sh
open Go.ChangeShapes Go.WideShapes Go.ChangeAt Go.RowKit
section
variable {H : Type} {enc : TypeId × Value → H} {P : Program} {w : World} {base : Nat} {held : Bool}
theorem weights_all {e : TypeId} : ∀ {l : List (DataW H)} {x : DataW H}, x ∈ l → ∀ n ∈ x.weights P e, n ∈ DataW.weightsAll P e l
 | y :: l, x, hx, n, hn => by
  simp only [DataW.weightsAll, List.mem_append]
  rcases List.mem_cons.1 hx with rfl | hx
  ·
   exact .inl hn
  ·
   exact .inr (weights_all hx n hn)
theorem small_slice {t e : TypeId} (ht : P.underlying t = some (.slice e)) (hb : 0 < P.bytesOf e) {fuel : Nat} {a : Option Addr} {n c : Nat} {x : DataW H × List MemPlace} (h : DataW.trod enc P w base (fun _ => true) held fuel t [.slice a n c] = some x)
  (hw : ∀ k ∈ x.1.weights P t, k ≤ reachBytes) : n ≤ reachBytes := by
 rcases DataW.trod_slice ht h with ⟨hq, _⟩ | ⟨a, len, cap, elems, rest, n, rfl, hq, rfl, _, hlc, hm, hel, h1, h2, _⟩
 ·
  cases hq; exact Nat.zero_le _
 ·
  cases hq
  have := hw ((elems.map (·.1)).length + (rest.map (·.1)).length |> (· * P.bytesOf e)) (by simp only [DataW.weights, ht, List.length_map]; exact List.mem_cons_self ..)
  simp only [List.length_map] at this
  have h3 : elems.length + rest.length ≤ (elems.length + rest.length) * P.bytesOf e := Nat.le_mul_of_pos_right _ hb
  omega
theorem open_row_q {r : Reach} {b0 d : Nat} {e e2 t : TypeId} {v : Value} {y : DataW H} {pl : List MemPlace} (ht : P.underlying t = some (.slice e)) (he : P.underlying e = some (.slice e2)) (hs : psz P e = some 1) (hk : kinds P d e2 = some [1]) (hb : 0 < P.bytesOf e) (hb2 : 0 < P.bytesOf e2)
  (hval : Value.okWide P w r b0 t v) (hd : DataW.Trod enc P w base (fun _ => true) held t v y pl) (hw : ∀ k ∈ y.weights P t, k ≤ reachBytes) : ∃ (ps : List Part) (rb : RB), ps.length ≤ reachBytes ∧ (∀ p ∈ ps, p.2.2.length ≤ reachBytes) ∧
   (∀ ρ id, ρ id = some rb → Rel ρ (.sl id 0 ps.length 1 false) v) ∧ (∀ ρ, BRel ρ w rb (.ro (ps.map pLit))) ∧ ∀ ρ rb2, BRel ρ w rb2 (.ext (.fam (ps.map pFe))) := by
 obtain ⟨a, len, cap, rfl⟩ := okWide_slice ht hval
 obtain ⟨fuel, hf⟩ := hd
 have hcs : (Value.slice a len cap).cells.toList = [.slice a len cap] := rfl
 rw [hcs] at hf
 have hlen : len ≤ reachBytes := small_slice ht hb hf hw
 rcases open_row ht hs (by decide) rfl ⟨fuel, _, hf⟩ with h | ⟨a', len', cap', vs, h, hrow⟩
 ·
  cases h
  refine ⟨[], ⟨0, 0, 0, true⟩, Nat.zero_le _, by simp, fun ρ id hr => ?_, fun ρ => .inl rfl, fun ρ rb2 e he => by simp at he⟩
  simp only [Rel]
  exact ⟨_, none, 0, hr, rfl, Nat.le_refl _, fun h => (by cases h), .inl rfl⟩
 ·
  cases h
  have hle : len ≤ vs.length := by rw [hrow.len]; have := hrow.le; omega
  obtain ⟨ps, h1, h2, h3⟩ := open_parts he hk hs vs len hle (fun i hi => hrow.read i (Nat.lt_of_lt_of_le hi hrow.le))
  subst h1
  refine ⟨ps, _, hlen, fun p hp => ?_, fun ρ id hid => (hrow.block (h3 ρ) (atoms_lit ps)).1 id hid, fun ρ => (hrow.block (h3 ρ) (atoms_lit ps)).2, fun ρ rb2 e he => ?_⟩
  ·
   obtain ⟨i, hi, hpi⟩ := List.getElem_of_mem hp
   rcases DataW.trod_slice ht hf with ⟨hq, _⟩ | ⟨a, len, cap, elems, rest, n, rfl, hq, hy, _, hlc, hm, hel, g1, g2, _⟩
   ·
    cases hq
   ·
    cases hq
    cases hy
    have g := g1 i hi
    rw [List.getElem?_eq_getElem (by omega : i < elems.length)] at g
    obtain ⟨l, hl, hr⟩ := Option.bind_eq_some_iff.1 g
    rw [psz_cells hs] at hl
    obtain ⟨c1, c2⟩ := cells_get hl
    have c3 := c2 0 (by omega)
    rw [addr_zero, addr_add _ _ (hrow.spot (by omega)), hrow.cell _ (by omega), Nat.mul_one] at c3
    obtain ⟨u, hu, hur⟩ := (h3 (fun _ => none)).get (k := i) (x := pLit p) (by rw [List.getElem?_map, List.getElem?_eq_getElem hi, hpi]; rfl)
    rw [List.getElem?_take_of_lt (by omega), c3] at hu
    simp only [pLit, Rel] at hur
    have hlu : l = [p.1] := by
     match l, c1 with
     | [z], _ => simp at hu; rw [hu, hur.1]
    obtain ⟨⟨a2, k2, e1, _⟩, _⟩ := (h2 p hp).2
    have e1 : p.1 = .slice a2 p.2.2.length k2 := e1
    rw [hlu, e1] at hr
    refine small_slice he hb2 hr fun k hk2 => hw k ?_
    simp only [DataW.weights, ht]
    exact List.mem_cons_of_mem _ (List.mem_append_left _ (weights_all (List.mem_map_of_mem (List.getElem_mem (by omega : i < elems.length))) k hk2))
  ·
   obtain ⟨p, hp, rfl⟩ := List.mem_map.1 he
   exact (h2 p hp).2
end
end Go.Sh
