/- ctr: Blocks (f89), Turn (f53). -/
import Derived.Test.YtaknbogocnkmnaaE12a
import Derived.Test.YtaknbogocnkmnaaF1
import Derived.Test.YtaknbogocnkmnaaF3
import Derived.Test.YtaknbogocnkmnaaSh27
namespace Go.Sh
open Go.Proofs
set_option maxHeartbeats 4000000
set_option linter.unusedSimpArgs false

theorem f54L (c : List UInt8) (hc : c.length = 16) : SCall Try.prog 54 [.agg (c.map .u8)] [] (.agg ((nextC c).map .u8)) [] := by
  obtain ⟨s0, s1, s2, s3, s4, s5, s6, s7, s8, s9, s10, s11, s12, s13, s14, s15, rfl⟩ := ex16 hc
  exact f54 s0 s1 s2 s3 s4 s5 s6 s7 s8 s9 s10 s11 s12 s13 s14 s15

theorem f89 (n : Nat) (fl : Bool) (w : List UInt8) (c : List UInt8) : SCall Try.prog 89 [.p 0 0, .agg (c.map .u8)] [some (.ro (sbx.map .u8 ++ [.sl 1 0 n 4 fl])), some (.ro (w.map .u8))] (.fn 102 [.p 2 0, .p 3 0]) [some (.ro (sbx.map .u8 ++ [.sl 1 0 n 4 fl])), some (.ro (w.map .u8)), some (.box [.p 0 0]), some (.box (c.map .u8))] := by
  refine scall_of ttOk (by kernel_rfl : Try.prog.funcs[89]? = some Try.f89) rfl rfl rfl ?_
  refine sw_ok ttOk mixed (by kernel_rfl) ?_
  conv => whnf
  repeat (fail)
  refine ⟨[0, 1, 2, 3], ?_, rfl, rfl, ?_, rfl⟩
  · (repeat' (fail)) <;> first | rfl | fail
  · (repeat' (first | exact trivial | refine And.intro ?_ ?_ | (refine wk_cons ?_ ?_))) <;> first | rfl | exact ren_eq (by first | (simp; done) | fail) (by first | rfl | fail) | exact ren_app2 (by first | (simp; done) | fail) (by first | rfl | fail) rfl | fail

theorem f53_1 (n : Nat) (fl : Bool) (w : List UInt8) (R : Nat) (hn : n = 4 * (R + 1)) (hw : w.length = 16 * (R + 1)) (hR1 : 1 ≤ R) (hR2 : R ≤ 20) (c D b : List UInt8) (o : Nat) (hD : (D.drop o).take b.length = b) (hoD : o + b.length ≤ D.length) (hc : c.length = 16) (hb : b.length < 100000000000000) (f1 f2 : Bool) :
    SCall Try.prog 53 [.p 0 0, .agg (c.map .u8), .sl 2 0 1 1 f1] [some (.ro (sbx.map .u8 ++ [.sl 1 0 n 4 fl])), some (.ro (w.map .u8)), some (.ro [.sl 3 o b.length 1 f2]), some (.ro (D.map .u8))]
      (.tup [.sl 4 0 b.length 1 false, .i 0]) [some (.ro (sbx.map .u8 ++ [.sl 1 0 n 4 fl])), some (.ro (w.map .u8)), some (.ro [.sl 3 o b.length 1 f2]), some (.ro (D.map .u8)), some (.row 5 ((turnL w R c b).map .u8))] := by
  have h89 := f89 n fl w c
  have hb0 : b.map SV.u8 = List.take (b.length * 1) (List.drop o (D.map SV.u8)) := by rw [Nat.mul_one]; exact (cut_u8 hD).symm
  refine scall_of ttOk (by kernel_rfl : Try.prog.funcs[53]? = some Try.f53) rfl rfl rfl ?_
  refine sw_ok ttOk mixed (by kernel_rfl) ?_
  conv => whnf
  repeat (first | (refine brF rfl ?_; conv => whnf) | (refine And.intro (by kernel_rfl) ?_; conv => whnf) | fail)
  refine loop_rounds ttOk mixed (by kernel_rfl) 2 ?_
  conv => whnf
  repeat (first | (refine brT rfl ?_; conv => whnf) | (refine brF rfl ?_; conv => whnf) | (refine Exists.intro _ (And.intro (sload_all rfl (by first | rfl | (simp; omega))) ?_); conv => whnf) | (refine Exists.intro _ (And.intro rfl ?_); conv => whnf) | (refine And.intro (by first | omega | (simp; done) | (simp [ti5]; omega)) ?_; conv => whnf) | fail)
  refine ok1_callF [0, 1] [false, true, false, true] false (h89) rfl rfl ⟨⟨rfl, by first | ((repeat' (first | exact wk_nil | exact ren_m8 rfl | exact rfl | (refine wk_agg ?_) | (refine wk_cons ?_ ?_))); done) | fail⟩, by (repeat' (first | exact trivial | refine And.intro ?_ ?_)) <;> first | exact ren_eq (by first | (simp; done) | fail) (by first | rfl | fail) | exact ren_app2 (by first | (simp; done) | fail) (by first | rfl | fail) (by first | rfl | fail), by first | simp [plainHf, plainB], by first | rfl | fail, ?_⟩
  conv => whnf
  repeat (fail)
  refine SWp.weak (R0 := [(8, .p 5 0), (11, .p 7 0), (28, .fn 102 [.p 8 0, .p 9 0])]) (H0 := [some (.ro (sbx.map .u8 ++ [.sl 1 0 n 4 fl])), some (.ro (w.map .u8)), some (.ro [.sl 3 o b.length 1 f2]), some (.ro ((D).map .u8)), none, some (.box [.sl 6 0 b.length 1 false]), some (.row 5 (b.map .u8)), some (.box [.i 0]), some (.box [.p 0 0]), some (.box (c.map .u8))]) (L0 := 10) ?_ ?_
  · refine Weak.sel [0, 1, 2, 3, 4, 5, 6, 7, 8, 9] rfl rfl ?_ ?_ rfl rfl
    · (repeat' (first | exact trivial | refine And.intro ?_ ?_ | fail)) <;> first | rfl | fail
    · (repeat' (first | exact trivial | exact ren_eq (plainL_u8 _) hb0 | refine And.intro ?_ ?_ | (refine wk_cons ?_ ?_))) <;> first | rfl | exact ren_eq (by first | (simp; done) | fail) (by first | rfl | fail) | exact ren_app2 (by first | (simp; done) | fail) (by first | rfl | fail) rfl | fail
  refine range_named rfl rfl rfl (by kernel_rfl : Try.prog.funcs[102]? = some Try.f102) rfl rfl rfl rfl ?_
  intro asq bdq hasq hbdq
  refine sw_ok ttOk mixed (by kernel_rfl) ?_
  conv => whnf
  repeat (fail)
  refine loop_rule ttOk mixed (by kernel_rfl) (ι := { k : Nat // k = 0 ∨ 16 * k < b.length }) (fun k => [(0, .yld 10), (1, .p 8 0), (2, .p 9 0)]) (fun k => [some (.ro (sbx.map .u8 ++ [.sl 1 0 n 4 fl])), some (.ro (w.map .u8)), some (.ro [.sl 3 o b.length 1 f2]), some (.ro ((D).map .u8)), none, some (.box [.sl 6 0 b.length 1 false]), some (.row 5 ((fil b.length (16 * k.1) (trn w R c b) (fun j => b.getD j 0)).map .u8)), some (.box [.i ((16 * k.1 : Nat) : Int)]), some (.box [.p 0 0]), some (.box ((ctrN c k.1).map .u8)), some (.obj (.loop [(8, .p 5 0), (11, .p 7 0)] Try.f53.ntmps [29] asq bdq))]) (fun _ => 11) (fun k => b.length - 16 * k.1) ⟨0, .inl rfl⟩ ?_ ?_
  · have hz : fil b.length (16 * 0) (trn w R c b) (fun j => b.getD j 0) = b := fil_of_list rfl
    refine Weak.sel [0, 1, 2, 3, 4, 5, 6, 7, 8, 9, 10] rfl rfl ?_ ?_ rfl rfl
    · (repeat' (first | exact trivial | refine And.intro ?_ ?_ | fail)) <;> first | rfl | fail
    · (repeat' (first | exact trivial | refine And.intro ?_ ?_ | (refine wk_cons ?_ ?_))) <;> first | exact ren_m8 (by first | exact hz | fail) | rfl | exact ren_eq (by first | (simp; done) | fail) (by first | rfl | fail) | exact ren_app2 (by first | (simp; done) | fail) (by first | rfl | fail) rfl | fail
  · rintro ⟨k, hk⟩
    have hf := fil_len b.length (16 * k) (trn w R c b) (fun j => b.getD j 0)
    have hcl := ctrN_len hc k
    have hse := f47L n fl w R hn hw hR1 hR2 (ctrN c k) hcl
    have h54 := f54L (ctrN c k) hcl
    rw [ksB_eq] at hse
    have hkl := ksB_len (w := w) (R := R) hc k
    dsimp only
    conv => whnf
    repeat (first | (refine brT rfl ?_; conv => whnf) | (refine Exists.intro _ (And.intro (sload_all rfl (by first | rfl | (simp; omega))) ?_); conv => whnf) | (refine Exists.intro _ (And.intro rfl ?_); conv => whnf) | (refine And.intro (by kernel_rfl) ?_; conv => whnf) | fail)
    refine ok1_callF [0, 1] [false, false] true (hse) rfl rfl ⟨⟨rfl, by first | ((repeat' (first | exact wk_nil | exact ren_m8 rfl | exact rfl | (refine wk_agg ?_) | (refine wk_cons ?_ ?_))); done) | fail⟩, by (repeat' (first | exact trivial | refine And.intro ?_ ?_)) <;> first | exact ren_eq (by first | (simp; done) | fail) (by first | rfl | fail) | exact ren_app2 (by first | (simp; done) | fail) (by first | rfl | fail) (by first | rfl | fail), by first | rfl | fail, by first | simp [plainRf, plainR, plainT, plainW], ?_⟩
    conv => whnf
    repeat (first | (refine brT rfl ?_; conv => whnf) | fail)
    have hcase : b.length ≤ 16 * (k + 1) ∨ 16 * (k + 1) < b.length := by omega
    rcases hcase with hca | hca
    · refine ok1_yield 10 [5, 6, 7] [false, false, true, true] (syield_of (ps := [29]) (N := Try.f53.ntmps) (R0 := [(8, .p 1 0), (11, .p 3 0)]) (args0 := [.agg ((ksB w R c k).map .u8)]) (ex := (.exit 2)) (H0t := [some (.box [.sl 2 0 b.length 1 false]), some (.row 5 ((fil b.length (16 * k) (trn w R c b) (fun j => b.getD j 0)).map .u8)), some (.box [.i ((16 * k : Nat) : Int)])]) (H1t := [some (.box [.sl 2 0 b.length 1 false]), some (.row 5 ((fil b.length (b.length) (trn w R c b) (fun j => b.getD j 0)).map .u8)), some (.box [.i ((b.length : Nat) : Int)])]) (.inr (.inr ⟨2, rfl⟩)) rfl rfl rfl ?_) rfl rfl ⟨⟨rfl, by first | ((repeat' (first | exact wk_nil | exact ren_m8 rfl | (refine wk_agg ?_) | (refine wk_cons ?_ ?_))); done)⟩, by (repeat' (first | exact trivial | refine And.intro ?_ ?_)) <;> first | exact ren_m8 rfl | rfl | fail, by first | (simp [plainHf, plainB]; done) | fail, ?_⟩
      · subst hasq
        subst hbdq
        refine sw_ok ttOk mixed (by kernel_rfl) ?_
        conv => whnf
        repeat (first | (refine Exists.intro _ (And.intro (sput_all rfl (by first | rfl | (simp [hkl]; done) | fail)) ?_); conv => whnf) | (refine And.intro (by first | omega | (simp; done) | (simp; omega) | fail) ?_; conv => whnf) | (refine And.intro (by kernel_rfl) ?_; conv => whnf) | fail)
        refine sw_ok ttOk mixed (by kernel_rfl) ?_
        conv => whnf
        repeat (fail)
        refine loop_rule ttOk mixed (by kernel_rfl) (ι := { i : Nat // i ≤ 16 ∧ 16 * k + i ≤ b.length }) (fun i => [(8, .p 1 0), (11, .p 3 0), (12, .p 4 0), (13, .i (i.1 : Int))]) (fun i => [none, some (.box [.sl 2 0 b.length 1 false]), some (.row 5 ((fil b.length (16 * k + i.1) (trn w R c b) (fun j => b.getD j 0)).map .u8)), some (.box [.i ((16 * k + i.1 : Nat) : Int)]), some (.box ((ksB w R c k).map .u8))]) (fun _ => 5) (fun i => 16 - i.1) ⟨0, by omega, by omega⟩ ?_ ?_
        · refine Weak.sel [0, 1, 2, 3, 4] rfl rfl ?_ ?_ rfl rfl
          · (repeat' (first | exact trivial | refine And.intro ?_ ?_ | fail)) <;> first | rfl | fail
          · (repeat' (first | exact trivial | refine And.intro ?_ ?_ | (refine wk_cons ?_ ?_))) <;> first | rfl | exact ren_eq (by first | (simp; done) | fail) (by first | rfl | fail) | fail
        · rintro ⟨i, hi, him⟩
          have hf := fil_len b.length (16 * k + i) (trn w R c b) (fun j => b.getD j 0)
          dsimp only
          by_cases hi2 : i < 16
          · have hl1 : decide ((i : Int) < 16) = true := by simp; omega
            by_cases hm2 : 16 * k + i < b.length
            · have hl2 : decide (((16 * k + i : Nat) : Int) < (b.length : Int)) = true := by simp; omega
              have hp1 := wp1 i (by omega)
              have hp2 := wp1 (16 * k + i) (by omega)
              have hx : (fil b.length (16 * k + i) (trn w R c b) (fun j => b.getD j 0)).getD (16 * k + i) 0 ^^^ (ksB w R c k).getD i 0 = trn w R c b (16 * k + i) := by
                rw [fil_getD hm2, if_neg (by omega)]
                unfold trn
                rw [show (16 * k + i) / 16 = k by omega, show (16 * k + i) % 16 = i by omega]
              have hst := fil_setx (g := fun j => b.getD j 0) hm2 hx
              conv => whnf
              repeat (first | (refine gdT hl1 ?_; conv => whnf) | (refine pkT hl1 ?_; conv => whnf) | (refine gdT hl2 ?_; conv => whnf) | (refine Exists.intro _ (And.intro (sput_m8 (i := 16 * k + i) (by first | rfl | omega | fail)) ?_); conv => whnf) | (refine Exists.intro _ (And.intro (sload_u8 (i := 16 * k + i) (by first | rfl | omega | fail) (by first | omega | fail)) ?_); conv => whnf) | (refine Exists.intro _ (And.intro (idx_i (m := 16 * k + i) (by first | rfl | fail)) ?_); conv => whnf) | (refine Exists.intro _ (And.intro (sload_u8 (i := i) (by first | rfl | (simp; done) | fail) (by first | omega | fail)) ?_); conv => whnf) | (refine Exists.intro _ (And.intro (idx_i (m := i) (by first | rfl | fail)) ?_); conv => whnf) | (refine Exists.intro _ (And.intro rfl ?_); conv => whnf) | (refine And.intro (by first | omega | (simp; done) | fail) ?_; conv => whnf) | (refine And.intro (by kernel_rfl) ?_; conv => whnf) | (refine And.intro ⟨by first | exact @rfl Nat _ | fail, by first | (simp only [hf, hkl, ti5, List.length_map]; omega) | fail⟩ ?_; conv => whnf) | fail)
              refine ⟨⟨i + 1, by omega, by omega⟩, by simp only; omega, ?_⟩
              refine Weak.sel [0, 1, 2, 3, 4] rfl rfl ?_ ?_ rfl rfl
              · (repeat' (first | exact trivial | refine And.intro ?_ ?_ | fail)) <;> first | rfl | exact wk_i (by first | exact hp1.symm | fail) | fail
              · (repeat' (first | exact trivial | refine And.intro ?_ ?_ | (refine wk_cons ?_ ?_))) <;> first | exact ren_m8 (by first | exact hst | exact hst.symm | fail) | rfl | exact wk_i (by first | rfl | exact hp2.symm | fail) | exact ren_eq (by first | (simp; done) | fail) (by first | rfl | fail) | fail
            · have hl2 : decide (((16 * k + i : Nat) : Int) < (b.length : Int)) = false := by simp; omega
              have hmm : 16 * k + i = b.length := by omega
              have hl3 : (((16 * k + i : Nat) : Int) == (b.length : Int)) = true := by simp; omega
              conv => whnf
              repeat (first | (refine gdT hl1 ?_; conv => whnf) | (refine pkT hl1 ?_; conv => whnf) | (refine gdF hl2 ?_; conv => whnf) | (refine gdT hl3 ?_; conv => whnf) | (refine Exists.intro _ (And.intro rfl ?_); conv => whnf) | (refine And.intro (by first | omega | (simp; done) | fail) ?_; conv => whnf) | (refine And.intro (by kernel_rfl) ?_; conv => whnf) | fail)
              have hfm : fil b.length (16 * k + i) (trn w R c b) (fun j => b.getD j 0) = fil b.length (b.length) (trn w R c b) (fun j => b.getD j 0) := by rw [hmm]
              exact ⟨[0, 1, 2, 3], rfl, rfl, by (repeat' (first | exact trivial | refine And.intro ?_ ?_)) <;> first | exact ren_m8 (by first | rfl | exact hfm.symm | fail) | rfl | exact wk_cons (wk_i (by first | omega)) rfl, rfl⟩
          · obtain rfl : i = 16 := by omega
            have hl1 : decide (((16 : Nat) : Int) < 16) = false := by decide
            have hmm : 16 * k + 16 = b.length := by omega
            have hl3 : (((16 * k + 16 : Nat) : Int) == (b.length : Int)) = true := by simp; omega
            conv => whnf
            repeat (first | (refine brF rfl ?_; conv => whnf) | (refine pkF hl1 ?_; conv => whnf) | (refine gdT hl3 ?_; conv => whnf) | (refine And.intro (by first | omega | (simp; done) | fail) ?_; conv => whnf) | (refine And.intro (by kernel_rfl) ?_; conv => whnf) | fail)
            have hfm : fil b.length (16 * k + 16) (trn w R c b) (fun j => b.getD j 0) = fil b.length (b.length) (trn w R c b) (fun j => b.getD j 0) := by rw [hmm]
            exact ⟨[0, 1, 2, 3], rfl, rfl, by (repeat' (first | exact trivial | refine And.intro ?_ ?_)) <;> first | exact ren_m8 (by first | rfl | exact hfm.symm | fail) | rfl | exact wk_cons (wk_i (by first | omega)) rfl, rfl⟩
      · conv => whnf
        repeat (first | (refine brF rfl ?_; conv => whnf) | (refine Exists.intro _ (And.intro rfl ?_); conv => whnf) | fail)
        have htl : fil b.length b.length (trn w R c b) (fun j => b.getD j 0) = turnL w R c b := fil_full ..
        refine ⟨[0, 1, 2, 3, 6], ?_, rfl, rfl, ?_, rfl⟩
        · (repeat' (first | (refine wk_tup ?_) | (refine wk_cons ?_ ?_))) <;> first | rfl | fail
        · (repeat' (first | exact trivial | refine And.intro ?_ ?_ | (refine wk_cons ?_ ?_))) <;> first | exact ren_m8 (by first | exact htl | exact htl.symm | fail) | rfl | exact ren_eq (by first | (simp; done) | fail) (by first | rfl | fail) | exact ren_app2 (by first | (simp; done) | fail) (by first | rfl | fail) rfl | fail
    · refine ok1_yield 10 [5, 6, 7] [false, false, true, true] (syield_of (ps := [29]) (N := Try.f53.ntmps) (R0 := [(8, .p 1 0), (11, .p 3 0)]) (args0 := [.agg ((ksB w R c k).map .u8)]) (ex := .normal) (H0t := [some (.box [.sl 2 0 b.length 1 false]), some (.row 5 ((fil b.length (16 * k) (trn w R c b) (fun j => b.getD j 0)).map .u8)), some (.box [.i ((16 * k : Nat) : Int)])]) (H1t := [some (.box [.sl 2 0 b.length 1 false]), some (.row 5 ((fil b.length (16 * (k + 1)) (trn w R c b) (fun j => b.getD j 0)).map .u8)), some (.box [.i ((16 * (k + 1) : Nat) : Int)])]) (.inl rfl) rfl rfl rfl ?_) rfl rfl ⟨⟨rfl, by first | ((repeat' (first | exact wk_nil | exact ren_m8 rfl | (refine wk_agg ?_) | (refine wk_cons ?_ ?_))); done)⟩, by (repeat' (first | exact trivial | refine And.intro ?_ ?_)) <;> first | exact ren_m8 rfl | rfl | fail, by first | (simp [plainHf, plainB]; done) | fail, ?_⟩
      · subst hasq
        subst hbdq
        refine sw_ok ttOk mixed (by kernel_rfl) ?_
        conv => whnf
        repeat (first | (refine Exists.intro _ (And.intro (sput_all rfl (by first | rfl | (simp [hkl]; done) | fail)) ?_); conv => whnf) | (refine And.intro (by first | omega | (simp; done) | (simp; omega) | fail) ?_; conv => whnf) | (refine And.intro (by kernel_rfl) ?_; conv => whnf) | fail)
        refine sw_ok ttOk mixed (by kernel_rfl) ?_
        conv => whnf
        repeat (fail)
        refine loop_rule ttOk mixed (by kernel_rfl) (ι := { i : Nat // i ≤ 16 ∧ 16 * k + i ≤ b.length }) (fun i => [(8, .p 1 0), (11, .p 3 0), (12, .p 4 0), (13, .i (i.1 : Int))]) (fun i => [none, some (.box [.sl 2 0 b.length 1 false]), some (.row 5 ((fil b.length (16 * k + i.1) (trn w R c b) (fun j => b.getD j 0)).map .u8)), some (.box [.i ((16 * k + i.1 : Nat) : Int)]), some (.box ((ksB w R c k).map .u8))]) (fun _ => 5) (fun i => 16 - i.1) ⟨0, by omega, by omega⟩ ?_ ?_
        · refine Weak.sel [0, 1, 2, 3, 4] rfl rfl ?_ ?_ rfl rfl
          · (repeat' (first | exact trivial | refine And.intro ?_ ?_ | fail)) <;> first | rfl | fail
          · (repeat' (first | exact trivial | refine And.intro ?_ ?_ | (refine wk_cons ?_ ?_))) <;> first | rfl | exact ren_eq (by first | (simp; done) | fail) (by first | rfl | fail) | fail
        · rintro ⟨i, hi, him⟩
          have hf := fil_len b.length (16 * k + i) (trn w R c b) (fun j => b.getD j 0)
          dsimp only
          by_cases hi2 : i < 16
          · have hl1 : decide ((i : Int) < 16) = true := by simp; omega
            by_cases hm2 : 16 * k + i < b.length
            · have hl2 : decide (((16 * k + i : Nat) : Int) < (b.length : Int)) = true := by simp; omega
              have hp1 := wp1 i (by omega)
              have hp2 := wp1 (16 * k + i) (by omega)
              have hx : (fil b.length (16 * k + i) (trn w R c b) (fun j => b.getD j 0)).getD (16 * k + i) 0 ^^^ (ksB w R c k).getD i 0 = trn w R c b (16 * k + i) := by
                rw [fil_getD hm2, if_neg (by omega)]
                unfold trn
                rw [show (16 * k + i) / 16 = k by omega, show (16 * k + i) % 16 = i by omega]
              have hst := fil_setx (g := fun j => b.getD j 0) hm2 hx
              conv => whnf
              repeat (first | (refine gdT hl1 ?_; conv => whnf) | (refine pkT hl1 ?_; conv => whnf) | (refine gdT hl2 ?_; conv => whnf) | (refine Exists.intro _ (And.intro (sput_m8 (i := 16 * k + i) (by first | rfl | omega | fail)) ?_); conv => whnf) | (refine Exists.intro _ (And.intro (sload_u8 (i := 16 * k + i) (by first | rfl | omega | fail) (by first | omega | fail)) ?_); conv => whnf) | (refine Exists.intro _ (And.intro (idx_i (m := 16 * k + i) (by first | rfl | fail)) ?_); conv => whnf) | (refine Exists.intro _ (And.intro (sload_u8 (i := i) (by first | rfl | (simp; done) | fail) (by first | omega | fail)) ?_); conv => whnf) | (refine Exists.intro _ (And.intro (idx_i (m := i) (by first | rfl | fail)) ?_); conv => whnf) | (refine Exists.intro _ (And.intro rfl ?_); conv => whnf) | (refine And.intro (by first | omega | (simp; done) | fail) ?_; conv => whnf) | (refine And.intro (by kernel_rfl) ?_; conv => whnf) | (refine And.intro ⟨by first | exact @rfl Nat _ | fail, by first | (simp only [hf, hkl, ti5, List.length_map]; omega) | fail⟩ ?_; conv => whnf) | fail)
              refine ⟨⟨i + 1, by omega, by omega⟩, by simp only; omega, ?_⟩
              refine Weak.sel [0, 1, 2, 3, 4] rfl rfl ?_ ?_ rfl rfl
              · (repeat' (first | exact trivial | refine And.intro ?_ ?_ | fail)) <;> first | rfl | exact wk_i (by first | exact hp1.symm | fail) | fail
              · (repeat' (first | exact trivial | refine And.intro ?_ ?_ | (refine wk_cons ?_ ?_))) <;> first | exact ren_m8 (by first | exact hst | exact hst.symm | fail) | rfl | exact wk_i (by first | rfl | exact hp2.symm | fail) | exact ren_eq (by first | (simp; done) | fail) (by first | rfl | fail) | fail
            · have hl2 : decide (((16 * k + i : Nat) : Int) < (b.length : Int)) = false := by simp; omega
              exact absurd hca (by omega)
          · obtain rfl : i = 16 := by omega
            have hl1 : decide (((16 : Nat) : Int) < 16) = false := by decide
            have hmm : 16 * k + 16 = 16 * (k + 1) := by omega
            have hl3 : (((16 * k + 16 : Nat) : Int) == (b.length : Int)) = false := by simp; omega
            conv => whnf
            repeat (first | (refine brF rfl ?_; conv => whnf) | (refine pkF hl1 ?_; conv => whnf) | (refine gdF hl3 ?_; conv => whnf) | (refine And.intro (by first | omega | (simp; done) | fail) ?_; conv => whnf) | (refine And.intro (by kernel_rfl) ?_; conv => whnf) | fail)
            have hfm : fil b.length (16 * k + 16) (trn w R c b) (fun j => b.getD j 0) = fil b.length (16 * (k + 1)) (trn w R c b) (fun j => b.getD j 0) := by rw [hmm]
            exact ⟨[0, 1, 2, 3], rfl, rfl, by (repeat' (first | exact trivial | refine And.intro ?_ ?_)) <;> first | exact ren_m8 (by first | rfl | fail) | rfl | fail, rfl⟩
      · conv => whnf
        repeat (first | (refine brT rfl ?_; conv => whnf) | (refine Exists.intro _ (And.intro (sload_all rfl (by first | rfl | (simp; omega))) ?_); conv => whnf) | (refine Exists.intro _ (And.intro rfl ?_); conv => whnf) | fail)
        refine ok1_callF [] [] true (h54) rfl rfl ⟨⟨rfl, by first | ((repeat' (first | exact wk_nil | exact ren_m8 rfl | (refine wk_agg ?_) | (refine wk_cons ?_ ?_))); done) | fail⟩, trivial, by first | rfl | fail, by first | simp [plainRf, plainR, plainT, plainW], ?_⟩
        conv => whnf
        have hnl := nextC_len hcl
        repeat (first | (refine Exists.intro _ (And.intro (sput_all rfl (by first | rfl | (simp [hcl, hnl]; done) | fail)) ?_); conv => whnf) | (refine And.intro (by first | omega | (simp; omega) | fail) ?_; conv => whnf) | fail)
        refine ⟨⟨k + 1, .inr (by omega)⟩, by simp only; omega, ?_⟩
        refine Weak.sel [0, 1, 2, 3, 4, 5, 6, 7, 8, 9, 10] rfl rfl ?_ ?_ rfl rfl
        · (repeat' (first | exact trivial | refine And.intro ?_ ?_ | fail)) <;> first | rfl | fail
        · (repeat' (first | exact trivial | refine And.intro ?_ ?_ | (refine wk_cons ?_ ?_))) <;> first | rfl | exact ren_eq (by first | (simp; done) | fail) (by first | rfl | fail) | exact ren_app2 (by first | (simp; done) | fail) (by first | rfl | fail) rfl | fail

theorem f53_3 (n : Nat) (fl : Bool) (w : List UInt8) (R : Nat) (hn : n = 4 * (R + 1)) (hw : w.length = 16 * (R + 1)) (hR1 : 1 ≤ R) (hR2 : R ≤ 20) (c b : List UInt8) (n1 n2 : Nat) (h12 : n1 + n2 = b.length) (hc : c.length = 16) (hb : b.length < 100000000000000) (f1 f2 f3 : Bool) :
    SCall Try.prog 53 [.p 0 0, .agg (c.map .u8), .sl 2 0 3 1 f1] [some (.ro (sbx.map .u8 ++ [.sl 1 0 n 4 fl])), some (.ro (w.map .u8)), some (.ro [.sl 3 0 n1 1 f2, .slnil, .sl 3 n1 n2 1 f3]), some (.ro (b.map .u8))]
      (.tup [.sl 4 0 b.length 1 false, .i 0]) [some (.ro (sbx.map .u8 ++ [.sl 1 0 n 4 fl])), some (.ro (w.map .u8)), some (.ro [.sl 3 0 n1 1 f2, .slnil, .sl 3 n1 n2 1 f3]), some (.ro (b.map .u8)), some (.row 5 ((turnL w R c b).map .u8))] := by
  have h89 := f89 n fl w c
  have hb0 : b.map SV.u8 = List.take (n1 * 1) (List.drop 0 (List.take (n1 * 1) (List.drop 0 (b.map SV.u8)))) ++ List.take (n2 * 1) (List.drop n1 (b.map SV.u8)) := by
    rw [Nat.mul_one, Nat.mul_one, List.drop_zero, List.drop_zero, List.take_take, Nat.min_self, List.take_of_length_le (i := n2) (by simp; omega), List.take_append_drop]
  refine scall_of ttOk (by kernel_rfl : Try.prog.funcs[53]? = some Try.f53) rfl rfl rfl ?_
  refine sw_ok ttOk mixed (by kernel_rfl) ?_
  conv => whnf
  repeat (first | (refine brF rfl ?_; conv => whnf) | (refine And.intro (by kernel_rfl) ?_; conv => whnf) | fail)
  refine loop_rounds ttOk mixed (by kernel_rfl) 4 ?_
  conv => whnf
  repeat (first | (refine brT rfl ?_; conv => whnf) | (refine brF rfl ?_; conv => whnf) | (refine Exists.intro _ (And.intro (sload_all rfl (by first | rfl | (simp; omega))) ?_); conv => whnf) | (refine Exists.intro _ (And.intro rfl ?_); conv => whnf) | (refine And.intro (by first | omega | (simp; done) | (simp [ti5]; omega)) ?_; conv => whnf) | (refine And.intro (Nat.le_of_ble_eq_true rfl) ?_; conv => whnf) | (refine And.intro ⟨rfl, Nat.le_of_ble_eq_true rfl⟩ ?_; conv => whnf) | fail)
  refine ok1_callF [0, 1] [false, true, false, true] false (h89) rfl rfl ⟨⟨rfl, by first | ((repeat' (first | exact wk_nil | exact ren_m8 rfl | exact rfl | (refine wk_agg ?_) | (refine wk_cons ?_ ?_))); done) | fail⟩, by (repeat' (first | exact trivial | refine And.intro ?_ ?_)) <;> first | exact ren_eq (by first | (simp; done) | fail) (by first | rfl | fail) | exact ren_app2 (by first | (simp; done) | fail) (by first | rfl | fail) (by first | rfl | fail), by first | simp [plainHf, plainB], by first | rfl | fail, ?_⟩
  conv => whnf
  repeat (fail)
  refine SWp.weak (R0 := [(8, .p 5 0), (11, .p 7 0), (28, .fn 102 [.p 8 0, .p 9 0])]) (H0 := [some (.ro (sbx.map .u8 ++ [.sl 1 0 n 4 fl])), some (.ro (w.map .u8)), some (.ro [.sl 3 0 n1 1 f2, .slnil, .sl 3 n1 n2 1 f3]), some (.ro ((b).map .u8)), none, some (.box [.sl 6 0 b.length 1 false]), some (.row 5 (b.map .u8)), some (.box [.i 0]), some (.box [.p 0 0]), some (.box (c.map .u8))]) (L0 := 10) ?_ ?_
  · refine Weak.sel [0, 1, 2, 3, 4, 5, 7, 8, 9, 10] rfl rfl ?_ ?_ rfl rfl
    · (repeat' (first | exact trivial | refine And.intro ?_ ?_ | fail)) <;> first | rfl | fail
    · (repeat' (first | exact trivial | exact ren_eq (plainL_u8 _) hb0 | refine And.intro ?_ ?_ | (refine wk_cons ?_ ?_))) <;> first | rfl | exact wk_sl rfl (by first | rfl | fail) (by first | rfl | omega | fail) | exact ren_eq (by first | (simp; done) | fail) (by first | rfl | fail) | exact ren_app2 (by first | (simp; done) | fail) (by first | rfl | fail) rfl | fail
  refine range_named rfl rfl rfl (by kernel_rfl : Try.prog.funcs[102]? = some Try.f102) rfl rfl rfl rfl ?_
  intro asq bdq hasq hbdq
  refine sw_ok ttOk mixed (by kernel_rfl) ?_
  conv => whnf
  repeat (fail)
  refine loop_rule ttOk mixed (by kernel_rfl) (ι := { k : Nat // k = 0 ∨ 16 * k < b.length }) (fun k => [(0, .yld 10), (1, .p 8 0), (2, .p 9 0)]) (fun k => [some (.ro (sbx.map .u8 ++ [.sl 1 0 n 4 fl])), some (.ro (w.map .u8)), some (.ro [.sl 3 0 n1 1 f2, .slnil, .sl 3 n1 n2 1 f3]), some (.ro ((b).map .u8)), none, some (.box [.sl 6 0 b.length 1 false]), some (.row 5 ((fil b.length (16 * k.1) (trn w R c b) (fun j => b.getD j 0)).map .u8)), some (.box [.i ((16 * k.1 : Nat) : Int)]), some (.box [.p 0 0]), some (.box ((ctrN c k.1).map .u8)), some (.obj (.loop [(8, .p 5 0), (11, .p 7 0)] Try.f53.ntmps [29] asq bdq))]) (fun _ => 11) (fun k => b.length - 16 * k.1) ⟨0, .inl rfl⟩ ?_ ?_
  · have hz : fil b.length (16 * 0) (trn w R c b) (fun j => b.getD j 0) = b := fil_of_list rfl
    refine Weak.sel [0, 1, 2, 3, 4, 5, 6, 7, 8, 9, 10] rfl rfl ?_ ?_ rfl rfl
    · (repeat' (first | exact trivial | refine And.intro ?_ ?_ | fail)) <;> first | rfl | fail
    · (repeat' (first | exact trivial | refine And.intro ?_ ?_ | (refine wk_cons ?_ ?_))) <;> first | exact ren_m8 (by first | exact hz | fail) | rfl | exact ren_eq (by first | (simp; done) | fail) (by first | rfl | fail) | exact ren_app2 (by first | (simp; done) | fail) (by first | rfl | fail) rfl | fail
  · rintro ⟨k, hk⟩
    have hf := fil_len b.length (16 * k) (trn w R c b) (fun j => b.getD j 0)
    have hcl := ctrN_len hc k
    have hse := f47L n fl w R hn hw hR1 hR2 (ctrN c k) hcl
    have h54 := f54L (ctrN c k) hcl
    rw [ksB_eq] at hse
    have hkl := ksB_len (w := w) (R := R) hc k
    dsimp only
    conv => whnf
    repeat (first | (refine brT rfl ?_; conv => whnf) | (refine Exists.intro _ (And.intro (sload_all rfl (by first | rfl | (simp; omega))) ?_); conv => whnf) | (refine Exists.intro _ (And.intro rfl ?_); conv => whnf) | (refine And.intro (by kernel_rfl) ?_; conv => whnf) | fail)
    refine ok1_callF [0, 1] [false, false] true (hse) rfl rfl ⟨⟨rfl, by first | ((repeat' (first | exact wk_nil | exact ren_m8 rfl | exact rfl | (refine wk_agg ?_) | (refine wk_cons ?_ ?_))); done) | fail⟩, by (repeat' (first | exact trivial | refine And.intro ?_ ?_)) <;> first | exact ren_eq (by first | (simp; done) | fail) (by first | rfl | fail) | exact ren_app2 (by first | (simp; done) | fail) (by first | rfl | fail) (by first | rfl | fail), by first | rfl | fail, by first | simp [plainRf, plainR, plainT, plainW], ?_⟩
    conv => whnf
    repeat (first | (refine brT rfl ?_; conv => whnf) | fail)
    have hcase : b.length ≤ 16 * (k + 1) ∨ 16 * (k + 1) < b.length := by omega
    rcases hcase with hca | hca
    · refine ok1_yield 10 [5, 6, 7] [false, false, true, true] (syield_of (ps := [29]) (N := Try.f53.ntmps) (R0 := [(8, .p 1 0), (11, .p 3 0)]) (args0 := [.agg ((ksB w R c k).map .u8)]) (ex := (.exit 2)) (H0t := [some (.box [.sl 2 0 b.length 1 false]), some (.row 5 ((fil b.length (16 * k) (trn w R c b) (fun j => b.getD j 0)).map .u8)), some (.box [.i ((16 * k : Nat) : Int)])]) (H1t := [some (.box [.sl 2 0 b.length 1 false]), some (.row 5 ((fil b.length (b.length) (trn w R c b) (fun j => b.getD j 0)).map .u8)), some (.box [.i ((b.length : Nat) : Int)])]) (.inr (.inr ⟨2, rfl⟩)) rfl rfl rfl ?_) rfl rfl ⟨⟨rfl, by first | ((repeat' (first | exact wk_nil | exact ren_m8 rfl | (refine wk_agg ?_) | (refine wk_cons ?_ ?_))); done)⟩, by (repeat' (first | exact trivial | refine And.intro ?_ ?_)) <;> first | exact ren_m8 rfl | rfl | fail, by first | (simp [plainHf, plainB]; done) | fail, ?_⟩
      · subst hasq
        subst hbdq
        refine sw_ok ttOk mixed (by kernel_rfl) ?_
        conv => whnf
        repeat (first | (refine Exists.intro _ (And.intro (sput_all rfl (by first | rfl | (simp [hkl]; done) | fail)) ?_); conv => whnf) | (refine And.intro (by first | omega | (simp; done) | (simp; omega) | fail) ?_; conv => whnf) | (refine And.intro (by kernel_rfl) ?_; conv => whnf) | fail)
        refine sw_ok ttOk mixed (by kernel_rfl) ?_
        conv => whnf
        repeat (fail)
        refine loop_rule ttOk mixed (by kernel_rfl) (ι := { i : Nat // i ≤ 16 ∧ 16 * k + i ≤ b.length }) (fun i => [(8, .p 1 0), (11, .p 3 0), (12, .p 4 0), (13, .i (i.1 : Int))]) (fun i => [none, some (.box [.sl 2 0 b.length 1 false]), some (.row 5 ((fil b.length (16 * k + i.1) (trn w R c b) (fun j => b.getD j 0)).map .u8)), some (.box [.i ((16 * k + i.1 : Nat) : Int)]), some (.box ((ksB w R c k).map .u8))]) (fun _ => 5) (fun i => 16 - i.1) ⟨0, by omega, by omega⟩ ?_ ?_
        · refine Weak.sel [0, 1, 2, 3, 4] rfl rfl ?_ ?_ rfl rfl
          · (repeat' (first | exact trivial | refine And.intro ?_ ?_ | fail)) <;> first | rfl | fail
          · (repeat' (first | exact trivial | refine And.intro ?_ ?_ | (refine wk_cons ?_ ?_))) <;> first | rfl | exact ren_eq (by first | (simp; done) | fail) (by first | rfl | fail) | fail
        · rintro ⟨i, hi, him⟩
          have hf := fil_len b.length (16 * k + i) (trn w R c b) (fun j => b.getD j 0)
          dsimp only
          by_cases hi2 : i < 16
          · have hl1 : decide ((i : Int) < 16) = true := by simp; omega
            by_cases hm2 : 16 * k + i < b.length
            · have hl2 : decide (((16 * k + i : Nat) : Int) < (b.length : Int)) = true := by simp; omega
              have hp1 := wp1 i (by omega)
              have hp2 := wp1 (16 * k + i) (by omega)
              have hx : (fil b.length (16 * k + i) (trn w R c b) (fun j => b.getD j 0)).getD (16 * k + i) 0 ^^^ (ksB w R c k).getD i 0 = trn w R c b (16 * k + i) := by
                rw [fil_getD hm2, if_neg (by omega)]
                unfold trn
                rw [show (16 * k + i) / 16 = k by omega, show (16 * k + i) % 16 = i by omega]
              have hst := fil_setx (g := fun j => b.getD j 0) hm2 hx
              conv => whnf
              repeat (first | (refine gdT hl1 ?_; conv => whnf) | (refine pkT hl1 ?_; conv => whnf) | (refine gdT hl2 ?_; conv => whnf) | (refine Exists.intro _ (And.intro (sput_m8 (i := 16 * k + i) (by first | rfl | omega | fail)) ?_); conv => whnf) | (refine Exists.intro _ (And.intro (sload_u8 (i := 16 * k + i) (by first | rfl | omega | fail) (by first | omega | fail)) ?_); conv => whnf) | (refine Exists.intro _ (And.intro (idx_i (m := 16 * k + i) (by first | rfl | fail)) ?_); conv => whnf) | (refine Exists.intro _ (And.intro (sload_u8 (i := i) (by first | rfl | (simp; done) | fail) (by first | omega | fail)) ?_); conv => whnf) | (refine Exists.intro _ (And.intro (idx_i (m := i) (by first | rfl | fail)) ?_); conv => whnf) | (refine Exists.intro _ (And.intro rfl ?_); conv => whnf) | (refine And.intro (by first | omega | (simp; done) | fail) ?_; conv => whnf) | (refine And.intro (by kernel_rfl) ?_; conv => whnf) | (refine And.intro ⟨by first | exact @rfl Nat _ | fail, by first | (simp only [hf, hkl, ti5, List.length_map]; omega) | fail⟩ ?_; conv => whnf) | fail)
              refine ⟨⟨i + 1, by omega, by omega⟩, by simp only; omega, ?_⟩
              refine Weak.sel [0, 1, 2, 3, 4] rfl rfl ?_ ?_ rfl rfl
              · (repeat' (first | exact trivial | refine And.intro ?_ ?_ | fail)) <;> first | rfl | exact wk_i (by first | exact hp1.symm | fail) | fail
              · (repeat' (first | exact trivial | refine And.intro ?_ ?_ | (refine wk_cons ?_ ?_))) <;> first | exact ren_m8 (by first | exact hst | exact hst.symm | fail) | rfl | exact wk_i (by first | rfl | exact hp2.symm | fail) | exact ren_eq (by first | (simp; done) | fail) (by first | rfl | fail) | fail
            · have hl2 : decide (((16 * k + i : Nat) : Int) < (b.length : Int)) = false := by simp; omega
              have hmm : 16 * k + i = b.length := by omega
              have hl3 : (((16 * k + i : Nat) : Int) == (b.length : Int)) = true := by simp; omega
              conv => whnf
              repeat (first | (refine gdT hl1 ?_; conv => whnf) | (refine pkT hl1 ?_; conv => whnf) | (refine gdF hl2 ?_; conv => whnf) | (refine gdT hl3 ?_; conv => whnf) | (refine Exists.intro _ (And.intro rfl ?_); conv => whnf) | (refine And.intro (by first | omega | (simp; done) | fail) ?_; conv => whnf) | (refine And.intro (by kernel_rfl) ?_; conv => whnf) | fail)
              have hfm : fil b.length (16 * k + i) (trn w R c b) (fun j => b.getD j 0) = fil b.length (b.length) (trn w R c b) (fun j => b.getD j 0) := by rw [hmm]
              exact ⟨[0, 1, 2, 3], rfl, rfl, by (repeat' (first | exact trivial | refine And.intro ?_ ?_)) <;> first | exact ren_m8 (by first | rfl | exact hfm.symm | fail) | rfl | exact wk_cons (wk_i (by first | omega)) rfl, rfl⟩
          · obtain rfl : i = 16 := by omega
            have hl1 : decide (((16 : Nat) : Int) < 16) = false := by decide
            have hmm : 16 * k + 16 = b.length := by omega
            have hl3 : (((16 * k + 16 : Nat) : Int) == (b.length : Int)) = true := by simp; omega
            conv => whnf
            repeat (first | (refine brF rfl ?_; conv => whnf) | (refine pkF hl1 ?_; conv => whnf) | (refine gdT hl3 ?_; conv => whnf) | (refine And.intro (by first | omega | (simp; done) | fail) ?_; conv => whnf) | (refine And.intro (by kernel_rfl) ?_; conv => whnf) | fail)
            have hfm : fil b.length (16 * k + 16) (trn w R c b) (fun j => b.getD j 0) = fil b.length (b.length) (trn w R c b) (fun j => b.getD j 0) := by rw [hmm]
            exact ⟨[0, 1, 2, 3], rfl, rfl, by (repeat' (first | exact trivial | refine And.intro ?_ ?_)) <;> first | exact ren_m8 (by first | rfl | exact hfm.symm | fail) | rfl | exact wk_cons (wk_i (by first | omega)) rfl, rfl⟩
      · conv => whnf
        repeat (first | (refine brF rfl ?_; conv => whnf) | (refine Exists.intro _ (And.intro rfl ?_); conv => whnf) | fail)
        have htl : fil b.length b.length (trn w R c b) (fun j => b.getD j 0) = turnL w R c b := fil_full ..
        refine ⟨[0, 1, 2, 3, 6], ?_, rfl, rfl, ?_, rfl⟩
        · (repeat' (first | (refine wk_tup ?_) | (refine wk_cons ?_ ?_))) <;> first | rfl | fail
        · (repeat' (first | exact trivial | refine And.intro ?_ ?_ | (refine wk_cons ?_ ?_))) <;> first | exact ren_m8 (by first | exact htl | exact htl.symm | fail) | rfl | exact ren_eq (by first | (simp; done) | fail) (by first | rfl | fail) | exact ren_app2 (by first | (simp; done) | fail) (by first | rfl | fail) rfl | fail
    · refine ok1_yield 10 [5, 6, 7] [false, false, true, true] (syield_of (ps := [29]) (N := Try.f53.ntmps) (R0 := [(8, .p 1 0), (11, .p 3 0)]) (args0 := [.agg ((ksB w R c k).map .u8)]) (ex := .normal) (H0t := [some (.box [.sl 2 0 b.length 1 false]), some (.row 5 ((fil b.length (16 * k) (trn w R c b) (fun j => b.getD j 0)).map .u8)), some (.box [.i ((16 * k : Nat) : Int)])]) (H1t := [some (.box [.sl 2 0 b.length 1 false]), some (.row 5 ((fil b.length (16 * (k + 1)) (trn w R c b) (fun j => b.getD j 0)).map .u8)), some (.box [.i ((16 * (k + 1) : Nat) : Int)])]) (.inl rfl) rfl rfl rfl ?_) rfl rfl ⟨⟨rfl, by first | ((repeat' (first | exact wk_nil | exact ren_m8 rfl | (refine wk_agg ?_) | (refine wk_cons ?_ ?_))); done)⟩, by (repeat' (first | exact trivial | refine And.intro ?_ ?_)) <;> first | exact ren_m8 rfl | rfl | fail, by first | (simp [plainHf, plainB]; done) | fail, ?_⟩
      · subst hasq
        subst hbdq
        refine sw_ok ttOk mixed (by kernel_rfl) ?_
        conv => whnf
        repeat (first | (refine Exists.intro _ (And.intro (sput_all rfl (by first | rfl | (simp [hkl]; done) | fail)) ?_); conv => whnf) | (refine And.intro (by first | omega | (simp; done) | (simp; omega) | fail) ?_; conv => whnf) | (refine And.intro (by kernel_rfl) ?_; conv => whnf) | fail)
        refine sw_ok ttOk mixed (by kernel_rfl) ?_
        conv => whnf
        repeat (fail)
        refine loop_rule ttOk mixed (by kernel_rfl) (ι := { i : Nat // i ≤ 16 ∧ 16 * k + i ≤ b.length }) (fun i => [(8, .p 1 0), (11, .p 3 0), (12, .p 4 0), (13, .i (i.1 : Int))]) (fun i => [none, some (.box [.sl 2 0 b.length 1 false]), some (.row 5 ((fil b.length (16 * k + i.1) (trn w R c b) (fun j => b.getD j 0)).map .u8)), some (.box [.i ((16 * k + i.1 : Nat) : Int)]), some (.box ((ksB w R c k).map .u8))]) (fun _ => 5) (fun i => 16 - i.1) ⟨0, by omega, by omega⟩ ?_ ?_
        · refine Weak.sel [0, 1, 2, 3, 4] rfl rfl ?_ ?_ rfl rfl
          · (repeat' (first | exact trivial | refine And.intro ?_ ?_ | fail)) <;> first | rfl | fail
          · (repeat' (first | exact trivial | refine And.intro ?_ ?_ | (refine wk_cons ?_ ?_))) <;> first | rfl | exact ren_eq (by first | (simp; done) | fail) (by first | rfl | fail) | fail
        · rintro ⟨i, hi, him⟩
          have hf := fil_len b.length (16 * k + i) (trn w R c b) (fun j => b.getD j 0)
          dsimp only
          by_cases hi2 : i < 16
          · have hl1 : decide ((i : Int) < 16) = true := by simp; omega
            by_cases hm2 : 16 * k + i < b.length
            · have hl2 : decide (((16 * k + i : Nat) : Int) < (b.length : Int)) = true := by simp; omega
              have hp1 := wp1 i (by omega)
              have hp2 := wp1 (16 * k + i) (by omega)
              have hx : (fil b.length (16 * k + i) (trn w R c b) (fun j => b.getD j 0)).getD (16 * k + i) 0 ^^^ (ksB w R c k).getD i 0 = trn w R c b (16 * k + i) := by
                rw [fil_getD hm2, if_neg (by omega)]
                unfold trn
                rw [show (16 * k + i) / 16 = k by omega, show (16 * k + i) % 16 = i by omega]
              have hst := fil_setx (g := fun j => b.getD j 0) hm2 hx
              conv => whnf
              repeat (first | (refine gdT hl1 ?_; conv => whnf) | (refine pkT hl1 ?_; conv => whnf) | (refine gdT hl2 ?_; conv => whnf) | (refine Exists.intro _ (And.intro (sput_m8 (i := 16 * k + i) (by first | rfl | omega | fail)) ?_); conv => whnf) | (refine Exists.intro _ (And.intro (sload_u8 (i := 16 * k + i) (by first | rfl | omega | fail) (by first | omega | fail)) ?_); conv => whnf) | (refine Exists.intro _ (And.intro (idx_i (m := 16 * k + i) (by first | rfl | fail)) ?_); conv => whnf) | (refine Exists.intro _ (And.intro (sload_u8 (i := i) (by first | rfl | (simp; done) | fail) (by first | omega | fail)) ?_); conv => whnf) | (refine Exists.intro _ (And.intro (idx_i (m := i) (by first | rfl | fail)) ?_); conv => whnf) | (refine Exists.intro _ (And.intro rfl ?_); conv => whnf) | (refine And.intro (by first | omega | (simp; done) | fail) ?_; conv => whnf) | (refine And.intro (by kernel_rfl) ?_; conv => whnf) | (refine And.intro ⟨by first | exact @rfl Nat _ | fail, by first | (simp only [hf, hkl, ti5, List.length_map]; omega) | fail⟩ ?_; conv => whnf) | fail)
              refine ⟨⟨i + 1, by omega, by omega⟩, by simp only; omega, ?_⟩
              refine Weak.sel [0, 1, 2, 3, 4] rfl rfl ?_ ?_ rfl rfl
              · (repeat' (first | exact trivial | refine And.intro ?_ ?_ | fail)) <;> first | rfl | exact wk_i (by first | exact hp1.symm | fail) | fail
              · (repeat' (first | exact trivial | refine And.intro ?_ ?_ | (refine wk_cons ?_ ?_))) <;> first | exact ren_m8 (by first | exact hst | exact hst.symm | fail) | rfl | exact wk_i (by first | rfl | exact hp2.symm | fail) | exact ren_eq (by first | (simp; done) | fail) (by first | rfl | fail) | fail
            · have hl2 : decide (((16 * k + i : Nat) : Int) < (b.length : Int)) = false := by simp; omega
              exact absurd hca (by omega)
          · obtain rfl : i = 16 := by omega
            have hl1 : decide (((16 : Nat) : Int) < 16) = false := by decide
            have hmm : 16 * k + 16 = 16 * (k + 1) := by omega
            have hl3 : (((16 * k + 16 : Nat) : Int) == (b.length : Int)) = false := by simp; omega
            conv => whnf
            repeat (first | (refine brF rfl ?_; conv => whnf) | (refine pkF hl1 ?_; conv => whnf) | (refine gdF hl3 ?_; conv => whnf) | (refine And.intro (by first | omega | (simp; done) | fail) ?_; conv => whnf) | (refine And.intro (by kernel_rfl) ?_; conv => whnf) | fail)
            have hfm : fil b.length (16 * k + 16) (trn w R c b) (fun j => b.getD j 0) = fil b.length (16 * (k + 1)) (trn w R c b) (fun j => b.getD j 0) := by rw [hmm]
            exact ⟨[0, 1, 2, 3], rfl, rfl, by (repeat' (first | exact trivial | refine And.intro ?_ ?_)) <;> first | exact ren_m8 (by first | rfl | fail) | rfl | fail, rfl⟩
      · conv => whnf
        repeat (first | (refine brT rfl ?_; conv => whnf) | (refine Exists.intro _ (And.intro (sload_all rfl (by first | rfl | (simp; omega))) ?_); conv => whnf) | (refine Exists.intro _ (And.intro rfl ?_); conv => whnf) | fail)
        refine ok1_callF [] [] true (h54) rfl rfl ⟨⟨rfl, by first | ((repeat' (first | exact wk_nil | exact ren_m8 rfl | (refine wk_agg ?_) | (refine wk_cons ?_ ?_))); done) | fail⟩, trivial, by first | rfl | fail, by first | simp [plainRf, plainR, plainT, plainW], ?_⟩
        conv => whnf
        have hnl := nextC_len hcl
        repeat (first | (refine Exists.intro _ (And.intro (sput_all rfl (by first | rfl | (simp [hcl, hnl]; done) | fail)) ?_); conv => whnf) | (refine And.intro (by first | omega | (simp; omega) | fail) ?_; conv => whnf) | fail)
        refine ⟨⟨k + 1, .inr (by omega)⟩, by simp only; omega, ?_⟩
        refine Weak.sel [0, 1, 2, 3, 4, 5, 6, 7, 8, 9, 10] rfl rfl ?_ ?_ rfl rfl
        · (repeat' (first | exact trivial | refine And.intro ?_ ?_ | fail)) <;> first | rfl | fail
        · (repeat' (first | exact trivial | refine And.intro ?_ ?_ | (refine wk_cons ?_ ?_))) <;> first | rfl | exact ren_eq (by first | (simp; done) | fail) (by first | rfl | fail) | exact ren_app2 (by first | (simp; done) | fail) (by first | rfl | fail) rfl | fail
end Go.Sh
