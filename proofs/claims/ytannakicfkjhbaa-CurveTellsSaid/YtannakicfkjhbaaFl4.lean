/- Merged for a claim: K9, K10, K11, K12, K14, Sh18, Sh20. -/
import Derived.Test.YtannakicfkjhbaaRows
import Derived.ProofKit
import Derived.OpenShut
import Derived.JoinedCond
import Derived.Carry
import Derived.Test.YtannakicfkjhbaaFl3
/- field: Is (f35), exponent (f88), Inverse (f29). -/
namespace Go.Sh
open Go.Proofs
set_option maxHeartbeats 8000000
set_option linter.unusedSimpArgs false
set_option linter.unusedVariables false

theorem eqcs_u8 : ∀ (l m : List UInt8), eqcs (l.map SV.u8) (m.map SV.u8) = true → l.length = m.length → l = m
  | [], [], _, _ => rfl
  | a :: l, b :: m, h, hl => by
    simp only [List.map_cons, eqcs, eqc, Bool.and_eq_true, beq_iff_eq] at h
    rw [h.1, eqcs_u8 l m h.2 (by simpa using hl)]
theorem eqcs_refl : ∀ (l : List UInt8), eqcs (l.map SV.u8) (l.map SV.u8) = true
  | [] => rfl
  | a :: l => by simp only [List.map_cons, eqcs, eqc, beq_self_eq_true, Bool.true_and]; exact eqcs_refl l
theorem eqcs_dec (l m : List UInt8) (h : l.length = m.length) : eqcs (l.map SV.u8) (m.map SV.u8) = decide (l = m) := by
  by_cases hlm : l = m
  · subst hlm; simp [eqcs_refl]
  · rw [decide_eq_false hlm]
    cases hc : eqcs (l.map SV.u8) (m.map SV.u8) with
    | false => rfl
    | true => exact absurd (eqcs_u8 l m hc h) hlm
theorem eqcs_le {v w : Nat} (hv : v < P25519) (hw : w < P25519) : eqcs ((le32 v).map SV.u8) ((le32 w).map SV.u8) = decide (v = w) := by
  rw [eqcs_dec _ _ (by rw [le32_len, le32_len])]
  rw [Bool.eq_iff_iff]; simp [le32_ne hv hw]
theorem kd_u8n {n : Nat} (l : List UInt8) (h : l.length = n) : List.map kd (List.map SV.u8 l) = List.map some (List.replicate n 1) := by
  subst h
  induction l with
  | nil => rfl
  | cons a l ih => simp only [List.map_cons, List.length_cons, List.replicate_succ, ih]; rfl
theorem f35 {x y : List UInt64} (hx : Nm x) (hy : Nm y) : SCall Try.prog 35 [.agg (x.map .u64), .agg (y.map .u64)] [] (.b (decide (nr x = nr y))) [] := by
  have h1 := f25 hx
  have h2 := f25 hy
  obtain ⟨a, b, c, d, e, rfl⟩ := ex5 hx.1
  obtain ⟨f, g, h, i, j, rfl⟩ := ex5 hy.1
  have heq := eqcs_le (nr_lt [a, b, c, d, e]) (nr_lt [f, g, h, i, j])
  rw [← heq]
  obtain ⟨p, hp⟩ : ∃ p, p = le32 (nr [a, b, c, d, e]) := ⟨_, rfl⟩
  obtain ⟨q, hq⟩ : ∃ q, q = le32 (nr [f, g, h, i, j]) := ⟨_, rfl⟩
  have hpl : p.length = 32 := by rw [hp]; exact le32_len _
  have hql : q.length = 32 := by rw [hq]; exact le32_len _
  rw [← hp] at h1 ⊢
  rw [← hq] at h2 ⊢
  have hkp : (p.map SV.u8).map kd = (List.replicate 32 1).map some := kd_u8n _ hpl
  have hkq : (q.map SV.u8).map kd = (List.replicate 32 1).map some := kd_u8n _ hql
  refine scall_of ttOk (by kernel_rfl : Try.prog.funcs[35]? = some Try.f35) rfl rfl rfl ?_
  try simp only [List.length_cons, List.length_nil, Nat.zero_add, Nat.reduceAdd]
  refine sw_ok ttOk mixed (by kernel_rfl) ?_
  conv => whnf
  repeat (first | (refine Exists.intro _ (And.intro (sload_all rfl (by first | rfl | fail)) ?_); conv => whnf) | fail)
  refine ok1_callF [] [] true (h1) rfl rfl ⟨⟨rfl, by first | rfl | fail⟩, trivial, by first | rfl | fail, by first | simp [plainRf, plainR, plainT, plainW], ?_⟩
  conv => whnf
  repeat (first | (refine Exists.intro _ (And.intro (sload_all rfl (by first | rfl | fail)) ?_); conv => whnf) | fail)
  refine ok1_callF [] [] true (h2) rfl rfl ⟨⟨rfl, by first | rfl | fail⟩, trivial, by first | rfl | fail, by first | simp [plainRf, plainR, plainT, plainW], ?_⟩
  conv => whnf
  repeat (first | (refine And.intro (by kernel_rfl) ?_; conv => whnf) | (refine And.intro ⟨by first | omega | fail, by first | omega | fail⟩ ?_; conv => whnf) | fail)
  refine ⟨[], ?_, rfl, rfl, ?_, rfl⟩
  · (repeat' (fail)) <;> first | rfl | fail
  · (repeat' (first | exact trivial | fail)) <;> fail
def iwL (x : List UInt64) : Nat → List UInt64
  | 0 => smallL 1
  | k + 1 => if k = 250 ∨ k = 252 then mulL (iwL x k) (iwL x k) else mulL (mulL (iwL x k) (iwL x k)) x
def invL (x : List UInt64) : List UInt64 := iwL x 255
theorem Nm_small (n : UInt32) : Nm (smallL n) ∧ nr (smallL n) = n.toNat := by
  have h := UInt32.toNat_lt n
  have e : n.toUInt64.toNat = n.toNat := UInt32.toNat_toUInt64 n
  refine ⟨⟨rfl, ?_⟩, ?_⟩
  · unfold smallL
    simp only [List.mem_cons, List.not_mem_nil, or_false, forall_eq_or_imp, forall_eq, e]
    refine ⟨by omega, by decide, by decide, by decide, by decide⟩
  · unfold nr smallL
    rw [nv_5, e, Nat.mod_eq_of_lt]
    · show n.toNat + 2251799813685248 * 0 + 5070602400912917605986812821504 * 0 + 11417981541647679048466287755595961091061972992 * 0 + 25711008708143844408671393477458601640355247900524685364822016 * 0 = _
      omega
    · show n.toNat + 2251799813685248 * 0 + 5070602400912917605986812821504 * 0 + 11417981541647679048466287755595961091061972992 * 0 + 25711008708143844408671393477458601640355247900524685364822016 * 0 < P25519
      have : 4294967296 < P25519 := by decide
      omega
theorem iwL_ok {x : List UInt64} (hx : Nm x) : ∀ k, Nm (iwL x k) ∧ nr (iwL x k) = pw (nr x) k
  | 0 => ⟨(Nm_small 1).1, (Nm_small 1).2⟩
  | k + 1 => by
    obtain ⟨h1, h2⟩ := iwL_ok hx k
    obtain ⟨m1, m2⟩ := mulL_ok h1 h1
    show Nm (if k = 250 ∨ k = 252 then _ else _) ∧ nr (if k = 250 ∨ k = 252 then _ else _) = if k = 250 ∨ k = 252 then _ else _
    by_cases hk : k = 250 ∨ k = 252
    · rw [if_pos hk, if_pos hk, m2, h2]
      exact ⟨m1, rfl⟩
    · obtain ⟨n1, n2⟩ := mulL_ok m1 hx
      rw [if_neg hk, if_neg hk, n2, m2, h2]
      exact ⟨n1, rfl⟩
theorem iwL_z (x : List UInt64) : iwL x 0 = smallL 1 := rfl
theorem iwL_s (x : List UInt64) (k : Nat) : iwL x (k + 1) = if k = 250 ∨ k = 252 then mulL (iwL x k) (iwL x k) else mulL (mulL (iwL x k) (iwL x k)) x := rfl
theorem mulL_len (x y : List UInt64) : (mulL x y).length = 5 := rfl
theorem iwL_len (x : List UInt64) : ∀ k, (iwL x k).length = 5
  | 0 => rfl
  | k + 1 => by rw [iwL_s]; split <;> exact mulL_len ..
theorem invL_ok {x : List UInt64} (hx : Nm x) : Nm (invL x) ∧ nr (invL x) = invN (nr x) := iwL_ok hx 255
theorem f88 : SCall Try.prog 88 [] [] (.fn 127 []) [] := by
  refine scall_of ttOk (by kernel_rfl : Try.prog.funcs[88]? = some Try.f88) rfl rfl rfl ?_
  try simp only [List.length_cons, List.length_nil, Nat.zero_add, Nat.reduceAdd]
  refine sw_ok ttOk mixed (by kernel_rfl) ?_
  conv => whnf
  repeat (fail)
  refine ⟨[], ?_, rfl, rfl, ?_, rfl⟩
  · (repeat' (fail)) <;> first | rfl | fail
  · (repeat' (first | exact trivial | fail)) <;> fail
attribute [local irreducible] mulL iwL
theorem f29 {x : List UInt64} (hx : x.length = 5) : SCall Try.prog 29 [.agg (x.map .u64)] [] (.agg ((invL x).map .u64)) [] := by
  have h22 := f22 1
  refine scall_of ttOk (by kernel_rfl : Try.prog.funcs[29]? = some Try.f29) rfl rfl rfl ?_
  try simp only [List.length_cons, List.length_nil, Nat.zero_add, Nat.reduceAdd]
  refine sw_ok ttOk mixed (by kernel_rfl) ?_
  conv => whnf
  repeat (fail)
  refine ok1_callF [] [] true (h22) rfl rfl ⟨⟨rfl, by first | rfl | fail⟩, trivial, by first | rfl | fail, by first | rfl | fail, ?_⟩
  conv => whnf
  repeat (first | (refine Exists.intro _ (And.intro (sput_all rfl (by first | rfl | fail)) ?_); conv => whnf) | (refine And.intro ⟨rfl, Nat.le_of_ble_eq_true rfl⟩ ?_; conv => whnf) | fail)
  refine ok1_callF [] [] false (f88) rfl rfl ⟨⟨rfl, by first | rfl | fail⟩, trivial, by first | rfl | fail, by first | rfl | fail, ?_⟩
  conv => whnf
  repeat (fail)
  refine SWp.weak (R0 := [(1, .p 0 0), (2, .p 1 0), (3, .p 2 0), (6, .fn 127 [])]) (H0 := [some (.box (x.map .u64)), some (.box (List.replicate 5 (.u64 0))), some (.box ((iwL x 0).map .u64))]) (L0 := 3) ?_ ?_
  · have hz : iwL x 0 = smallL 1 := iwL_z x
    rw [hz]
    refine Weak.sel [0, 1, 2] rfl rfl ?_ ?_ rfl rfl
    · (repeat' (first | exact trivial | refine And.intro ?_ ?_ | fail)) <;> first | rfl | fail
    · (repeat' (first | exact trivial | refine And.intro ?_ ?_ | (refine wk_cons ?_ ?_))) <;> first | rfl | exact ren_eq (by first | (simp; done) | fail) (by first | rfl | fail) | fail
  refine range_named rfl rfl rfl (by kernel_rfl : Try.prog.funcs[127]? = some Try.f127) rfl rfl rfl rfl ?_
  intro asq bdq hasq hbdq
  refine sw_ok ttOk mixed (by kernel_rfl) ?_
  conv => whnf
  repeat (fail)
  refine loop_rule ttOk mixed (by kernel_rfl) (ι := { m : Nat // m ≤ 255 }) (fun m => [(0, .yld 3), (2, .i ((m.1 : Int) - 1))]) (fun m => [some (.box (x.map .u64)), some (.box (List.replicate 5 (.u64 0))), some (.box ((iwL x (255 - m.1)).map .u64)), some (.obj (.loop [(1, .p 0 0), (3, .p 2 0)] Try.f29.ntmps [7] asq bdq))]) (fun _ => 4) (fun m => m.1) ⟨255, by omega⟩ ?_ ?_
  · refine Weak.sel [0, 1, 2, 3] rfl rfl ?_ ?_ rfl rfl
    · (repeat' (first | exact trivial | refine And.intro ?_ ?_ | fail)) <;> first | rfl | fail
    · (repeat' (first | exact trivial | refine And.intro ?_ ?_ | (refine wk_cons ?_ ?_))) <;> first | rfl | exact ren_eq (by first | (simp; done) | fail) (by first | rfl | fail) | fail
  · rintro ⟨m, hm⟩
    dsimp only
    by_cases hm0 : 0 < m
    · obtain ⟨k, rfl⟩ : ∃ k, m = k + 1 := ⟨m - 1, by omega⟩
      have hlt : decide ((((k + 1 : Nat) : Int) - 1) ≥ 0) = true := by simp
      have hp1 : w64 (((k + 1 : Nat) : Int) - 1 - 1) = (k : Int) - 1 := by simp only [w64_eq]; omega
      obtain ⟨A, hA⟩ : ∃ A, A = iwL x (255 - (k + 1)) := ⟨_, rfl⟩
      have hs := iwL_s x (255 - (k + 1))
      rw [show 255 - (k + 1) + 1 = 255 - k by omega, ← hA] at hs
      rw [← hA]
      have hAl : A.length = 5 := by rw [hA]; exact iwL_len ..
      by_cases h4 : k = 4 ∨ k = 2
      · rw [if_pos (by omega)] at hs
        have h28a := f28 hAl hAl
        have hml := mulL_len A A
        rcases h4 with rfl | rfl
        ·
          have hlt : decide ((((4 + 1 : Nat) : Int) - 1) ≥ 0) = true := by simp
          conv => whnf
          first | refine brT (by rfl) ?_ | fail
          conv => whnf
          repeat (first | (refine brF rfl ?_; conv => whnf) | (refine Exists.intro _ (And.intro rfl ?_); conv => whnf) | fail)
          refine ok1_yield 3 [0, 2] [false, true, true] (syield_of (ps := [7]) (N := Try.f29.ntmps) (R0 := [(1, .p 1 0), (3, .p 2 0)]) (args0 := [.b (false)]) (ex := .normal) (H0t := [some (.box (x.map .u64)), some (.box (A.map .u64))]) (H1t := [some (.box (x.map .u64)), some (.box ((mulL A A).map .u64))]) (.inl rfl) rfl rfl rfl ?_) rfl rfl ⟨⟨rfl, by first | rfl | fail⟩, by (repeat' (first | exact trivial | refine And.intro ?_ ?_)) <;> first | rfl | exact ren_eq (by first | (simp; done) | fail) (by first | rfl | fail), by first | (simp [plainHf, plainB]; done) | fail, ?_⟩
          · subst hasq
            subst hbdq
            refine sw_ok ttOk mixed (by kernel_rfl) ?_
            conv => whnf
            repeat (first | (refine And.intro (by first | omega | (simp; done) | fail) ?_; conv => whnf) | (refine And.intro (by kernel_rfl) ?_; conv => whnf) | fail)
            refine sw_ok ttOk mixed (by kernel_rfl) ?_
            conv => whnf
            repeat (first | (refine Exists.intro _ (And.intro (sload_all rfl (by first | rfl | (simp [hAl]; done) | fail)) ?_); conv => whnf) | fail)
            refine ok1_callF [] [] true (h28a) rfl rfl ⟨⟨rfl, by first | ((repeat' (first | exact wk_nil | exact ren_m64 rfl | (refine wk_agg ?_) | (refine wk_cons ?_ ?_))); done) | fail⟩, trivial, by first | rfl | fail, by first | simp [plainRf, plainR, plainT, plainW], ?_⟩
            conv => whnf
            repeat (first | (refine brF rfl ?_; conv => whnf) | (refine Exists.intro _ (And.intro (sput_all rfl (by first | rfl | (simp [hAl, hml]; done) | fail)) ?_); conv => whnf) | (refine And.intro (by first | omega | (simp; done) | (simp; omega) | fail) ?_; conv => whnf) | (refine And.intro (by kernel_rfl) ?_; conv => whnf) | fail)
            exact ⟨[0, 1, 2], rfl, rfl, by (repeat' (first | exact trivial | refine And.intro ?_ ?_)) <;> first | exact ren_eq (by first | (simp; done) | fail) (by first | rfl | fail) | fail, rfl⟩
          · conv => whnf
            repeat (first | (refine brF rfl ?_; conv => whnf) | fail)
            refine ⟨⟨_, Nat.le_of_succ_le hm⟩, Nat.lt_succ_self _, ?_⟩
            dsimp only
            rw [hs]
            refine Weak.sel [0, 1, 2, 3] rfl rfl ?_ ?_ rfl rfl
            · (repeat' (first | exact trivial | refine And.intro ?_ ?_ | fail)) <;> first | exact wk_i (by first | exact hp1 | fail) | rfl | fail
            · (repeat' (first | exact trivial | refine And.intro ?_ ?_ | (refine wk_cons ?_ ?_))) <;> first | rfl | exact ren_eq (by first | (simp; done) | fail) (by first | rfl | fail) | fail
        ·
          have hlt : decide ((((4 + 1 : Nat) : Int) - 1) ≥ 0) = true := by simp
          conv => whnf
          first | refine brT (by rfl) ?_ | fail
          conv => whnf
          repeat (first | (refine brT rfl ?_; conv => whnf) | (refine Exists.intro _ (And.intro rfl ?_); conv => whnf) | fail)
          refine ok1_yield 3 [0, 2] [false, true, true] (syield_of (ps := [7]) (N := Try.f29.ntmps) (R0 := [(1, .p 1 0), (3, .p 2 0)]) (args0 := [.b ((((2 + 1 : Nat) : Int) - 1 != 2))]) (ex := .normal) (H0t := [some (.box (x.map .u64)), some (.box (A.map .u64))]) (H1t := [some (.box (x.map .u64)), some (.box ((mulL A A).map .u64))]) (.inl rfl) rfl rfl rfl ?_) rfl rfl ⟨⟨rfl, by first | rfl | fail⟩, by (repeat' (first | exact trivial | refine And.intro ?_ ?_)) <;> first | rfl | exact ren_eq (by first | (simp; done) | fail) (by first | rfl | fail), by first | (simp [plainHf, plainB]; done) | fail, ?_⟩
          · subst hasq
            subst hbdq
            refine sw_ok ttOk mixed (by kernel_rfl) ?_
            conv => whnf
            repeat (first | (refine And.intro (by first | omega | (simp; done) | fail) ?_; conv => whnf) | (refine And.intro (by kernel_rfl) ?_; conv => whnf) | fail)
            refine sw_ok ttOk mixed (by kernel_rfl) ?_
            conv => whnf
            repeat (first | (refine Exists.intro _ (And.intro (sload_all rfl (by first | rfl | (simp [hAl]; done) | fail)) ?_); conv => whnf) | fail)
            refine ok1_callF [] [] true (h28a) rfl rfl ⟨⟨rfl, by first | ((repeat' (first | exact wk_nil | exact ren_m64 rfl | (refine wk_agg ?_) | (refine wk_cons ?_ ?_))); done) | fail⟩, trivial, by first | rfl | fail, by first | simp [plainRf, plainR, plainT, plainW], ?_⟩
            conv => whnf
            repeat (first | (refine brF rfl ?_; conv => whnf) | (refine Exists.intro _ (And.intro (sput_all rfl (by first | rfl | (simp [hAl, hml]; done) | fail)) ?_); conv => whnf) | (refine And.intro (by first | omega | (simp; done) | (simp; omega) | fail) ?_; conv => whnf) | (refine And.intro (by kernel_rfl) ?_; conv => whnf) | fail)
            exact ⟨[0, 1, 2], rfl, rfl, by (repeat' (first | exact trivial | refine And.intro ?_ ?_)) <;> first | exact ren_eq (by first | (simp; done) | fail) (by first | rfl | fail) | fail, rfl⟩
          · conv => whnf
            repeat (first | (refine brF rfl ?_; conv => whnf) | fail)
            refine ⟨⟨_, Nat.le_of_succ_le hm⟩, Nat.lt_succ_self _, ?_⟩
            dsimp only
            rw [hs]
            refine Weak.sel [0, 1, 2, 3] rfl rfl ?_ ?_ rfl rfl
            · (repeat' (first | exact trivial | refine And.intro ?_ ?_ | fail)) <;> first | exact wk_i (by first | exact hp1 | fail) | rfl | fail
            · (repeat' (first | exact trivial | refine And.intro ?_ ?_ | (refine wk_cons ?_ ?_))) <;> first | rfl | exact ren_eq (by first | (simp; done) | fail) (by first | rfl | fail) | fail
      · rw [if_neg (by omega)] at hs
        have g4 : (((k + 1 : Nat) : Int) - 1 != 4) = true := by simp; omega
        have g2 : (((k + 1 : Nat) : Int) - 1 != 2) = true := by simp; omega
        have h28a := f28 hAl hAl
        have h28b := f28 (mulL_len A A) hx
        have hml := mulL_len A A
        have hml2 := mulL_len (mulL A A) x
        conv => whnf
        first | refine brT (by exact hlt) ?_ | fail
        conv => whnf
        repeat (first | (refine gdT g4 ?_; conv => whnf) | (refine pkT g4 ?_; conv => whnf) | fail)
        refine ok1_yield 3 [0, 2] [false, true, true] (syield_of (ps := [7]) (N := Try.f29.ntmps) (R0 := [(1, .p 1 0), (3, .p 2 0)]) (args0 := [.b (((k + 1 : Nat) : Int) - 1 != 2)]) (ex := .normal) (H0t := [some (.box (x.map .u64)), some (.box (A.map .u64))]) (H1t := [some (.box (x.map .u64)), some (.box ((mulL (mulL A A) x).map .u64))]) (.inl rfl) rfl rfl rfl ?_) rfl rfl ⟨⟨rfl, by first | rfl | fail⟩, by (repeat' (first | exact trivial | refine And.intro ?_ ?_)) <;> first | rfl | exact ren_eq (by first | (simp; done) | fail) (by first | rfl | fail), by first | (simp [plainHf, plainB]; done) | fail, ?_⟩
        · subst hasq
          subst hbdq
          refine sw_ok ttOk mixed (by kernel_rfl) ?_
          conv => whnf
          repeat (first | (refine And.intro (by first | omega | (simp; done) | fail) ?_; conv => whnf) | (refine And.intro (by kernel_rfl) ?_; conv => whnf) | fail)
          refine sw_ok ttOk mixed (by kernel_rfl) ?_
          conv => whnf
          repeat (first | (refine Exists.intro _ (And.intro (sload_all rfl (by first | rfl | (simp [hAl]; done) | fail)) ?_); conv => whnf) | fail)
          refine ok1_callF [] [] true (h28a) rfl rfl ⟨⟨rfl, by first | ((repeat' (first | exact wk_nil | exact ren_m64 rfl | (refine wk_agg ?_) | (refine wk_cons ?_ ?_))); done) | fail⟩, trivial, by first | rfl | fail, by first | simp [plainRf, plainR, plainT, plainW], ?_⟩
          conv => whnf
          repeat (first | (refine Exists.intro _ (And.intro (sload_all rfl (by first | rfl | (simp [hAl, hml, hx]; done) | fail)) ?_); conv => whnf) | (refine Exists.intro _ (And.intro (sput_all rfl (by first | rfl | (simp [hAl, hml, hx]; done) | fail)) ?_); conv => whnf) | (refine gdT g2 ?_; conv => whnf) | (refine And.intro (by first | omega | (simp; omega) | fail) ?_; conv => whnf) | fail)
          refine ok1_callF [] [] true (h28b) rfl rfl ⟨⟨rfl, by first | ((repeat' (first | exact wk_nil | exact ren_m64 rfl | (refine wk_agg ?_) | (refine wk_cons ?_ ?_))); done) | fail⟩, trivial, by first | rfl | fail, by first | simp [plainRf, plainR, plainT, plainW], ?_⟩
          conv => whnf
          repeat (first | (refine Exists.intro _ (And.intro (sput_all rfl (by first | rfl | (simp [hAl, hml, hml2]; done) | fail)) ?_); conv => whnf) | (refine And.intro (by first | omega | (simp; done) | (simp; omega) | fail) ?_; conv => whnf) | (refine And.intro (by kernel_rfl) ?_; conv => whnf) | fail)
          exact ⟨[0, 1, 2], rfl, rfl, by (repeat' (first | exact trivial | refine And.intro ?_ ?_)) <;> first | exact ren_eq (by first | (simp; done) | fail) (by first | rfl | fail) | fail, rfl⟩
        · conv => whnf
          repeat (first | (refine brF rfl ?_; conv => whnf) | fail)
          refine ⟨⟨k, by omega⟩, by simp only; omega, ?_⟩
          dsimp only
          rw [hs]
          refine Weak.sel [0, 1, 2, 3] rfl rfl ?_ ?_ rfl rfl
          · (repeat' (first | exact trivial | refine And.intro ?_ ?_ | fail)) <;> first | exact wk_i (by first | exact hp1 | exact hp1.symm | fail) | rfl | fail
          · (repeat' (first | exact trivial | refine And.intro ?_ ?_ | (refine wk_cons ?_ ?_))) <;> first | rfl | exact ren_eq (by first | (simp; done) | fail) (by first | rfl | fail) | fail
    · obtain rfl : m = 0 := by omega
      have hfin : iwL x (255 - 0) = invL x := rfl
      have hil : (invL x).length = 5 := iwL_len x 255
      rw [hfin]
      conv => whnf
      first | refine brF (by rfl) ?_ | fail
      conv => whnf
      repeat (first | (refine Exists.intro _ (And.intro (sload_all rfl (by first | rfl | (simp [hil]; done) | fail)) ?_); conv => whnf) | (refine Exists.intro _ (And.intro (sput_all rfl (by first | rfl | (simp [hil]; done) | fail)) ?_); conv => whnf) | (refine And.intro (by first | omega | (simp; omega) | fail) ?_; conv => whnf) | fail)
      refine ⟨[], ?_, rfl, rfl, ?_, rfl⟩
      · (repeat' (first | (refine wk_agg ?_) | fail)) <;> first | exact ren_eq (by first | (simp; done) | fail) (by first | rfl | fail) | fail
      · (repeat' (first | exact trivial | fail)) <;> fail
end Go.Sh
/- field: Swap (f37). -/
namespace Go.Sh
open Go.Proofs
set_option maxHeartbeats 8000000
set_option linter.unusedSimpArgs false
set_option linter.unusedVariables false

def swX (n x y : UInt64) : UInt64 := x ^^^ ((x ^^^ y) &&& (0 - n))
def swY (n x y : UInt64) : UInt64 := y ^^^ ((x ^^^ y) &&& (0 - n))
theorem swX_0 (x y : UInt64) : swX 0 x y = x := by unfold swX; simp
theorem swY_0 (x y : UInt64) : swY 0 x y = y := by unfold swY; simp
theorem and_ones (x : UInt64) : x &&& (0 - 1) = x := by
  apply UInt64.toNat_inj.mp
  rw [UInt64.toNat_and, show (0 - 1 : UInt64).toNat = 2 ^ 64 - 1 from rfl, Nat.and_two_pow_sub_one_eq_mod, Nat.mod_eq_of_lt (UInt64.toNat_lt x)]
theorem swX_1 (x y : UInt64) : swX 1 x y = y := by
  unfold swX; rw [and_ones, ← UInt64.xor_assoc, UInt64.xor_self, UInt64.zero_xor]
theorem swY_1 (x y : UInt64) : swY 1 x y = x := by
  unfold swY; rw [and_ones, UInt64.xor_comm x y, ← UInt64.xor_assoc, UInt64.xor_self, UInt64.zero_xor]
theorem f37a (n a b c d e f g h i j : UInt64) : SCall Try.prog 37 [.u64 n, .p 0 0, .p 1 0] [some (.box [.u64 a, .u64 b, .u64 c, .u64 d, .u64 e]), some (.box [.u64 f, .u64 g, .u64 h, .u64 i, .u64 j])] (.tup [])
    [some (.box [.u64 (swX n a f), .u64 (swX n b g), .u64 (swX n c h), .u64 (swX n d i), .u64 (swX n e j)]), some (.box [.u64 (swY n a f), .u64 (swY n b g), .u64 (swY n c h), .u64 (swY n d i), .u64 (swY n e j)])] := by
  refine scall_of ttOk (by kernel_rfl : Try.prog.funcs[37]? = some Try.f37) rfl rfl rfl ?_
  try simp only [List.length_cons, List.length_nil, Nat.zero_add, Nat.reduceAdd]
  refine sw_ok ttOk mixed (by kernel_rfl) ?_
  conv => whnf
  repeat (first | (refine brF rfl ?_; conv => whnf) | (refine gdT rfl ?_; conv => whnf) | (refine Exists.intro _ (And.intro rfl ?_); conv => whnf) | (refine And.intro (by kernel_rfl) ?_; conv => whnf) | fail)
  refine loop_rounds ttOk mixed (by kernel_rfl) 6 ?_
  conv => whnf
  repeat (first | (refine brT rfl ?_; conv => whnf) | (refine brF rfl ?_; conv => whnf) | (refine Exists.intro _ (And.intro rfl ?_); conv => whnf) | (refine And.intro (by first | omega | (simp; done) | fail) ?_; conv => whnf) | (refine And.intro (Nat.le_of_ble_eq_true rfl) ?_; conv => whnf) | (refine And.intro ⟨rfl, Nat.le_of_ble_eq_true rfl⟩ ?_; conv => whnf) | (refine And.intro (by kernel_rfl) ?_; conv => whnf) | fail)
  refine ⟨[0, 1], ?_, rfl, rfl, ?_, rfl⟩
  · (repeat' (first | (refine wk_tup ?_) | fail)) <;> first | rfl | fail
  · (repeat' (first | exact trivial | refine And.intro ?_ ?_ | (refine wk_cons ?_ ?_))) <;> first | rfl | fail
theorem f37x (n a b c d e f g h i j p0 p1 p2 p3 p4 q0 q1 q2 q3 q4 : UInt64) : SCall Try.prog 37 [.u64 n, .p 0 0, .p 1 0] [some (.box [.u64 a, .u64 b, .u64 c, .u64 d, .u64 e, .u64 p0, .u64 p1, .u64 p2, .u64 p3, .u64 p4]), some (.box [.u64 f, .u64 g, .u64 h, .u64 i, .u64 j, .u64 q0, .u64 q1, .u64 q2, .u64 q3, .u64 q4])] (.tup [])
    [some (.box [.u64 (swX n a f), .u64 (swX n b g), .u64 (swX n c h), .u64 (swX n d i), .u64 (swX n e j), .u64 p0, .u64 p1, .u64 p2, .u64 p3, .u64 p4]), some (.box [.u64 (swY n a f), .u64 (swY n b g), .u64 (swY n c h), .u64 (swY n d i), .u64 (swY n e j), .u64 q0, .u64 q1, .u64 q2, .u64 q3, .u64 q4])] := by
  refine scall_of ttOk (by kernel_rfl : Try.prog.funcs[37]? = some Try.f37) rfl rfl rfl ?_
  try simp only [List.length_cons, List.length_nil, Nat.zero_add, Nat.reduceAdd]
  refine sw_ok ttOk mixed (by kernel_rfl) ?_
  conv => whnf
  repeat (first | (refine brF rfl ?_; conv => whnf) | (refine gdT rfl ?_; conv => whnf) | (refine Exists.intro _ (And.intro rfl ?_); conv => whnf) | (refine And.intro (by kernel_rfl) ?_; conv => whnf) | fail)
  refine loop_rounds ttOk mixed (by kernel_rfl) 6 ?_
  conv => whnf
  repeat (first | (refine brT rfl ?_; conv => whnf) | (refine brF rfl ?_; conv => whnf) | (refine Exists.intro _ (And.intro rfl ?_); conv => whnf) | (refine And.intro (by first | omega | (simp; done) | fail) ?_; conv => whnf) | (refine And.intro (Nat.le_of_ble_eq_true rfl) ?_; conv => whnf) | (refine And.intro ⟨rfl, Nat.le_of_ble_eq_true rfl⟩ ?_; conv => whnf) | (refine And.intro (by kernel_rfl) ?_; conv => whnf) | fail)
  refine ⟨[0, 1], ?_, rfl, rfl, ?_, rfl⟩
  · (repeat' (first | (refine wk_tup ?_) | fail)) <;> first | rfl | fail
  · (repeat' (first | exact trivial | refine And.intro ?_ ?_ | (refine wk_cons ?_ ?_))) <;> first | rfl | fail
theorem f37z (n a b c d e f g h i j p0 p1 p2 p3 p4 q0 q1 q2 q3 q4 : UInt64) : SCall Try.prog 37 [.u64 n, .p 0 5, .p 1 5] [some (.box [.u64 p0, .u64 p1, .u64 p2, .u64 p3, .u64 p4, .u64 a, .u64 b, .u64 c, .u64 d, .u64 e]), some (.box [.u64 q0, .u64 q1, .u64 q2, .u64 q3, .u64 q4, .u64 f, .u64 g, .u64 h, .u64 i, .u64 j])] (.tup [])
    [some (.box [.u64 p0, .u64 p1, .u64 p2, .u64 p3, .u64 p4, .u64 (swX n a f), .u64 (swX n b g), .u64 (swX n c h), .u64 (swX n d i), .u64 (swX n e j)]), some (.box [.u64 q0, .u64 q1, .u64 q2, .u64 q3, .u64 q4, .u64 (swY n a f), .u64 (swY n b g), .u64 (swY n c h), .u64 (swY n d i), .u64 (swY n e j)])] := by
  refine scall_of ttOk (by kernel_rfl : Try.prog.funcs[37]? = some Try.f37) rfl rfl rfl ?_
  try simp only [List.length_cons, List.length_nil, Nat.zero_add, Nat.reduceAdd]
  refine sw_ok ttOk mixed (by kernel_rfl) ?_
  conv => whnf
  repeat (first | (refine brF rfl ?_; conv => whnf) | (refine gdT rfl ?_; conv => whnf) | (refine Exists.intro _ (And.intro rfl ?_); conv => whnf) | (refine And.intro (by kernel_rfl) ?_; conv => whnf) | fail)
  refine loop_rounds ttOk mixed (by kernel_rfl) 6 ?_
  conv => whnf
  repeat (first | (refine brT rfl ?_; conv => whnf) | (refine brF rfl ?_; conv => whnf) | (refine Exists.intro _ (And.intro rfl ?_); conv => whnf) | (refine And.intro (by first | omega | (simp; done) | fail) ?_; conv => whnf) | (refine And.intro (Nat.le_of_ble_eq_true rfl) ?_; conv => whnf) | (refine And.intro ⟨rfl, Nat.le_of_ble_eq_true rfl⟩ ?_; conv => whnf) | (refine And.intro (by kernel_rfl) ?_; conv => whnf) | fail)
  refine ⟨[0, 1], ?_, rfl, rfl, ?_, rfl⟩
  · (repeat' (first | (refine wk_tup ?_) | fail)) <;> first | rfl | fail
  · (repeat' (first | exact trivial | refine And.intro ?_ ?_ | (refine wk_cons ?_ ?_))) <;> first | rfl | fail
theorem f37n1 (n : UInt64) (l : List SV) (hl : plainL l = true) : SCall Try.prog 37 [.u64 n, .pnil, .p 0 0] [some (.box l)] (.tup []) [some (.box l)] := by
  refine scall_of ttOk (by kernel_rfl : Try.prog.funcs[37]? = some Try.f37) rfl rfl rfl ?_
  try simp only [List.length_cons, List.length_nil, Nat.zero_add, Nat.reduceAdd]
  refine sw_ok ttOk mixed (by kernel_rfl) ?_
  conv => whnf
  repeat (first | (refine brT rfl ?_; conv => whnf) | (refine gdF rfl ?_; conv => whnf) | (refine Exists.intro _ (And.intro rfl ?_); conv => whnf) | (refine And.intro (by kernel_rfl) ?_; conv => whnf) | fail)
  refine ⟨[0], ?_, rfl, rfl, ?_, rfl⟩
  · (repeat' (first | (refine wk_tup ?_) | fail)) <;> first | rfl | fail
  · (repeat' (first | exact trivial | exact ren_eq hl rfl | refine And.intro ?_ ?_ | fail)) <;> fail
theorem f37n2 (n : UInt64) (l : List SV) (hl : plainL l = true) : SCall Try.prog 37 [.u64 n, .p 0 0, .pnil] [some (.box l)] (.tup []) [some (.box l)] := by
  refine scall_of ttOk (by kernel_rfl : Try.prog.funcs[37]? = some Try.f37) rfl rfl rfl ?_
  try simp only [List.length_cons, List.length_nil, Nat.zero_add, Nat.reduceAdd]
  refine sw_ok ttOk mixed (by kernel_rfl) ?_
  conv => whnf
  repeat (first | (refine brT rfl ?_; conv => whnf) | (refine gdT rfl ?_; conv => whnf) | (refine Exists.intro _ (And.intro rfl ?_); conv => whnf) | (refine And.intro (by kernel_rfl) ?_; conv => whnf) | fail)
  refine ⟨[0], ?_, rfl, rfl, ?_, rfl⟩
  · (repeat' (first | (refine wk_tup ?_) | fail)) <;> first | rfl | fail
  · (repeat' (first | exact trivial | exact ren_eq hl rfl | refine And.intro ?_ ?_ | fail)) <;> fail
end Go.Sh
/- field's laws: of (f83), known (f20). -/
namespace Go.Sh
open Go.Proofs
set_option maxHeartbeats 8000000
set_option linter.unusedSimpArgs false
set_option linter.unusedVariables false

def ofN (f m l : UInt8) : List UInt8 := f :: (List.replicate 30 m ++ [l])
theorem f83 (f m l : UInt8) : SCall Try.prog 83 [.u8 f, .u8 m, .u8 l] [] (.agg ((ofN f m l).map .u8)) [] := by
  refine scall_of ttOk (by kernel_rfl : Try.prog.funcs[83]? = some Try.f83) rfl rfl rfl ?_
  try simp only [List.length_cons, List.length_nil, Nat.zero_add, Nat.reduceAdd]
  refine sw_ok ttOk mixed (by kernel_rfl) ?_
  conv => whnf
  repeat (fail)
  refine loop_rule ttOk mixed (by kernel_rfl) (ι := { i : Nat // i ≤ 32 }) (fun i => [(0, .u8 f), (1, .u8 m), (2, .u8 l), (6, .p 0 0), (7, .p 1 0), (9, .i (i.1 : Int))]) (fun i => [some (.box (List.replicate 32 (.u8 0))), some (.box ((fil 32 i.1 (fun _ => m) (fun _ => 0)).map .u8))]) (fun _ => 2) (fun i => 32 - i.1) ⟨0, by omega⟩ ?_ ?_
  · have hz : fil 32 0 (fun _ => m) (fun _ => 0) = List.replicate 32 0 := fil_zero ..
    dsimp only
    rw [hz]
    refine Weak.sel [0, 1] rfl rfl ?_ ?_ rfl rfl
    · (repeat' (first | exact trivial | refine And.intro ?_ ?_ | fail)) <;> first | rfl | fail
    · (repeat' (first | exact trivial | exact ren_z8 | refine And.intro ?_ ?_ | (refine wk_cons ?_ ?_))) <;> first | rfl | fail
  · rintro ⟨i, hi⟩
    have hfl := fil_len 32 i (fun _ => m) (fun _ => (0 : UInt8))
    dsimp only
    by_cases hi2 : i < 32
    · have hlt : decide ((i : Int) < 32) = true := by simp; omega
      have hp1 : w64 ((i : Int) + 1) = ((i + 1 : Nat) : Int) := by simp only [w64_eq]; omega
      have hst := fil_setx (g := fun _ => (0 : UInt8)) (f := fun _ => m) hi2 rfl
      conv => whnf
      first | refine brT (by exact hlt) ?_ | fail
      conv => whnf
      repeat (first | (refine Exists.intro _ (And.intro (sput_m8 (i := i) (by first | rfl | (simp; done) | fail)) ?_); conv => whnf) | (refine Exists.intro _ (And.intro (idx_i (m := i) (by first | rfl | fail)) ?_); conv => whnf) | (refine And.intro (by first | omega | (simp; omega) | fail) ?_; conv => whnf) | fail)
      refine ⟨⟨i + 1, by omega⟩, by simp only; omega, ?_⟩
      refine Weak.sel [0, 1] rfl rfl ?_ ?_ rfl rfl
      · (repeat' (first | exact trivial | refine And.intro ?_ ?_ | fail)) <;> first | exact wk_i (by first | exact hp1 | exact hp1.symm | fail) | rfl | fail
      · (repeat' (first | exact trivial | refine And.intro ?_ ?_ | (refine wk_cons ?_ ?_))) <;> first | exact ren_m8 (by first | exact hst | exact hst.symm | fail) | rfl | fail
    · obtain rfl : i = 32 := by omega
      have hfu : (fil 32 32 (fun _ => m) (fun _ => 0)).map SV.u8 = List.replicate 32 (.u8 m) := rfl
      rw [hfu]
      conv => whnf
      first | refine brF (by rfl) ?_ | fail
      conv => whnf
      repeat (first | (refine Exists.intro _ (And.intro (sload_all rfl (by first | rfl | fail)) ?_); conv => whnf) | (refine Exists.intro _ (And.intro (sput_all rfl (by first | rfl | fail)) ?_); conv => whnf) | (refine Exists.intro _ (And.intro rfl ?_); conv => whnf) | (refine And.intro (by first | omega | (simp; done) | fail) ?_; conv => whnf) | fail)
      refine ⟨[], ?_, rfl, rfl, ?_, rfl⟩
      · (repeat' (first | (refine wk_agg ?_) | (refine wk_cons ?_ ?_))) <;> first | rfl | fail
      · (repeat' (first | exact trivial | fail)) <;> fail
theorem k1 : le32 (nr (subL (smallL 2) (smallL 3))) = ofN 236 255 127 := by
  rw [(subL_ok (Nm_small 2).1 (Nm_small 3).1).2, (Nm_small 2).2, (Nm_small 3).2]
  decide +kernel
theorem k2 : le32 (nr (ofB (ofN 237 255 127))) = List.replicate 32 0 := by rw [nr_of]; decide +kernel
theorem k3 : le32 (nr (ofB (ofN 255 255 255))) = 18 :: List.replicate 31 0 := by rw [nr_of]; decide +kernel
theorem k4 : le32 (nr (invL (smallL 2))) = ofN 247 255 63 := by
  rw [(invL_ok (Nm_small 2).1).2, (Nm_small 2).2]
  decide +kernel
theorem smallL_len (n : UInt32) : (smallL n).length = 5 := rfl
theorem subL_len (x y : List UInt64) : (subL x y).length = 5 := rfl
theorem addL_len (x y : List UInt64) : (addL x y).length = 5 := rfl
theorem invL_len (x : List UInt64) : (invL x).length = 5 := iwL_len x 255
theorem ofB_len (b : List UInt8) : (ofB b).length = 5 := rfl
attribute [local irreducible] smallL subL invL ofB
theorem f20 : SCall Try.prog 20 [] [] (.b true) [] := by
  have h2 := f22 2
  have h3 := f22 3
  have h27 := f27 (smallL_len 2) (smallL_len 3)
  have b1 := f25 (subL_ok (Nm_small 2).1 (Nm_small 3).1).1
  have b2 := f25 (ofB_ok (ofN 237 255 127)).1
  have b3 := f25 (ofB_ok (ofN 255 255 255)).1
  have b4 := f25 (invL_ok (Nm_small 2).1).1
  have o2 := f21 (ofN 237 255 127) rfl
  have o3 := f21 (ofN 255 255 255) rfl
  have h29 := f29 (smallL_len 2)
  rw [k1] at b1
  rw [k2] at b2
  rw [k3] at b3
  rw [k4] at b4
  have hl := smallL_len 2
  have e1 := eqcs_refl (ofN 236 255 127)
  have e2 := eqcs_refl (List.replicate 32 0)
  have e3 := eqcs_refl (18 :: List.replicate 31 0)
  have e4 := eqcs_refl (ofN 247 255 63)
  refine scall_of ttOk (by kernel_rfl : Try.prog.funcs[20]? = some Try.f20) rfl rfl rfl ?_
  try simp only [List.length_cons, List.length_nil, Nat.zero_add, Nat.reduceAdd]
  refine sw_ok ttOk mixed (by kernel_rfl) ?_
  conv => whnf
  repeat (fail)
  refine ok1_callF [] [] true (h2) rfl rfl ⟨⟨rfl, by first | rfl | fail⟩, trivial, by first | rfl | fail, by first | simp [plainRf, plainR, plainT, plainW], ?_⟩
  conv => whnf
  repeat (first | (refine Exists.intro _ (And.intro (sload_all rfl (by first | rfl | (simp [hl]; done) | fail)) ?_); conv => whnf) | (refine Exists.intro _ (And.intro (sput_all rfl (by first | rfl | (simp [hl]; done) | fail)) ?_); conv => whnf) | (refine And.intro (by first | omega | (simp; omega) | fail) ?_; conv => whnf) | fail)
  refine ok1_callF [] [] true (h3) rfl rfl ⟨⟨rfl, by first | rfl | fail⟩, trivial, by first | rfl | fail, by first | simp [plainRf, plainR, plainT, plainW], ?_⟩
  conv => whnf
  repeat (fail)
  refine ok1_callF [] [] true (h27) rfl rfl ⟨⟨rfl, by first | ((repeat' (first | exact wk_nil | exact ren_m64 rfl | (refine wk_agg ?_) | (refine wk_cons ?_ ?_))); done) | fail⟩, trivial, by first | rfl | fail, by first | simp [plainRf, plainR, plainT, plainW], ?_⟩
  conv => whnf
  repeat (fail)
  refine ok1_callF [] [] true (b1) rfl rfl ⟨⟨rfl, by first | ((repeat' (first | exact wk_nil | exact ren_m64 rfl | (refine wk_agg ?_) | (refine wk_cons ?_ ?_))); done) | fail⟩, trivial, by first | rfl | fail, by first | rfl | fail, ?_⟩
  conv => whnf
  repeat (fail)
  refine ok1_callF [] [] true (f83 236 255 127) rfl rfl ⟨⟨rfl, by first | rfl | fail⟩, trivial, by first | rfl | fail, by first | rfl | fail, ?_⟩
  conv => whnf
  repeat (first | (refine brT rfl ?_; conv => whnf) | (refine And.intro ⟨rfl, rfl⟩ ?_; conv => whnf) | fail)
  refine ok1_callF [] [] true (f83 237 255 127) rfl rfl ⟨⟨rfl, by first | rfl | fail⟩, trivial, by first | rfl | fail, by first | rfl | fail, ?_⟩
  conv => whnf
  repeat (first | (refine brT rfl ?_; conv => whnf) | fail)
  refine ok1_callF [] [] true (o2) rfl rfl ⟨⟨rfl, by first | rfl | fail⟩, trivial, by first | rfl | fail, by first | simp [plainRf, plainR, plainT, plainW], ?_⟩
  conv => whnf
  repeat (first | (refine brT rfl ?_; conv => whnf) | fail)
  refine ok1_callF [] [] true (b2) rfl rfl ⟨⟨rfl, by first | ((repeat' (first | exact wk_nil | exact ren_m64 rfl | (refine wk_agg ?_) | (refine wk_cons ?_ ?_))); done) | fail⟩, trivial, by first | rfl | fail, by first | rfl | fail, ?_⟩
  conv => whnf
  repeat (first | (refine brT rfl ?_; conv => whnf) | (refine pkT e1 ?_; conv => whnf) | (refine Exists.intro _ (And.intro rfl ?_); conv => whnf) | (refine And.intro ⟨rfl, rfl⟩ ?_; conv => whnf) | fail)
  refine ok1_callF [] [] true (f83 255 255 255) rfl rfl ⟨⟨rfl, by first | rfl | fail⟩, trivial, by first | rfl | fail, by first | rfl | fail, ?_⟩
  conv => whnf
  repeat (first | (refine brT rfl ?_; conv => whnf) | fail)
  refine ok1_callF [] [] true (o3) rfl rfl ⟨⟨rfl, by first | rfl | fail⟩, trivial, by first | rfl | fail, by first | simp [plainRf, plainR, plainT, plainW], ?_⟩
  conv => whnf
  repeat (first | (refine brT rfl ?_; conv => whnf) | fail)
  refine ok1_callF [] [] true (b3) rfl rfl ⟨⟨rfl, by first | ((repeat' (first | exact wk_nil | exact ren_m64 rfl | (refine wk_agg ?_) | (refine wk_cons ?_ ?_))); done) | fail⟩, trivial, by first | rfl | fail, by first | rfl | fail, ?_⟩
  conv => whnf
  repeat (first | (refine brT rfl ?_; conv => whnf) | (refine Exists.intro _ (And.intro (sload_all rfl (by first | rfl | (simp [hl]; done) | fail)) ?_); conv => whnf) | (refine pkT e1 ?_; conv => whnf) | (refine Exists.intro _ (And.intro rfl ?_); conv => whnf) | (refine And.intro ⟨rfl, rfl⟩ ?_; conv => whnf) | fail)
  refine ok1_callF [] [] true (h29) rfl rfl ⟨⟨rfl, by first | ((repeat' (first | exact wk_nil | exact ren_m64 rfl | (refine wk_agg ?_) | (refine wk_cons ?_ ?_))); done) | fail⟩, trivial, by first | rfl | fail, by first | simp [plainRf, plainR, plainT, plainW], ?_⟩
  conv => whnf
  repeat (first | (refine brT rfl ?_; conv => whnf) | fail)
  refine ok1_callF [] [] true (b4) rfl rfl ⟨⟨rfl, by first | ((repeat' (first | exact wk_nil | exact ren_m64 rfl | (refine wk_agg ?_) | (refine wk_cons ?_ ?_))); done) | fail⟩, trivial, by first | rfl | fail, by first | rfl | fail, ?_⟩
  conv => whnf
  repeat (first | (refine brT rfl ?_; conv => whnf) | fail)
  refine ok1_callF [] [] true (f83 247 255 63) rfl rfl ⟨⟨rfl, by first | rfl | fail⟩, trivial, by first | rfl | fail, by first | rfl | fail, ?_⟩
  conv => whnf
  repeat (first | (refine brT rfl ?_; conv => whnf) | (refine pkT e1 ?_; conv => whnf) | (refine And.intro ⟨rfl, rfl⟩ ?_; conv => whnf) | (refine And.intro (by kernel_rfl) ?_; conv => whnf) | fail)
  refine ⟨[], ?_, rfl, rfl, ?_, rfl⟩
  · (repeat' (fail)) <;> first | rfl | fail
  · (repeat' (first | exact trivial | fail)) <;> fail
end Go.Sh
/- field's law FieldSwaps (f6), walked. -/
namespace Go.Sh
open Go.Proofs
set_option maxHeartbeats 8000000
set_option linter.unusedSimpArgs false
set_option linter.unusedVariables false

theorem f35s {x : List UInt64} (hx : Nm x) : SCall Try.prog 35 [.agg (x.map .u64), .agg (x.map .u64)] [] (.b true) [] := by
  have h := f35 hx hx
  rw [decide_eq_true rfl] at h; exact h
attribute [local irreducible] ofB
theorem f6_false (a b : List UInt8) (ha : a.length = 32) (hb : b.length = 32) : SCall Try.prog 6 [.agg (a.map .u8), .agg (b.map .u8), .b false] [] (.b true) [] := by
  have h21a := f21 a ha
  have h21b := f21 b hb
  have nx := (ofB_ok a).1
  have ny := (ofB_ok b).1
  obtain ⟨x0, x1, x2, x3, x4, hx⟩ := ex5 (ofB_len a)
  obtain ⟨y0, y1, y2, y3, y4, hy⟩ := ex5 (ofB_len b)
  rw [hx] at h21a nx
  rw [hy] at h21b ny
  have hsx := f35s nx
  have hsy := f35s ny
  have h37 := f37a 0 x0 x1 x2 x3 x4 y0 y1 y2 y3 y4
  simp only [swX_0, swY_0] at h37
  have h37b := f37n1 0 ([y0, y1, y2, y3, y4].map .u64) rfl
  have h37c := f37n2 0 ([x0, x1, x2, x3, x4].map .u64) rfl
  have h37d := f37n1 0 ([x0, x1, x2, x3, x4].map .u64) rfl
  have h37e := f37n2 0 ([y0, y1, y2, y3, y4].map .u64) rfl
  refine scall_of ttOk (by kernel_rfl : Try.prog.funcs[6]? = some Try.f6) rfl rfl rfl ?_
  try simp only [List.length_cons, List.length_nil, Nat.zero_add, Nat.reduceAdd]
  refine sw_ok ttOk mixed (by kernel_rfl) ?_
  conv => whnf
  repeat (fail)
  refine ok1_callF [] [] true (f20) rfl rfl ⟨⟨rfl, by first | rfl | fail⟩, trivial, by first | rfl | fail, by first | rfl | fail, ?_⟩
  conv => whnf
  repeat (first | (refine brF rfl ?_; conv => whnf) | (refine Exists.intro _ (And.intro (sload_all rfl (by first | rfl | (simp [ha, hb]; done) | fail)) ?_); conv => whnf) | fail)
  refine ok1_callF [] [] true (h21a) rfl rfl ⟨⟨rfl, by first | ((repeat' (first | exact wk_nil | exact ren_m8 rfl | (refine wk_agg ?_) | (refine wk_cons ?_ ?_))); done) | fail⟩, trivial, by first | rfl | fail, by first | rfl | fail, ?_⟩
  conv => whnf
  repeat (first | (refine Exists.intro _ (And.intro (sload_all rfl (by first | rfl | (simp [ha, hb]; done) | fail)) ?_); conv => whnf) | fail)
  refine ok1_callF [] [] true (h21b) rfl rfl ⟨⟨rfl, by first | ((repeat' (first | exact wk_nil | exact ren_m8 rfl | (refine wk_agg ?_) | (refine wk_cons ?_ ?_))); done) | fail⟩, trivial, by first | rfl | fail, by first | rfl | fail, ?_⟩
  conv => whnf
  repeat (first | (refine brF rfl ?_; conv => whnf) | (refine Exists.intro _ (And.intro (sload_all rfl (by first | rfl | fail)) ?_); conv => whnf) | (refine Exists.intro _ (And.intro (sput_all rfl (by first | rfl | fail)) ?_); conv => whnf) | (refine And.intro (by first | omega | (simp; done) | fail) ?_; conv => whnf) | (refine And.intro (by kernel_rfl) ?_; conv => whnf) | fail)
  refine ok1_callF [2, 3] [true, true] true (h37) rfl rfl ⟨⟨rfl, by first | rfl | fail⟩, by (repeat' (first | exact trivial | refine And.intro ?_ ?_)) <;> first | rfl | fail, by first | rfl | fail, by first | rfl | fail, ?_⟩
  conv => whnf
  repeat (fail)
  refine ok1_callF [3] [true] true (h37b) rfl rfl ⟨⟨rfl, by first | rfl | fail⟩, by (repeat' (first | exact trivial | refine And.intro ?_ ?_)) <;> first | rfl | fail, by first | rfl | fail, by first | rfl | fail, ?_⟩
  conv => whnf
  repeat (fail)
  refine ok1_callF [2] [true] true (h37c) rfl rfl ⟨⟨rfl, by first | rfl | fail⟩, by (repeat' (first | exact trivial | refine And.intro ?_ ?_)) <;> first | rfl | fail, by first | rfl | fail, by first | rfl | fail, ?_⟩
  conv => whnf
  repeat (first | (refine brF rfl ?_; conv => whnf) | (refine Exists.intro _ (And.intro (sload_all rfl (by first | rfl | fail)) ?_); conv => whnf) | fail)
  refine ok1_callF [] [] true (hsx) rfl rfl ⟨⟨rfl, by first | rfl | fail⟩, trivial, by first | rfl | fail, by first | rfl | fail, ?_⟩
  conv => whnf
  repeat (first | (refine brT rfl ?_; conv => whnf) | (refine Exists.intro _ (And.intro (sload_all rfl (by first | rfl | fail)) ?_); conv => whnf) | fail)
  refine ok1_callF [] [] true (hsy) rfl rfl ⟨⟨rfl, by first | rfl | fail⟩, trivial, by first | rfl | fail, by first | rfl | fail, ?_⟩
  conv => whnf
  repeat (first | (refine Exists.intro _ (And.intro rfl ?_); conv => whnf) | fail)
  refine ⟨[], ?_, rfl, rfl, ?_, rfl⟩
  · (repeat' (fail)) <;> first | rfl | fail
  · (repeat' (first | exact trivial | fail)) <;> fail
theorem f6_true (a b : List UInt8) (ha : a.length = 32) (hb : b.length = 32) : SCall Try.prog 6 [.agg (a.map .u8), .agg (b.map .u8), .b true] [] (.b true) [] := by
  have h21a := f21 a ha
  have h21b := f21 b hb
  have nx := (ofB_ok a).1
  have ny := (ofB_ok b).1
  obtain ⟨x0, x1, x2, x3, x4, hx⟩ := ex5 (ofB_len a)
  obtain ⟨y0, y1, y2, y3, y4, hy⟩ := ex5 (ofB_len b)
  rw [hx] at h21a nx
  rw [hy] at h21b ny
  have hsx := f35s nx
  have hsy := f35s ny
  have h37 := f37a 1 x0 x1 x2 x3 x4 y0 y1 y2 y3 y4
  simp only [swX_1, swY_1] at h37
  have h37b := f37n1 1 ([y0, y1, y2, y3, y4].map .u64) rfl
  have h37c := f37n2 1 ([x0, x1, x2, x3, x4].map .u64) rfl
  have h37d := f37n1 1 ([x0, x1, x2, x3, x4].map .u64) rfl
  have h37e := f37n2 1 ([y0, y1, y2, y3, y4].map .u64) rfl
  refine scall_of ttOk (by kernel_rfl : Try.prog.funcs[6]? = some Try.f6) rfl rfl rfl ?_
  try simp only [List.length_cons, List.length_nil, Nat.zero_add, Nat.reduceAdd]
  refine sw_ok ttOk mixed (by kernel_rfl) ?_
  conv => whnf
  repeat (fail)
  refine ok1_callF [] [] true (f20) rfl rfl ⟨⟨rfl, by first | rfl | fail⟩, trivial, by first | rfl | fail, by first | rfl | fail, ?_⟩
  conv => whnf
  repeat (first | (refine brF rfl ?_; conv => whnf) | (refine Exists.intro _ (And.intro (sload_all rfl (by first | rfl | (simp [ha, hb]; done) | fail)) ?_); conv => whnf) | fail)
  refine ok1_callF [] [] true (h21a) rfl rfl ⟨⟨rfl, by first | ((repeat' (first | exact wk_nil | exact ren_m8 rfl | (refine wk_agg ?_) | (refine wk_cons ?_ ?_))); done) | fail⟩, trivial, by first | rfl | fail, by first | rfl | fail, ?_⟩
  conv => whnf
  repeat (first | (refine Exists.intro _ (And.intro (sload_all rfl (by first | rfl | (simp [ha, hb]; done) | fail)) ?_); conv => whnf) | fail)
  refine ok1_callF [] [] true (h21b) rfl rfl ⟨⟨rfl, by first | ((repeat' (first | exact wk_nil | exact ren_m8 rfl | (refine wk_agg ?_) | (refine wk_cons ?_ ?_))); done) | fail⟩, trivial, by first | rfl | fail, by first | rfl | fail, ?_⟩
  conv => whnf
  repeat (first | (refine brT rfl ?_; conv => whnf) | (refine Exists.intro _ (And.intro (sload_all rfl (by first | rfl | fail)) ?_); conv => whnf) | (refine Exists.intro _ (And.intro (sput_all rfl (by first | rfl | fail)) ?_); conv => whnf) | (refine And.intro (by first | omega | (simp; done) | fail) ?_; conv => whnf) | (refine And.intro (by kernel_rfl) ?_; conv => whnf) | fail)
  refine ok1_callF [2, 3] [true, true] true (h37) rfl rfl ⟨⟨rfl, by first | rfl | fail⟩, by (repeat' (first | exact trivial | refine And.intro ?_ ?_)) <;> first | rfl | fail, by first | rfl | fail, by first | rfl | fail, ?_⟩
  conv => whnf
  repeat (fail)
  refine ok1_callF [3] [true] true (h37d) rfl rfl ⟨⟨rfl, by first | rfl | fail⟩, by (repeat' (first | exact trivial | refine And.intro ?_ ?_)) <;> first | rfl | fail, by first | rfl | fail, by first | rfl | fail, ?_⟩
  conv => whnf
  repeat (fail)
  refine ok1_callF [2] [true] true (h37e) rfl rfl ⟨⟨rfl, by first | rfl | fail⟩, by (repeat' (first | exact trivial | refine And.intro ?_ ?_)) <;> first | rfl | fail, by first | rfl | fail, by first | rfl | fail, ?_⟩
  conv => whnf
  repeat (first | (refine brT rfl ?_; conv => whnf) | (refine Exists.intro _ (And.intro (sload_all rfl (by first | rfl | fail)) ?_); conv => whnf) | (refine Exists.intro _ (And.intro (sput_all rfl (by first | rfl | fail)) ?_); conv => whnf) | (refine And.intro (by first | omega | (simp; done) | fail) ?_; conv => whnf) | fail)
  refine ok1_callF [] [] true (hsy) rfl rfl ⟨⟨rfl, by first | rfl | fail⟩, trivial, by first | rfl | fail, by first | rfl | fail, ?_⟩
  conv => whnf
  repeat (first | (refine brT rfl ?_; conv => whnf) | (refine Exists.intro _ (And.intro (sload_all rfl (by first | rfl | fail)) ?_); conv => whnf) | fail)
  refine ok1_callF [] [] true (hsx) rfl rfl ⟨⟨rfl, by first | rfl | fail⟩, trivial, by first | rfl | fail, by first | rfl | fail, ?_⟩
  conv => whnf
  repeat (first | (refine Exists.intro _ (And.intro rfl ?_); conv => whnf) | fail)
  refine ⟨[], ?_, rfl, rfl, ?_, rfl⟩
  · (repeat' (fail)) <;> first | rfl | fail
  · (repeat' (first | exact trivial | fail)) <;> fail
theorem f6 (a b : List UInt8) (x : Bool) (ha : a.length = 32) (hb : b.length = 32) : SCall Try.prog 6 [.agg (a.map .u8), .agg (b.map .u8), .b x] [] (.b true) [] := by
  cases x with
  | false => exact f6_false a b ha hb
  | true => exact f6_true a b ha hb
end Go.Sh
/- field's law FieldLaws (f5), walked. -/
namespace Go.Sh
open Go.Proofs
set_option maxHeartbeats 8000000
set_option linter.unusedSimpArgs false
set_option linter.unusedVariables false

theorem f35e {x y : List UInt64} (hx : Nm x) (hy : Nm y) (h : nr x = nr y) : SCall Try.prog 35 [.agg (x.map .u64), .agg (y.map .u64)] [] (.b true) [] := by
  have := f35 hx hy
  rw [decide_eq_true h] at this; exact this
theorem amod (a b c : Nat) : ((a + b) % P25519 + c) % P25519 = (a + (b + c) % P25519) % P25519 := by rw [Nat.mod_add_mod, Nat.add_mod_mod, Nat.add_assoc]
theorem mmod (a b c : Nat) : (a * b % P25519) * c % P25519 = a * (b * c % P25519) % P25519 := by rw [Nat.mod_mul_mod, Nat.mul_mod_mod, Nat.mul_assoc]
theorem dmod (a b c : Nat) : a * ((b + c) % P25519) % P25519 = (a * b % P25519 + a * c % P25519) % P25519 := by rw [Nat.mul_mod_mod, Nat.mul_add, ← Nat.add_mod]
theorem smod {a b : Nat} (ha : a < P25519) (hb : b < P25519) : ((a + b) % P25519 + (P25519 - b)) % P25519 = a := by
  rw [Nat.mod_add_mod, show a + b + (P25519 - b) = a + P25519 by omega, Nat.add_mod_right, Nat.mod_eq_of_lt ha]
theorem nm_z0 : Nm [0, 0, 0, 0, 0] := ⟨rfl, by simp⟩
theorem nr_z0 : nr [0, 0, 0, 0, 0] = 0 := by decide +kernel
attribute [local irreducible] ofB addL subL mulL invL smallL
theorem f5 (a b c : List UInt8) (ha : a.length = 32) (hb : b.length = 32) (hc : c.length = 32) : SCall Try.prog 5 [.agg (a.map .u8), .agg (b.map .u8), .agg (c.map .u8)] [] (.b true) [] := by
  have oa := f21 a ha
  have ob := f21 b hb
  have oc := f21 c hc
  obtain ⟨x, hx⟩ : ∃ x, x = ofB a := ⟨_, rfl⟩
  obtain ⟨y, hy⟩ : ∃ y, y = ofB b := ⟨_, rfl⟩
  obtain ⟨z, hz⟩ : ∃ z, z = ofB c := ⟨_, rfl⟩
  have nx : Nm x := by rw [hx]; exact (ofB_ok a).1
  have ny : Nm y := by rw [hy]; exact (ofB_ok b).1
  have nz : Nm z := by rw [hz]; exact (ofB_ok c).1
  rw [← hx] at oa
  rw [← hy] at ob
  rw [← hz] at oc
  clear hx hy hz
  have lx := nx.1
  have ly := ny.1
  have lz := nz.1
  obtain ⟨n1, v1⟩ := addL_ok nx ny
  obtain ⟨n2, v2⟩ := addL_ok ny nx
  obtain ⟨n3, v3⟩ := mulL_ok nx ny
  obtain ⟨n4, v4⟩ := mulL_ok ny nx
  obtain ⟨n5, v5⟩ := addL_ok n1 nz
  obtain ⟨n6, v6⟩ := addL_ok ny nz
  obtain ⟨n7, v7⟩ := addL_ok nx n6
  obtain ⟨n8, v8⟩ := mulL_ok n3 nz
  obtain ⟨n9, v9⟩ := mulL_ok ny nz
  obtain ⟨n10, v10⟩ := mulL_ok nx n9
  obtain ⟨n11, v11⟩ := mulL_ok nx n6
  obtain ⟨n12, v12⟩ := mulL_ok nx nz
  obtain ⟨n13, v13⟩ := addL_ok n3 n12
  obtain ⟨n14, v14⟩ := subL_ok n1 ny
  obtain ⟨n15, v15⟩ := subL_ok nx nx
  have i1 := f35e n1 n2 (by rw [v1, v2, Nat.add_comm])
  have i2 := f35e n3 n4 (by rw [v3, v4, Nat.mul_comm])
  have i3 := f35e n5 n7 (by rw [v5, v7, v1, v6, amod])
  have i4 := f35e n8 n10 (by rw [v8, v10, v3, v9, mmod])
  have i5 := f35e n11 n13 (by rw [v11, v13, v6, v3, v12, dmod])
  have i6 := f35e n14 nx (by rw [v14, v1]; exact smod (nr_lt x) (nr_lt y))
  have i7 := f35e n15 (Nm_small 0).1 (by rw [v15, (Nm_small 0).2, show nr x + (P25519 - nr x) = P25519 by have := nr_lt x; omega]; decide)
  have l1 := smallL_len 1
  obtain ⟨n16, v16⟩ := invL_ok nx
  obtain ⟨n17, v17⟩ := mulL_ok nx n16
  obtain ⟨n18, v18⟩ := mulL_ok nx (Nm_small 1).1
  have nz0 := nm_z0
  refine scall_of ttOk (by kernel_rfl : Try.prog.funcs[5]? = some Try.f5) rfl rfl rfl ?_
  try simp only [List.length_cons, List.length_nil, Nat.zero_add, Nat.reduceAdd]
  refine sw_ok ttOk mixed (by kernel_rfl) ?_
  conv => whnf
  repeat (fail)
  refine ok1_callF [] [] true (f20) rfl rfl ⟨⟨rfl, by first | rfl | fail⟩, trivial, by first | rfl | fail, by first | rfl | fail, ?_⟩
  conv => whnf
  repeat (first | (refine brF rfl ?_; conv => whnf) | (refine Exists.intro _ (And.intro (sload_all rfl (by first | rfl | (simp [ha, hb, hc]; done) | fail)) ?_); conv => whnf) | fail)
  refine ok1_callF [] [] true (oa) rfl rfl ⟨⟨rfl, by first | ((repeat' (first | exact wk_nil | exact ren_m8 rfl | (refine wk_agg ?_) | (refine wk_cons ?_ ?_))); done) | fail⟩, trivial, by first | rfl | fail, by first | simp [plainRf, plainR, plainT, plainW], ?_⟩
  conv => whnf
  repeat (first | (refine Exists.intro _ (And.intro (sload_all rfl (by first | rfl | (simp [ha, hb, hc]; done) | fail)) ?_); conv => whnf) | fail)
  refine ok1_callF [] [] true (ob) rfl rfl ⟨⟨rfl, by first | ((repeat' (first | exact wk_nil | exact ren_m8 rfl | (refine wk_agg ?_) | (refine wk_cons ?_ ?_))); done) | fail⟩, trivial, by first | rfl | fail, by first | simp [plainRf, plainR, plainT, plainW], ?_⟩
  conv => whnf
  repeat (first | (refine Exists.intro _ (And.intro (sload_all rfl (by first | rfl | (simp [ha, hb, hc]; done) | fail)) ?_); conv => whnf) | fail)
  refine ok1_callF [] [] true (oc) rfl rfl ⟨⟨rfl, by first | ((repeat' (first | exact wk_nil | exact ren_m8 rfl | (refine wk_agg ?_) | (refine wk_cons ?_ ?_))); done) | fail⟩, trivial, by first | rfl | fail, by first | simp [plainRf, plainR, plainT, plainW], ?_⟩
  conv => whnf
  repeat (first | (refine Exists.intro _ (And.intro (sload_all rfl (by first | rfl | (simp [lx, ly, lz]; done) | fail)) ?_); conv => whnf) | (refine Exists.intro _ (And.intro (sput_all rfl (by first | rfl | (simp [lx, ly, lz]; done) | fail)) ?_); conv => whnf) | (refine And.intro (by first | omega | (simp; omega) | fail) ?_; conv => whnf) | (refine And.intro (by kernel_rfl) ?_; conv => whnf) | fail)
  refine ok1_callF [] [] true (f26 lx ly) rfl rfl ⟨⟨rfl, by first | ((repeat' (first | exact wk_nil | exact ren_m64 rfl | (refine wk_agg ?_) | (refine wk_cons ?_ ?_))); done) | fail⟩, trivial, by first | rfl | fail, by first | simp [plainRf, plainR, plainT, plainW], ?_⟩
  conv => whnf
  repeat (first | (refine Exists.intro _ (And.intro (sload_all rfl (by first | rfl | (simp [lx, ly, lz]; done) | fail)) ?_); conv => whnf) | fail)
  refine ok1_callF [] [] true (f26 ly lx) rfl rfl ⟨⟨rfl, by first | ((repeat' (first | exact wk_nil | exact ren_m64 rfl | (refine wk_agg ?_) | (refine wk_cons ?_ ?_))); done) | fail⟩, trivial, by first | rfl | fail, by first | simp [plainRf, plainR, plainT, plainW], ?_⟩
  conv => whnf
  repeat (fail)
  refine ok1_callF [] [] true (i1) rfl rfl ⟨⟨rfl, by first | ((repeat' (first | exact wk_nil | exact ren_m64 rfl | (refine wk_agg ?_) | (refine wk_cons ?_ ?_))); done) | fail⟩, trivial, by first | rfl | fail, by first | rfl | fail, ?_⟩
  conv => whnf
  repeat (first | (refine gdT rfl ?_; conv => whnf) | (refine Exists.intro _ (And.intro (sload_all rfl (by first | rfl | (simp [lx, ly, lz]; done) | fail)) ?_); conv => whnf) | fail)
  refine ok1_callF [] [] true (f28 lx ly) rfl rfl ⟨⟨rfl, by first | ((repeat' (first | exact wk_nil | exact ren_m64 rfl | (refine wk_agg ?_) | (refine wk_cons ?_ ?_))); done) | fail⟩, trivial, by first | rfl | fail, by first | simp [plainRf, plainR, plainT, plainW], ?_⟩
  conv => whnf
  repeat (first | (refine gdT rfl ?_; conv => whnf) | (refine Exists.intro _ (And.intro (sload_all rfl (by first | rfl | (simp [lx, ly, lz]; done) | fail)) ?_); conv => whnf) | fail)
  refine ok1_callF [] [] true (f28 ly lx) rfl rfl ⟨⟨rfl, by first | ((repeat' (first | exact wk_nil | exact ren_m64 rfl | (refine wk_agg ?_) | (refine wk_cons ?_ ?_))); done) | fail⟩, trivial, by first | rfl | fail, by first | simp [plainRf, plainR, plainT, plainW], ?_⟩
  conv => whnf
  repeat (first | (refine gdT rfl ?_; conv => whnf) | fail)
  refine ok1_callF [] [] true (i2) rfl rfl ⟨⟨rfl, by first | ((repeat' (first | exact wk_nil | exact ren_m64 rfl | (refine wk_agg ?_) | (refine wk_cons ?_ ?_))); done) | fail⟩, trivial, by first | rfl | fail, by first | rfl | fail, ?_⟩
  conv => whnf
  repeat (first | (refine gdT rfl ?_; conv => whnf) | (refine Exists.intro _ (And.intro (sload_all rfl (by first | rfl | (simp [lx, ly, lz, l1]; done) | fail)) ?_); conv => whnf) | (refine Exists.intro _ (And.intro rfl ?_); conv => whnf) | fail)
  refine ok1_callF [] [] true (f26 lx ly) rfl rfl ⟨⟨rfl, by first | ((repeat' (first | exact wk_nil | exact ren_m64 rfl | (refine wk_agg ?_) | (refine wk_cons ?_ ?_))); done) | fail⟩, trivial, by first | rfl | fail, by first | simp [plainRf, plainR, plainT, plainW], ?_⟩
  conv => whnf
  repeat (first | (refine gdT rfl ?_; conv => whnf) | (refine Exists.intro _ (And.intro (sload_all rfl (by first | rfl | (simp [lx, ly, lz, l1]; done) | fail)) ?_); conv => whnf) | fail)
  refine ok1_callF [] [] true (f26 (addL_len x y) lz) rfl rfl ⟨⟨rfl, by first | ((repeat' (first | exact wk_nil | exact ren_m64 rfl | (refine wk_agg ?_) | (refine wk_cons ?_ ?_))); done) | fail⟩, trivial, by first | rfl | fail, by first | simp [plainRf, plainR, plainT, plainW], ?_⟩
  conv => whnf
  repeat (first | (refine gdT rfl ?_; conv => whnf) | (refine Exists.intro _ (And.intro (sload_all rfl (by first | rfl | (simp [lx, ly, lz, l1]; done) | fail)) ?_); conv => whnf) | fail)
  refine ok1_callF [] [] true (f26 ly lz) rfl rfl ⟨⟨rfl, by first | ((repeat' (first | exact wk_nil | exact ren_m64 rfl | (refine wk_agg ?_) | (refine wk_cons ?_ ?_))); done) | fail⟩, trivial, by first | rfl | fail, by first | simp [plainRf, plainR, plainT, plainW], ?_⟩
  conv => whnf
  repeat (first | (refine gdT rfl ?_; conv => whnf) | fail)
  refine ok1_callF [] [] true (f26 lx (addL_len y z)) rfl rfl ⟨⟨rfl, by first | ((repeat' (first | exact wk_nil | exact ren_m64 rfl | (refine wk_agg ?_) | (refine wk_cons ?_ ?_))); done) | fail⟩, trivial, by first | rfl | fail, by first | simp [plainRf, plainR, plainT, plainW], ?_⟩
  conv => whnf
  repeat (first | (refine gdT rfl ?_; conv => whnf) | fail)
  refine ok1_callF [] [] true (i3) rfl rfl ⟨⟨rfl, by first | ((repeat' (first | exact wk_nil | exact ren_m64 rfl | (refine wk_agg ?_) | (refine wk_cons ?_ ?_))); done) | fail⟩, trivial, by first | rfl | fail, by first | rfl | fail, ?_⟩
  conv => whnf
  repeat (first | (refine gdT rfl ?_; conv => whnf) | (refine Exists.intro _ (And.intro (sload_all rfl (by first | rfl | (simp [lx, ly, lz, l1]; done) | fail)) ?_); conv => whnf) | (refine Exists.intro _ (And.intro rfl ?_); conv => whnf) | fail)
  refine ok1_callF [] [] true (f28 lx ly) rfl rfl ⟨⟨rfl, by first | ((repeat' (first | exact wk_nil | exact ren_m64 rfl | (refine wk_agg ?_) | (refine wk_cons ?_ ?_))); done) | fail⟩, trivial, by first | rfl | fail, by first | simp [plainRf, plainR, plainT, plainW], ?_⟩
  conv => whnf
  repeat (first | (refine gdT rfl ?_; conv => whnf) | (refine Exists.intro _ (And.intro (sload_all rfl (by first | rfl | (simp [lx, ly, lz, l1]; done) | fail)) ?_); conv => whnf) | fail)
  refine ok1_callF [] [] true (f28 (mulL_len x y) lz) rfl rfl ⟨⟨rfl, by first | ((repeat' (first | exact wk_nil | exact ren_m64 rfl | (refine wk_agg ?_) | (refine wk_cons ?_ ?_))); done) | fail⟩, trivial, by first | rfl | fail, by first | simp [plainRf, plainR, plainT, plainW], ?_⟩
  conv => whnf
  repeat (first | (refine gdT rfl ?_; conv => whnf) | (refine Exists.intro _ (And.intro (sload_all rfl (by first | rfl | (simp [lx, ly, lz, l1]; done) | fail)) ?_); conv => whnf) | fail)
  refine ok1_callF [] [] true (f28 ly lz) rfl rfl ⟨⟨rfl, by first | ((repeat' (first | exact wk_nil | exact ren_m64 rfl | (refine wk_agg ?_) | (refine wk_cons ?_ ?_))); done) | fail⟩, trivial, by first | rfl | fail, by first | simp [plainRf, plainR, plainT, plainW], ?_⟩
  conv => whnf
  repeat (first | (refine gdT rfl ?_; conv => whnf) | fail)
  refine ok1_callF [] [] true (f28 lx (mulL_len y z)) rfl rfl ⟨⟨rfl, by first | ((repeat' (first | exact wk_nil | exact ren_m64 rfl | (refine wk_agg ?_) | (refine wk_cons ?_ ?_))); done) | fail⟩, trivial, by first | rfl | fail, by first | simp [plainRf, plainR, plainT, plainW], ?_⟩
  conv => whnf
  repeat (first | (refine gdT rfl ?_; conv => whnf) | fail)
  refine ok1_callF [] [] true (i4) rfl rfl ⟨⟨rfl, by first | ((repeat' (first | exact wk_nil | exact ren_m64 rfl | (refine wk_agg ?_) | (refine wk_cons ?_ ?_))); done) | fail⟩, trivial, by first | rfl | fail, by first | rfl | fail, ?_⟩
  conv => whnf
  repeat (first | (refine gdT rfl ?_; conv => whnf) | (refine Exists.intro _ (And.intro (sload_all rfl (by first | rfl | (simp [lx, ly, lz, l1]; done) | fail)) ?_); conv => whnf) | (refine Exists.intro _ (And.intro rfl ?_); conv => whnf) | fail)
  refine ok1_callF [] [] true (f26 ly lz) rfl rfl ⟨⟨rfl, by first | ((repeat' (first | exact wk_nil | exact ren_m64 rfl | (refine wk_agg ?_) | (refine wk_cons ?_ ?_))); done) | fail⟩, trivial, by first | rfl | fail, by first | simp [plainRf, plainR, plainT, plainW], ?_⟩
  conv => whnf
  repeat (first | (refine gdT rfl ?_; conv => whnf) | fail)
  refine ok1_callF [] [] true (f28 lx (addL_len y z)) rfl rfl ⟨⟨rfl, by first | ((repeat' (first | exact wk_nil | exact ren_m64 rfl | (refine wk_agg ?_) | (refine wk_cons ?_ ?_))); done) | fail⟩, trivial, by first | rfl | fail, by first | simp [plainRf, plainR, plainT, plainW], ?_⟩
  conv => whnf
  repeat (first | (refine gdT rfl ?_; conv => whnf) | (refine Exists.intro _ (And.intro (sload_all rfl (by first | rfl | (simp [lx, ly, lz, l1]; done) | fail)) ?_); conv => whnf) | fail)
  refine ok1_callF [] [] true (f28 lx ly) rfl rfl ⟨⟨rfl, by first | ((repeat' (first | exact wk_nil | exact ren_m64 rfl | (refine wk_agg ?_) | (refine wk_cons ?_ ?_))); done) | fail⟩, trivial, by first | rfl | fail, by first | simp [plainRf, plainR, plainT, plainW], ?_⟩
  conv => whnf
  repeat (first | (refine gdT rfl ?_; conv => whnf) | (refine Exists.intro _ (And.intro (sload_all rfl (by first | rfl | (simp [lx, ly, lz, l1]; done) | fail)) ?_); conv => whnf) | fail)
  refine ok1_callF [] [] true (f28 lx lz) rfl rfl ⟨⟨rfl, by first | ((repeat' (first | exact wk_nil | exact ren_m64 rfl | (refine wk_agg ?_) | (refine wk_cons ?_ ?_))); done) | fail⟩, trivial, by first | rfl | fail, by first | simp [plainRf, plainR, plainT, plainW], ?_⟩
  conv => whnf
  repeat (first | (refine gdT rfl ?_; conv => whnf) | fail)
  refine ok1_callF [] [] true (f26 (mulL_len x y) (mulL_len x z)) rfl rfl ⟨⟨rfl, by first | ((repeat' (first | exact wk_nil | exact ren_m64 rfl | (refine wk_agg ?_) | (refine wk_cons ?_ ?_))); done) | fail⟩, trivial, by first | rfl | fail, by first | simp [plainRf, plainR, plainT, plainW], ?_⟩
  conv => whnf
  repeat (first | (refine gdT rfl ?_; conv => whnf) | fail)
  refine ok1_callF [] [] true (i5) rfl rfl ⟨⟨rfl, by first | ((repeat' (first | exact wk_nil | exact ren_m64 rfl | (refine wk_agg ?_) | (refine wk_cons ?_ ?_))); done) | fail⟩, trivial, by first | rfl | fail, by first | rfl | fail, ?_⟩
  conv => whnf
  repeat (first | (refine gdT rfl ?_; conv => whnf) | (refine Exists.intro _ (And.intro (sload_all rfl (by first | rfl | (simp [lx, ly, lz, l1]; done) | fail)) ?_); conv => whnf) | (refine Exists.intro _ (And.intro rfl ?_); conv => whnf) | fail)
  refine ok1_callF [] [] true (f26 lx ly) rfl rfl ⟨⟨rfl, by first | ((repeat' (first | exact wk_nil | exact ren_m64 rfl | (refine wk_agg ?_) | (refine wk_cons ?_ ?_))); done) | fail⟩, trivial, by first | rfl | fail, by first | simp [plainRf, plainR, plainT, plainW], ?_⟩
  conv => whnf
  repeat (first | (refine gdT rfl ?_; conv => whnf) | (refine Exists.intro _ (And.intro (sload_all rfl (by first | rfl | (simp [lx, ly, lz, l1]; done) | fail)) ?_); conv => whnf) | fail)
  refine ok1_callF [] [] true (f27 (addL_len x y) ly) rfl rfl ⟨⟨rfl, by first | ((repeat' (first | exact wk_nil | exact ren_m64 rfl | (refine wk_agg ?_) | (refine wk_cons ?_ ?_))); done) | fail⟩, trivial, by first | rfl | fail, by first | simp [plainRf, plainR, plainT, plainW], ?_⟩
  conv => whnf
  repeat (first | (refine gdT rfl ?_; conv => whnf) | (refine Exists.intro _ (And.intro (sload_all rfl (by first | rfl | (simp [lx, ly, lz, l1]; done) | fail)) ?_); conv => whnf) | fail)
  refine ok1_callF [] [] true (i6) rfl rfl ⟨⟨rfl, by first | ((repeat' (first | exact wk_nil | exact ren_m64 rfl | (refine wk_agg ?_) | (refine wk_cons ?_ ?_))); done) | fail⟩, trivial, by first | rfl | fail, by first | rfl | fail, ?_⟩
  conv => whnf
  repeat (first | (refine gdT rfl ?_; conv => whnf) | (refine Exists.intro _ (And.intro (sload_all rfl (by first | rfl | (simp [lx, ly, lz, l1]; done) | fail)) ?_); conv => whnf) | (refine Exists.intro _ (And.intro rfl ?_); conv => whnf) | fail)
  refine ok1_callF [] [] true (f27 lx lx) rfl rfl ⟨⟨rfl, by first | ((repeat' (first | exact wk_nil | exact ren_m64 rfl | (refine wk_agg ?_) | (refine wk_cons ?_ ?_))); done) | fail⟩, trivial, by first | rfl | fail, by first | simp [plainRf, plainR, plainT, plainW], ?_⟩
  conv => whnf
  repeat (first | (refine gdT rfl ?_; conv => whnf) | fail)
  refine ok1_callF [] [] true (f22 0) rfl rfl ⟨⟨rfl, by first | rfl | fail⟩, trivial, by first | rfl | fail, by first | simp [plainRf, plainR, plainT, plainW], ?_⟩
  conv => whnf
  repeat (first | (refine gdT rfl ?_; conv => whnf) | fail)
  refine ok1_callF [] [] true (i7) rfl rfl ⟨⟨rfl, by first | ((repeat' (first | exact wk_nil | exact ren_m64 rfl | (refine wk_agg ?_) | (refine wk_cons ?_ ?_))); done) | fail⟩, trivial, by first | rfl | fail, by first | rfl | fail, ?_⟩
  conv => whnf
  repeat (first | (refine brF rfl ?_; conv => whnf) | (refine gdT rfl ?_; conv => whnf) | (refine Exists.intro _ (And.intro rfl ?_); conv => whnf) | (refine And.intro (by kernel_rfl) ?_; conv => whnf) | fail)
  refine ok1_callF [] [] true (f22 1) rfl rfl ⟨⟨rfl, by first | rfl | fail⟩, trivial, by first | rfl | fail, by first | simp [plainRf, plainR, plainT, plainW], ?_⟩
  conv => whnf
  repeat (first | (refine Exists.intro _ (And.intro (sload_all rfl (by first | rfl | (simp [lx, ly, lz, l1]; done) | fail)) ?_); conv => whnf) | (refine Exists.intro _ (And.intro (sput_all rfl (by first | rfl | (simp [lx, ly, lz, l1]; done) | fail)) ?_); conv => whnf) | (refine Exists.intro _ (And.intro rfl ?_); conv => whnf) | (refine And.intro (by first | omega | (simp; omega) | fail) ?_; conv => whnf) | fail)
  by_cases h0 : nr x = 0
  · have j1 := f35e nx nz0 (by rw [h0, nr_z0])
    have j2 := f35e n16 nz0 (by rw [v16, h0, invN_0, nr_z0])
    refine ok1_callF [] [] true (j1) rfl rfl ⟨⟨rfl, by first | ((repeat' (first | exact ren_m64 rfl | exact rfl | (refine wk_agg ?_) | (refine wk_cons ?_ ?_))); done) | fail⟩, trivial, by first | rfl | fail, by first | rfl | fail, ?_⟩
    conv => whnf
    repeat (first | (refine brT rfl ?_; conv => whnf) | (refine Exists.intro _ (And.intro (sload_all rfl (by first | rfl | (simp [lx, l1]; done) | fail)) ?_); conv => whnf) | fail)
    refine ok1_callF [] [] true (f29 lx) rfl rfl ⟨⟨rfl, by first | ((repeat' (first | exact wk_nil | exact ren_m64 rfl | (refine wk_agg ?_) | (refine wk_cons ?_ ?_))); done) | fail⟩, trivial, by first | rfl | fail, by first | simp [plainRf, plainR, plainT, plainW], ?_⟩
    conv => whnf
    repeat (first | (refine Exists.intro _ (And.intro rfl ?_); conv => whnf) | fail)
    refine ok1_callF [] [] true (j2) rfl rfl ⟨⟨rfl, by first | ((repeat' (first | exact ren_m64 rfl | exact rfl | (refine wk_agg ?_) | (refine wk_cons ?_ ?_))); done) | fail⟩, trivial, by first | rfl | fail, by first | rfl | fail, ?_⟩
    conv => whnf
    repeat (fail)
    refine ⟨[], ?_, rfl, rfl, ?_, rfl⟩
    · (repeat' (fail)) <;> first | rfl | fail
    · (repeat' (first | exact trivial | fail)) <;> fail
  · have j1 := f35 nx nz0
    rw [decide_eq_false (by rw [nr_z0]; exact h0)] at j1
    have hx0 : nr x % P25519 ≠ 0 := by rw [Nat.mod_eq_of_lt (nr_lt x)]; exact h0
    have j2 := f35e n17 (Nm_small 1).1 (by rw [v17, v16, (Nm_small 1).2]; exact invN_mul hx0)
    have j3 := f35e n18 nx (by rw [v18, (Nm_small 1).2]; show nr x * 1 % _ = _; rw [Nat.mul_one, Nat.mod_eq_of_lt (nr_lt x)])
    refine ok1_callF [] [] true (j1) rfl rfl ⟨⟨rfl, by first | ((repeat' (first | exact ren_m64 rfl | exact rfl | (refine wk_agg ?_) | (refine wk_cons ?_ ?_))); done) | fail⟩, trivial, by first | rfl | fail, by first | rfl | fail, ?_⟩
    conv => whnf
    repeat (first | (refine brF rfl ?_; conv => whnf) | (refine Exists.intro _ (And.intro (sload_all rfl (by first | rfl | (simp [lx, l1]; done) | fail)) ?_); conv => whnf) | fail)
    refine ok1_callF [] [] true (f29 lx) rfl rfl ⟨⟨rfl, by first | ((repeat' (first | exact wk_nil | exact ren_m64 rfl | (refine wk_agg ?_) | (refine wk_cons ?_ ?_))); done) | fail⟩, trivial, by first | rfl | fail, by first | simp [plainRf, plainR, plainT, plainW], ?_⟩
    conv => whnf
    repeat (fail)
    refine ok1_callF [] [] true (f28 lx (invL_len x)) rfl rfl ⟨⟨rfl, by first | ((repeat' (first | exact wk_nil | exact ren_m64 rfl | (refine wk_agg ?_) | (refine wk_cons ?_ ?_))); done) | fail⟩, trivial, by first | rfl | fail, by first | simp [plainRf, plainR, plainT, plainW], ?_⟩
    conv => whnf
    repeat (first | (refine Exists.intro _ (And.intro (sload_all rfl (by first | rfl | (simp [lx, l1]; done) | fail)) ?_); conv => whnf) | fail)
    refine ok1_callF [] [] true (j2) rfl rfl ⟨⟨rfl, by first | ((repeat' (first | exact wk_nil | exact ren_m64 rfl | (refine wk_agg ?_) | (refine wk_cons ?_ ?_))); done) | fail⟩, trivial, by first | rfl | fail, by first | rfl | fail, ?_⟩
    conv => whnf
    repeat (first | (refine brT rfl ?_; conv => whnf) | (refine Exists.intro _ (And.intro (sload_all rfl (by first | rfl | (simp [lx, l1]; done) | fail)) ?_); conv => whnf) | fail)
    refine ok1_callF [] [] true (f28 lx l1) rfl rfl ⟨⟨rfl, by first | ((repeat' (first | exact wk_nil | exact ren_m64 rfl | (refine wk_agg ?_) | (refine wk_cons ?_ ?_))); done) | fail⟩, trivial, by first | rfl | fail, by first | simp [plainRf, plainR, plainT, plainW], ?_⟩
    conv => whnf
    repeat (first | (refine brT rfl ?_; conv => whnf) | (refine Exists.intro _ (And.intro (sload_all rfl (by first | rfl | (simp [lx, l1]; done) | fail)) ?_); conv => whnf) | fail)
    refine ok1_callF [] [] true (j3) rfl rfl ⟨⟨rfl, by first | ((repeat' (first | exact wk_nil | exact ren_m64 rfl | (refine wk_agg ?_) | (refine wk_cons ?_ ?_))); done) | fail⟩, trivial, by first | rfl | fail, by first | rfl | fail, ?_⟩
    conv => whnf
    repeat (first | (refine Exists.intro _ (And.intro rfl ?_); conv => whnf) | (refine And.intro (by kernel_rfl) ?_; conv => whnf) | fail)
    refine ⟨[], ?_, rfl, rfl, ?_, rfl⟩
    · (repeat' (fail)) <;> first | rfl | fail
    · (repeat' (first | exact trivial | fail)) <;> fail
end Go.Sh
/- From a function's promise to a law's statement: 'it returns true; what it was handed reads as it did'. -/
namespace Go.Sh
open Go.ChangeShapes Go.WideShapes Go.ChangeAt Go.RowKit
set_option linter.unusedSimpArgs false

theorem Rels.of_get {ρ : Ren} : ∀ {xs : List SV} {vs : List Value}, xs.length = vs.length → (∀ (i : Nat) x, xs[i]? = some x → ∃ v, vs[i]? = some v ∧ Rel ρ x v) → Rels ρ xs vs
  | [], vs, hl, _ => by
    have : vs = [] := List.eq_nil_of_length_eq_zero (by simpa using hl.symm)
    subst this; exact Rels.nil_iff.2 rfl
  | x :: xs, [], hl, _ => by simp at hl
  | x :: xs, v :: vs, hl, h => by
    obtain ⟨u, hu, hr⟩ := h 0 x rfl
    simp at hu; subst hu
    exact Rels.cons hr (Rels.of_get (by simpa using hl) (fun i y hy => by simpa using h (i + 1) y (by simpa using hy)))

theorem calls_of_scall {P : Program} {f : Nat} {args : List SV} {H0 H1 : HL} (hc : SCall P f args H0 (.b true) H1) (hro : ∀ (id : Nat) b, hg H0 id = some b → b.own = false) {vs : List Value} {W : World} {ρ : Ren}
    (hvs : Rels ρ args vs) (hh : HRel ρ (hg H0) W) (hfr : ∀ id, H0.length ≤ id → ρ id = none) : Calls P f ⟨vs⟩ W fun e w' => e = .returned (.bool true) ∧ RowKit.Below W.heap.size W w' := by
  have h := hc.call 0 ρ W vs hvs hh (fun i j bi bj ri rj _ hi _ _ _ hown => by rw [hro i bi hi] at hown; cases hown) hfr
  refine (callsIn_wide.1 h).mono ?_
  intro e w' hr
  cases e with
  | returned v =>
    obtain ⟨ρ', h1, _, _, _, h5⟩ := hr
    simp only [Rel] at h1
    refine ⟨by rw [h1], h5.fr.below (fun x o _ hown => ?_)⟩
    obtain ⟨id, b, rb, g1, _, g3, _⟩ := hown
    rw [hro id b g1] at g3; cases g3
  | _ => exact hr.elim

theorem trodAll_stays {H : Type} {enc : TypeId × Value → H} {P : Program} (hl : laidOutB P = true) {W W' : World} (hb : RowKit.Below W.heap.size W W') : ∀ {ts : List TypeId} {vs : List Value} {ds : List (DataW H)} {ps : List MemPlace},
    (∀ t ∈ ts, P.readableRec t = true ∧ t < P.types.size) → DataW.TrodAll enc P W 0 (fun _ => true) true ts vs ds ps → (∀ x ∈ ps, x.block < W.heap.size) → ∀ sp : Nat → Bool, (∀ x ∈ ps, sp x.block = true) →
    DataW.TrodAll enc P W' 0 sp true ts vs ds ps
  | [], vs, ds, ps, _, h, _, sp, _ => by
    obtain ⟨rfl, rfl, rfl⟩ := trodAll_nil h
    exact trodAll_mk0
  | t :: ts, vs, ds, ps, ht, h, hlt, sp, hsp => by
    obtain ⟨v, vs', d, ds', p, q, rfl, rfl, rfl, h1, h2⟩ := trodAll_cons h
    obtain ⟨r1, r2⟩ := ht t (List.mem_cons_self ..)
    exact trodAll_cons_mk (WideElems.Trod_stays hl r1 r2 h1 (fun x hx => hb.same (hlt x (List.mem_append_left _ hx))) (fun x hx => hsp x (List.mem_append_left _ hx)))
      (trodAll_stays hl hb (fun u hu => ht u (List.mem_cons_of_mem _ hu)) h2 (fun x hx => hlt x (List.mem_append_right _ hx)) sp (fun x hx => hsp x (List.mem_append_right _ hx)))

/-- 'True, and what came in reads as it did.' -/
theorem same_post {H : Type} {enc : TypeId × Value → H} {P : Program} {fn : Func} {s : ChangeSpec} {W W' : World} {args : Array Value} {ds gs : List (DataW H)} {before : List MemPlace} {bt : TypeId} {apart fresh handsOn again : Bool}
    (hl : laidOutB P = true) (hparams : ∀ t ∈ fn.params.toList, P.readableRec t = true ∧ t < P.types.size) (hbt : P.underlying bt = some .bool) (hrt : fn.resultTypes = #[bt]) (hvars : s.vars = [])
    (hW : DataW.Whole enc P fn.params.toList s.vars apart W args.toList ds gs before) (hspec : s.fn H ds = { results := [.lit (.bool true)], args := ds }) (hb : RowKit.Below W.heap.size W W') :
    s.post enc P fn apart fresh handsOn again W args (.bool true) W' := by
  have hlt := hW.lt
  have hW' := hW
  obtain ⟨p, q, hA, hV, rfl, hfz, hnd⟩ := hW
  rw [hvars] at hV
  obtain ⟨rfl, rfl⟩ := trodVars_none hV
  have hargs : ∀ sp : Nat → Bool, (∀ x ∈ p, sp x.block = true) → DataW.TrodAll enc P W' 0 sp true fn.params.toList args.toList ds p := fun sp hsp =>
    trodAll_stays hl hb hparams hA (fun x hx => hlt x (by simpa using hx)) sp hsp
  have hres : ∀ (b : Nat) (sp : Nat → Bool) (hd : Bool), DataW.TrodAll enc P W' b sp hd fn.resultTypes.toList ((Value.bool true).resultList fn.resultTypes.size) [.lit (.bool true)] [] := fun b sp hd => by
    rw [hrt]
    exact trodAll_cons_mk (shut_bool hbt _) trodAll_mk0
  refine ⟨ds, [], p ++ [], [], p, [], hW', ?_, ?_, ?_, World.keptBut_mono (fun x hx => ⟨hx, ?_⟩) (hb.frame (fun x => x ∈ p ++ [])), fun _ => ?_⟩
  · rw [List.append_nil, hspec]; exact hres _ _ _
  · rw [List.append_nil, hspec]
    exact hargs _ (fun x hx => by simpa using hlt x (by simpa using hx))
  · rw [List.append_nil, hspec, hvars]
    rfl
  · exact .inr (.inl (by simpa using hx))
  · refine ⟨ok_one hrt rfl (okWide_bool_mk hbt _), _, [], ([] ++ p) ++ [], ⟨[] ++ p, [], trodAll_append (hargs _ (fun _ _ => rfl)) (hres _ _ _), by rw [hvars]; rfl, rfl, ?_, ?_⟩, ?_⟩
    · intro b off hp
      have hpl := hlt (.cell b off) (by simpa using hp)
      rw [hb.frozen (p := ⟨b, off, none⟩) hpl]
      exact hfz b off (by simpa using hp)
    · intro ha
      simpa using hnd ha
    · intro x hx _
      simpa using hx

/-! ### What comes in, opened -/

/-- A number of 64 bits. -/
theorem open_u64 {H : Type} {enc : TypeId × Value → H} {P : Program} {w : World} {base : Nat} {spare : Nat → Bool} {held : Bool} {r : Reach} {b0 : Nat} {t : TypeId} {v : Value} {d : DataW H} {ps : List MemPlace}
    (ht : P.underlying t = some (.int .u64)) (hval : Value.okWide P w r b0 t v) (hd : DataW.Trod enc P w base spare held t v d ps) : ∃ x : UInt64, ∀ ρ, Rel ρ (.u64 x) v := by
  obtain ⟨n, rfl, _, _, hw⟩ := open_int ht hval hd
  have hx : 0 ≤ n ∧ n < 18446744073709551616 := by
    simp only [Lit.wf, Bool.and_eq_true, decide_eq_true_eq, IntKind.min, IntKind.max, IntKind.signed, IntKind.bits] at hw
    have h2 := hw.2
    simp at h2 hw
    omega
  refine ⟨UInt64.ofNat n.toNat, fun ρ => ?_⟩
  simp only [Rel]
  congr 1
  simp only [UInt64.toNat_ofNat']
  omega

theorem atoms_u8 (l : List UInt8) : atoms (l.map .u8) = true := by induction l <;> simp_all [atoms, SV.atom]

theorem lits_length {H : Type} (k : IntKind) (zs : List Int) : (lits (H := H) k zs).length = zs.length := by simp [lits]

/-- A row of bytes. -/
theorem open_bytes {H : Type} {enc : TypeId × Value → H} {P : Program} {w : World} {base : Nat} {r : Reach} {b0 : Nat} {t e : TypeId} {v : Value} {d : DataW H} {ps : List MemPlace}
    (ht : P.underlying t = some (.slice e)) (he : P.underlying e = some (.int .u8)) (hc : P.cellsOf e = 1) (hval : Value.okWide P w r b0 t v) (hd : DataW.Trod enc P w base (fun _ => true) true t v d ps) :
    ∃ (bs : List UInt8) (rb : RB), (∀ ρ id, ρ id = some rb → Rel ρ (.sl id 0 bs.length 1 false) v) ∧ (∀ ρ, BRel ρ w rb (.ro (bs.map .u8))) ∧
      (bs = [] ∨ ∃ zs rest : List Int, d = .slice (lits .u8 zs) (lits .u8 rest) ∧ zs.length = bs.length) := by
  obtain ⟨a, len, cap, rfl⟩ := okWide_slice ht hval
  obtain ⟨fuel, hf⟩ := hd
  have hcs : (Value.slice a len cap).cells.toList = [.slice a len cap] := rfl
  rw [hcs] at hf
  rcases open_ints ht he hc hf with ⟨h1, h2⟩ | ⟨a', len', cap', zs, h1, _, hlc, _, hzl, h2, hcell, hwf⟩
  · cases h1
    refine ⟨[], ⟨0, 0, 0, true⟩, fun ρ id hr => ?_, fun ρ => .inl rfl, .inl rfl⟩
    simp only [Rel]
    exact ⟨_, none, 0, hr, rfl, Nat.le_refl _, fun h => (by cases h), .inl rfl⟩
  · cases h1
    simp only [if_true] at hzl
    have hb : ∀ z ∈ zs, 0 ≤ z ∧ z < 256 := by
      intro z hz
      have hw := hwf z hz
      simp only [Lit.wf, Bool.and_eq_true, decide_eq_true_eq, IntKind.min, IntKind.max, IntKind.signed, IntKind.bits] at hw
      have h2 := hw.2
      simp at h2 hw
      omega
    have hbl : ((zs.take len).map fun z => UInt8.ofNat z.toNat).length = len := by simp; omega
    refine ⟨(zs.take len).map fun z => UInt8.ofNat z.toNat, ⟨a'.block, a'.off, cap, false⟩, fun ρ id hr => ?_, fun ρ => ?_, .inr ⟨zs.take len, zs.drop len, ?_, by simp⟩⟩
    · rw [hbl]
      simp only [Rel]
      refine ⟨_, some a', cap, hr, rfl, hlc, fun h => (by cases h), ?_⟩
      by_cases h0 : cap = 0
      · exact .inl h0
      · right
        have := hcell 0 (by omega)
        have hsp : a'.spot = none := by
          unfold World.cell? at this
          split at this
          · split at this
            · cases this
            · rename_i hs
              have : (a'.add 0).spot = a'.spot := by unfold Addr.add; split <;> simp_all
              rw [this] at hs
              simpa using hs
          · cases this
        refine ⟨rfl, ?_, by simp⟩
        cases a'; simp at hsp; simp [hsp]
    · by_cases h0 : len = 0
      · left
        subst h0
        simp
      · right
        have key : ∀ i, i < zs.length → ∃ c t fz, w.heap[a'.block]? = some (.cells c t fz) ∧ c[a'.off + i]? = some (.int .u8 (zs.getD i 0)) := by
          intro i hi
          have h := hcell i hi
          unfold World.cell? at h
          have e1 : (a'.add i).block = a'.block := by unfold Addr.add; split <;> rfl
          rw [e1] at h
          split at h
          · rename_i c t fz hh
            split at h
            · cases h
            · rename_i hs
              have e2 : (a'.add i).off = a'.off + i := by
                unfold Addr.add at hs ⊢
                split
                · simp_all
                · rfl
              rw [e2] at h
              exact ⟨c, t, fz, hh, h⟩
          · cases h
        obtain ⟨c, t2, fz, hh, _⟩ := key 0 (by omega)
        have key2 : ∀ i, i < zs.length → c[a'.off + i]? = some (.int .u8 (zs.getD i 0)) := by
          intro i hi
          obtain ⟨c', t', fz', hh', hv⟩ := key i hi
          rw [hh] at hh'; cases hh'
          exact hv
        have hsz : a'.off + len ≤ c.size := by
          have := key2 (len - 1) (by omega)
          have := (Array.getElem?_eq_some_iff.1 this).1
          omega
        refine ⟨⟨c, t2, fz, hh, atoms_u8 _, ?_, fun h => (by cases h), by simp; omega⟩, by simp; omega, rfl⟩
        apply Rels.of_get
        · simp; omega
        · intro i x hx
          have hi : i < len := by have := (List.getElem?_eq_some_iff.1 hx).1; simp at this; omega
          have hzi : i < zs.length := by omega
          have hg : zs.getD i 0 = zs[i] := by simp [hzi]
          simp only [List.map_map, List.getElem?_map, List.getElem?_take_of_lt hi, List.getElem?_eq_getElem hzi, Option.map_some, Option.some.injEq, Function.comp] at hx
          subst hx
          refine ⟨.int .u8 (zs.getD i 0), ?_, ?_⟩
          · rw [List.length_map, hbl, List.getElem?_take_of_lt hi, List.getElem?_drop, Array.getElem?_toList]
            exact key2 i hzi
          · rw [hg]
            simp only [Rel]
            have := hb zs[i] (List.getElem_mem hzi)
            congr 1
            simp only [UInt8.toNat_ofNat']
            omega
    · have := congrArg Prod.fst h2
      exact this
end Go.Sh
/- What comes in, opened: numbers, truths, texts, arrays and structs of such; rows of such. -/
namespace Go.Sh
open Go.ChangeShapes Go.WideShapes Go.ChangeAt Go.RowKit
set_option linter.unusedSimpArgs false

section
variable {H : Type} {enc : TypeId × Value → H} {P : Program} {w : World} {base : Nat} {spare : Nat → Bool} {held : Bool}

/-- It can be read. -/
def Rd (enc : TypeId × Value → H) (P : Program) (w : World) (base : Nat) (spare : Nat → Bool) (held : Bool) (t : TypeId) (cs : List Value) : Prop := ∃ fuel x, DataW.trod enc P w base spare held fuel t cs = some x

theorem psz_cells {t : TypeId} {n : Nat} (h : psz P t = some n) : P.cellsOf t = n := by
  unfold psz at h; unfold Program.cellsOf; rw [h]; rfl

/-- Pieces of one size, one behind the other. -/
theorem chunks {ks : List Nat} {R : List Value → Prop} (hR : ∀ c, R c → ∃ xs : List SV, xs.map kd = ks.map some ∧ ∀ ρ, Rels ρ xs c) (cs : List Value) : ∀ n : Nat, n * ks.length ≤ cs.length →
    (∀ i, i < n → R ((cs.drop (i * ks.length)).take ks.length)) → ∃ xs : List SV, xs.map kd = (List.replicate n ks).flatten.map some ∧ ∀ ρ, Rels ρ xs (cs.take (n * ks.length))
  | 0, _, _ => ⟨[], by simp, fun ρ => by simp [Rels]⟩
  | n + 1, hl, h => by
    have hn : (n + 1) * ks.length = n * ks.length + ks.length := by rw [Nat.add_mul]; omega
    obtain ⟨xs, hx, hxr⟩ := chunks hR cs n (by omega) (fun i hi => h i (by omega))
    obtain ⟨ys, hy, hyr⟩ := hR _ (h n (by omega))
    refine ⟨xs ++ ys, ?_, fun ρ => ?_⟩
    · rw [List.map_append, hx, hy, List.replicate_succ', List.flatten_concat, List.map_append]
    · rw [hn, List.take_add]
      exact Rels.append (hxr ρ) (hyr ρ)

theorem int_kd {k : IntKind} {q : Nat} {n : Int} (hk : kdT (.int k) = some q) (hw : (Lit.int k n).wf = true) : ∃ x : SV, kd x = some q ∧ ∀ ρ, Rel ρ x (.int k n) := by
  cases k <;> simp only [kdT] at hk <;> (try (cases hk; done)) <;> simp only [Option.some.injEq] at hk <;> subst hk
  · exact ⟨.i n, rfl, fun ρ => by simp only [Rel]⟩
  all_goals
    simp only [Lit.wf, Bool.and_eq_true, decide_eq_true_eq, IntKind.min, IntKind.max, IntKind.signed, IntKind.bits] at hw
    have h2 := hw.2
    simp at h2 hw
  · exact ⟨.u8 (UInt8.ofNat n.toNat), rfl, fun ρ => by simp only [Rel, UInt8.toNat_ofNat']; congr 1; omega⟩
  · exact ⟨.u16 (UInt16.ofNat n.toNat), rfl, fun ρ => by simp only [Rel, UInt16.toNat_ofNat']; congr 1; omega⟩
  · exact ⟨.u32 (UInt32.ofNat n.toNat), rfl, fun ρ => by simp only [Rel, UInt32.toNat_ofNat']; congr 1; omega⟩
  · exact ⟨.u64 (UInt64.ofNat n.toNat), rfl, fun ρ => by simp only [Rel, UInt64.toNat_ofNat']; congr 1; omega⟩

theorem open_kinds_both : ∀ d : Nat,
    (∀ {t : TypeId} {ks : List Nat}, kinds P d t = some ks → ∀ {cs : List Value}, Rd enc P w base spare held t cs → ∃ xs : List SV, xs.map kd = ks.map some ∧ ∀ ρ, Rels ρ xs cs) ∧
    (∀ {off : Nat} {fs : List Field} {ks : List Nat}, kindsF P d off fs = some ks → ∀ {cs : List Value}, (∀ f ∈ fs, Rd enc P w base spare held f.type ((cs.drop f.offset).take (P.cellsOf f.type))) → off + ks.length ≤ cs.length →
      ∃ xs : List SV, xs.map kd = ks.map some ∧ ∀ ρ, Rels ρ xs ((cs.drop off).take ks.length))
  | 0 => by
    refine ⟨fun h => by simp [kinds] at h, fun {off fs ks} h => ?_⟩
    cases fs with
    | nil => simp [kindsF] at h; subst h; intro cs _ _; exact ⟨[], rfl, fun ρ => by simp [Rels]⟩
    | cons f fs => simp [kindsF] at h
  | d + 1 => by
    obtain ⟨ihA, ihB⟩ := open_kinds_both d
    refine ⟨fun {t ks} h {cs} hr => ?_, fun {off fs ks} h {cs} hr hl => ?_⟩
    · obtain ⟨fuel, x, hx⟩ := hr
      have hsz := kinds_size h
      simp only [kinds] at h
      split at h
      · rename_i fs hu
        split at h
        · cases h
        · obtain ⟨ks', h1, h2⟩ := Option.bind_eq_some_iff.1 h
          split at h2
          · cases h2
            obtain ⟨xs, n, rfl, rfl, hcl, hxl, hf⟩ := DataW.trod_struct hu hx
            have hcs : cs.length = ks.length := by rw [hcl, psz_cells hsz]
            obtain ⟨ys, hy, hyr⟩ := ihB h1 (cs := cs) (fun f hfm => by
              obtain ⟨i, hi, hfi⟩ := List.getElem_of_mem hfm
              have hi' : i < fs.size := by simpa using hi
              have hget : fs[i]? = some f := by rw [Array.getElem?_eq_getElem hi']; simpa using hfi
              have := hf i f hget
              rw [List.getElem?_eq_getElem (by omega : i < xs.length)] at this
              exact ⟨n, _, this⟩) (by omega)
            refine ⟨ys, hy, fun ρ => ?_⟩
            have := hyr ρ
            rwa [List.drop_zero, List.take_of_length_le (by omega)] at this
          · cases h2
      · rename_i n e hu
        obtain ⟨ks', h1, h2⟩ := Option.bind_eq_some_iff.1 h
        split at h2
        · rename_i hps
          cases h2
          obtain ⟨xs, m, rfl, rfl, hcl, hxl, hf⟩ := DataW.trod_array hu hx
          have hcs : cs.length = n * ks'.length := by rw [hcl, psz_cells hps]
          have he : P.cellsOf e = ks'.length := psz_cells (kinds_size h1)
          obtain ⟨ys, hy, hyr⟩ := chunks (R := fun c => Rd enc P w base spare held e c) (fun c hc => ihA h1 hc) cs n (by omega) (fun i hi => by
            have := hf i hi
            rw [he, List.getElem?_eq_getElem (by omega : i < xs.length)] at this
            exact ⟨m, _, this⟩)
          refine ⟨ys, hy, fun ρ => ?_⟩
          have := hyr ρ
          rwa [List.take_of_length_le (by omega)] at this
        · cases h2
      · rename_i ds hns hna hu
        obtain ⟨k, h1, h2⟩ := Option.bind_eq_some_iff.1 h
        split at h2
        · cases h2
          cases ds with
          | int kk =>
            obtain ⟨n, rfl, _, hw⟩ := DataW.trod_int hu hx
            obtain ⟨y, hy, hyr⟩ := int_kd h1 hw
            exact ⟨[y], by simp [hy], fun ρ => Rels.cons (hyr ρ) (Rels.nil_iff.2 rfl)⟩
          | bool =>
            obtain ⟨b, rfl, _⟩ := DataW.trod_bool hu hx
            simp only [kdT, Option.some.injEq] at h1; subst h1
            exact ⟨[.b b], rfl, fun ρ => Rels.cons (by simp only [Rel]) (Rels.nil_iff.2 rfl)⟩
          | string =>
            obtain ⟨s, rfl, _, _⟩ := DataW.trod_string hu hx
            simp only [kdT, Option.some.injEq] at h1; subst h1
            exact ⟨[.s s.data.toList], rfl, fun ρ => Rels.cons (by simp only [Rel]) (Rels.nil_iff.2 rfl)⟩
          | _ => simp [kdT] at h1
        · cases h2
      · cases h
    · cases fs with
      | nil => simp [kindsF] at h; subst h; exact ⟨[], rfl, fun ρ => by simp [Rels]⟩
      | cons f fs =>
        simp only [kindsF] at h
        split at h
        · rename_i hf
          obtain ⟨k1, h1, h2⟩ := Option.bind_eq_some_iff.1 h
          obtain ⟨k2, h3, h4⟩ := Option.map_eq_some_iff.1 h2
          subst h4
          have he : P.cellsOf f.type = k1.length := psz_cells (kinds_size h1)
          have hr1 := hr f (List.mem_cons_self ..)
          rw [hf.2, he] at hr1
          simp only [List.length_append] at hl
          obtain ⟨xs, hx, hxr⟩ := ihA h1 hr1
          obtain ⟨ys, hy, hyr⟩ := ihB h3 (cs := cs) (fun g hg => hr g (List.mem_cons_of_mem _ hg)) (by omega)
          refine ⟨xs ++ ys, by simp [hx, hy], fun ρ => ?_⟩
          rw [List.length_append, List.take_add, List.drop_drop]
          exact Rels.append (hxr ρ) (hyr ρ)
        · cases h

theorem open_kinds {d : Nat} {t : TypeId} {ks : List Nat} (h : kinds P d t = some ks) {cs : List Value} (hr : Rd enc P w base spare held t cs) : ∃ xs : List SV, xs.map kd = ks.map some ∧ ∀ ρ, Rels ρ xs cs :=
  (open_kinds_both d).1 h hr

/-! ### Kinds, told -/
theorem kd_0 {x : SV} (h : kd x = some 0) : ∃ n, x = .i n := by cases x <;> simp [kd] at h; exact ⟨_, rfl⟩
theorem kd_1 {x : SV} (h : kd x = some 1) : ∃ n, x = .u8 n := by cases x <;> simp [kd] at h; exact ⟨_, rfl⟩
theorem kd_2 {x : SV} (h : kd x = some 2) : ∃ n, x = .u16 n := by cases x <;> simp [kd] at h; exact ⟨_, rfl⟩
theorem kd_3 {x : SV} (h : kd x = some 3) : ∃ n, x = .u32 n := by cases x <;> simp [kd] at h; exact ⟨_, rfl⟩
theorem kd_4 {x : SV} (h : kd x = some 4) : ∃ n, x = .u64 n := by cases x <;> simp [kd] at h; exact ⟨_, rfl⟩
theorem kd_5 {x : SV} (h : kd x = some 5) : ∃ n, x = .b n := by cases x <;> simp [kd] at h; exact ⟨_, rfl⟩
theorem kd_nil {xs : List SV} (h : xs.map kd = ([] : List Nat).map some) : xs = [] := by simpa using h
theorem kd_cons {xs : List SV} {k : Nat} {ks : List Nat} (h : xs.map kd = (k :: ks).map some) : ∃ x ys, xs = x :: ys ∧ kd x = some k ∧ ys.map kd = ks.map some := by
  cases xs with
  | nil => simp at h
  | cons x ys => simp at h; exact ⟨x, ys, rfl, h.1, h.2⟩
theorem kd_append {xs : List SV} {k1 k2 : List Nat} (h : xs.map kd = (k1 ++ k2).map some) : ∃ ys zs, xs = ys ++ zs ∧ ys.map kd = k1.map some ∧ zs.map kd = k2.map some := by
  refine ⟨xs.take k1.length, xs.drop k1.length, (List.take_append_drop ..).symm, ?_, ?_⟩
  · rw [List.map_take, h, List.map_append, List.take_left' (by simp)]
  · rw [List.map_drop, h, List.map_append, List.drop_left' (by simp)]
theorem kd_rep {α : Type} {f : α → SV} {k : Nat} (hf : ∀ x, kd x = some k → ∃ a, x = f a) : ∀ {n : Nat} {xs : List SV}, xs.map kd = (List.replicate n k).map some → ∃ l : List α, xs = l.map f ∧ l.length = n
  | 0, xs, h => by
    have : xs = [] := kd_nil h
    subst this; exact ⟨[], rfl, rfl⟩
  | n + 1, xs, h => by
    rw [List.replicate_succ] at h
    obtain ⟨x, ys, rfl, hx, hy⟩ := kd_cons h
    obtain ⟨a, rfl⟩ := hf x hx
    obtain ⟨l, rfl, hl⟩ := kd_rep hf hy
    exact ⟨a :: l, rfl, by simp [hl]⟩
theorem kd_atoms : ∀ {xs : List SV} {ks : List Nat}, xs.map kd = ks.map some → atoms xs = true
  | [], _, _ => rfl
  | x :: xs, [], h => by simp at h
  | x :: xs, k :: ks, h => by
    simp only [List.map_cons, List.cons.injEq] at h
    simp only [atoms, List.all_cons, kd_atom h.1, Bool.true_and]
    exact kd_atoms h.2

/-- An aggregate of numbers. -/
theorem open_agg_k {r : Reach} {b0 d : Nat} {t : TypeId} {ks : List Nat} {v : Value} {y : DataW H} {ps : List MemPlace} (hk : kinds P d t = some ks) (ha : isRow P t = true) (hval : Value.okWide P w r b0 t v) (hd : DataW.Trod enc P w base spare held t v y ps) :
    ∃ xs : List SV, xs.map kd = ks.map some ∧ ∀ ρ, Rel ρ (.agg xs) v := by
  have : ∃ cs, v = .agg cs := by
    unfold Value.okWide at hval
    unfold isRow at ha
    cases hu : P.underlying t with
    | none => rw [hu] at ha; cases ha
    | some ds =>
      rw [hu] at ha hval
      cases ds <;> first | (simp at ha; done) | (obtain ⟨cs, h, _⟩ := hval; exact ⟨cs, h⟩)
  obtain ⟨cs, rfl⟩ := this
  obtain ⟨fuel, hf⟩ := hd
  obtain ⟨xs, hx, hxr⟩ := open_kinds hk (cs := cs.toList) ⟨fuel, _, hf⟩
  refine ⟨xs, hx, fun ρ => ?_⟩
  simp only [Rel]
  exact ⟨cs.toList, rfl, kd_atoms hx, hxr ρ⟩

/-- A number, a truth, a text. -/
theorem open_one_k {r : Reach} {b0 k : Nat} {t : TypeId} {ds : TypeDesc} {v : Value} {y : DataW H} {ps : List MemPlace} (hu : P.underlying t = some ds) (hk : kdT ds = some k) (hk6 : k ≠ 6) (hval : Value.okWide P w r b0 t v) (hd : DataW.Trod enc P w base spare held t v y ps) :
    ∃ x : SV, kd x = some k ∧ ∀ ρ, Rel ρ x v := by
  cases ds with
  | int kk =>
    obtain ⟨n, rfl, _, _, hw⟩ := open_int hu hval hd
    exact int_kd hk hw
  | bool =>
    obtain ⟨b, rfl, _⟩ := open_bool hu hval hd
    simp only [kdT, Option.some.injEq] at hk; subst hk
    exact ⟨.b b, rfl, fun ρ => by simp only [Rel]⟩
  | string => simp only [kdT, Option.some.injEq] at hk; exact absurd hk.symm hk6
  | _ => simp [kdT] at hk

/-! ### Rows -/
theorem cells_get {a : Addr} {n : Nat} {l : List Value} (h : w.cells? base a n = some l) : l.length = n ∧ ∀ i, i < n → w.cell? (a.add i) = l[i]? := by
  unfold World.cells? at h
  split at h
  · refine ⟨by simpa using mapM_some_length h, fun i hi => ?_⟩
    simpa using mapM_some_get h i i (by simp [hi])
  · cases h

theorem addr_add (a : Addr) (i : Nat) (h : a.spot = none) : a.add i = ⟨a.block, a.off + i, none⟩ := by
  cases a; simp only at h; subst h
  unfold Addr.add
  split
  · rename_i h0; subst h0; rfl
  · rfl
theorem addr_block (a : Addr) (i : Nat) : (a.add i).block = a.block := by unfold Addr.add; split <;> rfl
theorem addr_zero (a : Addr) : a.add 0 = a := by simp [Addr.add]

/-- A row that came in: nothing, or cells that can be read. -/
structure Row (enc : TypeId × Value → H) (P : Program) (w : World) (base : Nat) (spare : Nat → Bool) (held : Bool) (e : TypeId) (sz : Nat) (a : Addr) (len cap : Nat) (vs : List Value) : Prop where
  le : len ≤ cap
  most : cap ≤ maxLen
  spot : 0 < cap → a.spot = none
  len : vs.length = cap * sz
  cell : ∀ i, i < cap * sz → w.cell? ⟨a.block, a.off + i, none⟩ = vs[i]?
  read : ∀ i, i < cap → Rd enc P w base spare held e ((vs.drop (i * sz)).take sz)

theorem rows_of {α : Type} (f : Nat → Option (List α)) (sz : Nat) : ∀ n, (∀ i, i < n → ∃ l, f i = some l ∧ l.length = sz) → ∃ vs : List α, vs.length = n * sz ∧ ∀ i, i < n → f i = some ((vs.drop (i * sz)).take sz)
  | 0, _ => ⟨[], by simp, fun i hi => by omega⟩
  | n + 1, h => by
    obtain ⟨vs, h1, h2⟩ := rows_of f sz n (fun i hi => h i (by omega))
    obtain ⟨l, hl, hls⟩ := h n (by omega)
    refine ⟨vs ++ l, by simp [h1, hls, Nat.add_mul], fun i hi => ?_⟩
    by_cases hin : i < n
    · rw [h2 i hin]
      have hle : i * sz + sz ≤ vs.length := by
        rw [h1]; calc i * sz + sz = (i + 1) * sz := by rw [Nat.add_mul]; omega
          _ ≤ n * sz := Nat.mul_le_mul_right _ hin
      rw [List.drop_append_of_le_length (by omega), List.take_append_of_le_length (by simp; omega)]
    · have : i = n := by omega
      subst this
      rw [hl, ← h1, List.drop_left, List.take_of_length_le (by omega)]

theorem open_row {e t : TypeId} {sz : Nat} {cs : List Value} (ht : P.underlying t = some (.slice e)) (hs : psz P e = some sz) (h0 : 0 < sz) (hsp : spare = fun _ => true) (hr : Rd enc P w base spare held t cs) :
    cs = [.slice none 0 0] ∨ ∃ a len cap vs, cs = [.slice (some a) len cap] ∧ Row enc P w base spare held e sz a len cap vs := by
  obtain ⟨fuel, x, hx⟩ := hr
  have he := psz_cells hs
  rcases DataW.trod_slice ht hx with ⟨h, _⟩ | ⟨a, len, cap, elems, rest, n, rfl, rfl, _, hb, hlc, hm, hel, h1, h2, _⟩
  · exact .inl h
  · right
    rw [he] at h1 h2
    obtain ⟨hrl, h2⟩ := h2 (by rw [hsp])
    have all : ∀ i, i < cap → ∃ l, w.cells? base (a.add (i * sz)) sz = some l ∧ Rd enc P w base spare held e l := by
      intro i hi
      by_cases hil : i < len
      · have := h1 i hil
        rw [List.getElem?_eq_getElem (by omega : i < elems.length)] at this
        obtain ⟨l, hl, hr⟩ := Option.bind_eq_some_iff.1 this
        exact ⟨l, hl, n, _, hr⟩
      · have := h2 (i - len) (by omega)
        rw [List.getElem?_eq_getElem (by omega : i - len < rest.length), show len + (i - len) = i from by omega] at this
        obtain ⟨l, hl, hr⟩ := Option.bind_eq_some_iff.1 this
        exact ⟨l, hl, n, _, hr⟩
    obtain ⟨vs, hvl, hv⟩ := rows_of (fun i => w.cells? base (a.add (i * sz)) sz) sz cap (fun i hi => by
      obtain ⟨l, hl, _⟩ := all i hi
      exact ⟨l, hl, (cells_get hl).1⟩)
    have hspot : 0 < cap → a.spot = none := by
      intro hc
      obtain ⟨l, hl, _⟩ := all 0 hc
      obtain ⟨g1, g2⟩ := cells_get hl
      have := g2 0 h0
      rw [List.getElem?_eq_getElem (by omega)] at this
      unfold World.cell? at this
      split at this
      · split at this
        · cases this
        · rename_i hs2
          have h3 : ((a.add (0 * sz)).add 0).spot = none := by simpa using hs2
          rwa [Nat.zero_mul, addr_zero, addr_zero] at h3
      · cases this
    refine ⟨a, len, cap, vs, rfl, hlc, hm, hspot, hvl, fun i hi => ?_, fun i hi => ?_⟩
    · have hc : 0 < cap := by
        rcases Nat.eq_zero_or_pos cap with h | h
        · subst h; omega
        · exact h
      have hi2 : i / sz < cap := by rw [Nat.div_lt_iff_lt_mul h0]; exact hi
      have hl := hv (i / sz) hi2
      obtain ⟨g1, g2⟩ := cells_get hl
      have hmod : i % sz < sz := Nat.mod_lt _ h0
      have := g2 (i % sz) hmod
      rw [addr_add a _ (hspot hc), addr_add _ _ rfl] at this
      have hdm : i / sz * sz + i % sz = i := by rw [Nat.mul_comm]; exact Nat.div_add_mod i sz
      rw [List.getElem?_take_of_lt hmod, List.getElem?_drop, hdm] at this
      simp only [Nat.add_assoc, hdm] at this
      exact this
    · obtain ⟨l, hl, hr⟩ := all i hi
      have := hv i hi
      rw [hl] at this
      rw [← Option.some.inj this]; exact hr

/-- Its block, read alone. -/
theorem Row.block {e : TypeId} {sz : Nat} {a : Addr} {len cap : Nat} {vs : List Value} (h : Row enc P w base spare held e sz a len cap vs) {ρ : Ren} {ys : List SV} (hr : Rels ρ ys (vs.take (len * sz))) (ha : atoms ys = true) :
    (∀ id, ρ id = some ⟨a.block, a.off, cap * sz, false⟩ → Rel ρ (.sl id 0 len sz false) (.slice (some a) len cap)) ∧ BRel ρ w ⟨a.block, a.off, cap * sz, false⟩ (.ro ys) := by
  have hyl : ys.length = len * sz := by
    have := hr.length
    rw [List.length_take, h.len] at this
    have hle : len * sz ≤ cap * sz := Nat.mul_le_mul_right _ h.le
    omega
  refine ⟨fun id hid => ?_, ?_⟩
  · simp only [Rel]
    refine ⟨_, some a, cap, hid, rfl, h.le, fun h => (by cases h), ?_⟩
    by_cases h0 : cap = 0
    · exact .inl h0
    · right
      refine ⟨rfl, ?_, by simp⟩
      have := h.spot (by omega)
      cases a; simp only at this; subst this; simp
  · by_cases h0 : len * sz = 0
    · left; exact List.eq_nil_of_length_eq_zero (by omega)
    · right
      have hle : len * sz ≤ cap * sz := Nat.mul_le_mul_right _ h.le
      have key : ∀ i, i < cap * sz → ∃ c t fz, w.heap[a.block]? = some (.cells c t fz) ∧ c[a.off + i]? = vs[i]? := by
        intro i hi
        have hc := h.cell i hi
        rw [List.getElem?_eq_getElem (by rw [h.len]; exact hi)] at hc
        unfold World.cell? at hc
        split at hc
        · rename_i c t fz hh
          simp only at hc
          exact ⟨c, t, fz, hh, by rw [List.getElem?_eq_getElem (by rw [h.len]; exact hi)]; simpa using hc⟩
        · cases hc
      obtain ⟨c, t2, fz, hh, _⟩ := key 0 (by omega)
      have key2 : ∀ i, i < cap * sz → c[a.off + i]? = vs[i]? := by
        intro i hi
        obtain ⟨c', t', fz', hh', hv⟩ := key i hi
        rw [hh] at hh'; cases hh'; exact hv
      have hsz : a.off + len * sz ≤ c.size := by
        have := key2 (len * sz - 1) (by omega)
        rw [List.getElem?_eq_getElem (by rw [h.len]; omega)] at this
        have := (Array.getElem?_eq_some_iff.1 this).1
        omega
      refine ⟨⟨c, t2, fz, hh, ha, ?_, fun h => (by cases h), by rw [hyl]; exact hsz⟩, by rw [hyl]; exact hle, rfl⟩
      have e1 : (c.toList.drop a.off).take ys.length = vs.take (len * sz) := by
        apply List.ext_getElem?
        intro i
        rw [hyl]
        by_cases hi : i < len * sz
        · rw [List.getElem?_take_of_lt hi, List.getElem?_take_of_lt hi, List.getElem?_drop, Array.getElem?_toList]
          exact key2 i (by omega)
        · rw [List.getElem?_take_eq_none (by omega), List.getElem?_take_eq_none (by omega)]
      rw [e1]; exact hr

/-- A row of numbers, of structs of such. -/
theorem open_row_k {r : Reach} {b0 d : Nat} {e t : TypeId} {ks : List Nat} {v : Value} {y : DataW H} {ps : List MemPlace} (ht : P.underlying t = some (.slice e)) (hk : kinds P d e = some ks) (h0 : 0 < ks.length) (hval : Value.okWide P w r b0 t v)
    (hd : DataW.Trod enc P w base (fun _ => true) held t v y ps) : ∃ (n : Nat) (ys : List SV) (rb : RB), n ≤ maxLen ∧ ys.map kd = (List.replicate n ks).flatten.map some ∧ (∀ ρ id, ρ id = some rb → Rel ρ (.sl id 0 n ks.length false) v) ∧ ∀ ρ, BRel ρ w rb (.ro ys) := by
  obtain ⟨a, len, cap, rfl⟩ := okWide_slice ht hval
  obtain ⟨fuel, hf⟩ := hd
  have hcs : (Value.slice a len cap).cells.toList = [.slice a len cap] := rfl
  rw [hcs] at hf
  rcases open_row ht (kinds_size hk) h0 rfl ⟨fuel, _, hf⟩ with h | ⟨a', len', cap', vs, h, hrow⟩
  · cases h
    refine ⟨0, [], ⟨0, 0, 0, true⟩, Nat.zero_le _, rfl, fun ρ id hr => ?_, fun ρ => .inl rfl⟩
    simp only [Rel]
    exact ⟨_, none, 0, hr, rfl, Nat.le_refl _, fun h => (by cases h), .inl rfl⟩
  · cases h
    have hle : len * ks.length ≤ cap * ks.length := Nat.mul_le_mul_right _ hrow.le
    obtain ⟨ys, hy, hyr⟩ := chunks (R := fun c => Rd enc P w base (fun _ => true) held e c) (fun c hc => open_kinds hk hc) vs len (by rw [hrow.len]; exact hle) (fun i hi => hrow.read i (Nat.lt_of_lt_of_le hi hrow.le))
    exact ⟨len, ys, _, Nat.le_trans hrow.le hrow.most, hy, fun ρ id hid => (hrow.block (hyr ρ) (kd_atoms hy)).1 id hid, fun ρ => (hrow.block (hyr ρ) (kd_atoms hy)).2⟩

theorem flat_rep1 (n k : Nat) : (List.replicate n [k]).flatten = List.replicate n k := by
  induction n with
  | zero => rfl
  | succ n ih => rw [List.replicate_succ, List.flatten_cons, ih]; rfl

/-- A row of bytes; of words. -/
theorem open_row1 {α : Type} {f : α → SV} {r : Reach} {b0 d k : Nat} {e t : TypeId} {v : Value} {y : DataW H} {ps : List MemPlace} (ht : P.underlying t = some (.slice e)) (hk : kinds P d e = some [k]) (hf : ∀ x, kd x = some k → ∃ a, x = f a) (hval : Value.okWide P w r b0 t v)
    (hd : DataW.Trod enc P w base (fun _ => true) held t v y ps) : ∃ (l : List α) (rb : RB), l.length ≤ maxLen ∧ (∀ ρ id, ρ id = some rb → Rel ρ (.sl id 0 l.length 1 false) v) ∧ ∀ ρ, BRel ρ w rb (.ro (l.map f)) := by
  obtain ⟨n, ys, rb, hm, hy, h1, h2⟩ := open_row_k ht hk (by simp) hval hd
  rw [flat_rep1] at hy
  obtain ⟨l, rfl, rfl⟩ := kd_rep hf hy
  exact ⟨l, rb, hm, h1, h2⟩
end
end Go.Sh
