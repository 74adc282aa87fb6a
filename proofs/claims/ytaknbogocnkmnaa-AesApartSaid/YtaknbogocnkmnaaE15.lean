/- aes's law AesApart (f10), walked. -/
import Derived.Test.YtaknbogocnkmnaaE12
import Derived.Test.YtaknbogocnkmnaaE11b
import Derived.Test.YtaknbogocnkmnaaSh26
namespace Go.Sh
open Go.Proofs
set_option maxHeartbeats 8000000
set_option linter.unusedSimpArgs false

theorem eqcs_u8 : ∀ (l m : List UInt8), eqcs (l.map SV.u8) (m.map SV.u8) = true → l.length = m.length → l = m
  | [], [], _, _ => rfl
  | a :: l, b :: m, h, hl => by
    simp only [List.map_cons, eqcs, eqc, Bool.and_eq_true, beq_iff_eq] at h
    rw [h.1, eqcs_u8 l m h.2 (by simpa using hl)]
  | [], _ :: _, _, h => by simp at h
  | _ :: _, [], _, h => by simp at h
theorem eqcs_refl : ∀ (l : List UInt8), eqcs (l.map SV.u8) (l.map SV.u8) = true
  | [] => rfl
  | a :: l => by simp only [List.map_cons, eqcs, eqc, beq_self_eq_true, Bool.true_and]; exact eqcs_refl l
theorem eqcs_dec (l m : List UInt8) (h : l.length = m.length) : eqcs (l.map SV.u8) (m.map SV.u8) = decide (l = m) := by
  by_cases hlm : l = m
  · subst hlm; simp [eqcs_refl]
  · simp only [hlm, decide_false]
    cases hc : eqcs (l.map SV.u8) (m.map SV.u8) with
    | false => rfl
    | true => exact absurd (eqcs_u8 l m hc h) hlm

theorem kd_u8n {n : Nat} (l : List UInt8) (h : l.length = n) : List.map kd (List.map SV.u8 l) = List.map some (List.replicate n 1) := by
  subst h
  induction l with
  | nil => rfl
  | cons a l ih => simp only [List.map_cons, List.length_cons, List.replicate_succ, ih]; rfl

theorem f10_4 (x y : UInt8) (key a b : List UInt8) (hk : key.length = 32) (ha : a.length = 16) (hb : b.length = 16) :
    SCall Try.prog 10 [.u8 x, .u8 y, .agg (key.map .u8), .b false, .agg (a.map .u8), .agg (b.map .u8)] [] (.b true) [] := by
  have hkt : (key.take 16).length = 16 := by simp [hk]
  have hw := wSt_4 (key.take 16)
  obtain ⟨w, hwe⟩ : ∃ w, w = wSt (key.take 16) 4 44 := ⟨_, rfl⟩
  have hn := f45s_4 false key (key.take 16) 0 hkt rfl
  rw [← hwe] at hn hw
  have hsa := f47L 44 false w 10 rfl hw (by omega) (by omega) a ha
  have hsb := f47L 44 false w 10 rfl hw (by omega) (by omega) b hb
  have hla := sealSt_len w 10 a ha 10
  have hlb := sealSt_len w 10 b hb 10
  have hinj : sealSt w 10 a 10 = sealSt w 10 b 10 → a = b := sealSt_inj ha hb 10
  have hpq : (eqcs ((sealSt w 10 a 10).map SV.u8) ((sealSt w 10 b 10).map SV.u8) == eqcs (a.map SV.u8) (b.map SV.u8)) = true := by
    rw [eqcs_dec _ _ (by omega), eqcs_dec _ _ (by omega)]
    by_cases h : a = b
    · subst h; simp
    · have h2 : ¬ sealSt w 10 a 10 = sealSt w 10 b 10 := fun e => h (hinj e)
      simp [h, h2]
  have hxy : ((sb x == sb y) == (x == y)) = true := by
    by_cases h : x = y
    · subst h; simp
    · have h2 : ¬ sb x = sb y := fun e => h (sb_inj e)
      rw [show (sb x == sb y) = false from beq_eq_false_iff_ne.2 h2, show (x == y) = false from beq_eq_false_iff_ne.2 h]; rfl
  obtain ⟨p, hp⟩ : ∃ p, p = sealSt w 10 a 10 := ⟨_, rfl⟩
  obtain ⟨r, hr⟩ : ∃ r, r = sealSt w 10 b 10 := ⟨_, rfl⟩
  rw [← hp] at hsa hla hpq
  rw [← hr] at hsb hlb hpq
  have hpp := eqcs_refl p
  have hrr := eqcs_refl r
  refine scall_of ttOk (by kernel_rfl : Try.prog.funcs[10]? = some Try.f10) rfl rfl rfl ?_
  refine sw_ok ttOk mixed (by kernel_rfl) ?_
  conv => whnf
  repeat (fail)
  refine ok1_callP [] (f42) rfl rfl ⟨⟨rfl, by first | rfl | fail⟩, trivial, by first | rfl | fail, ?_⟩
  conv => whnf
  repeat (first | (refine brT rfl ?_; conv => whnf) | (refine brF rfl ?_; conv => whnf) | (refine Exists.intro _ (And.intro rfl ?_); conv => whnf) | (refine And.intro (by first | omega | (simp; omega) | (simp [ti5]; omega)) ?_; conv => whnf) | fail)
  have hcut : List.take (0 * ti5.sz) (List.drop 0 (SB.row 5 (reps 0 (SV.u8 0).cells)).cells) ++ List.take ((32 - 0) * ti5.sz) (List.drop (0 + 0 * ti5.sz) (SB.box (List.map SV.u8 key)).cells) = key.map SV.u8 := by
    have h : List.take 32 (List.drop 0 (key.map SV.u8)) = key.map SV.u8 := by rw [List.drop_zero, List.take_of_length_le (by simp [hk])]
    exact h
  rw [hcut]
  refine ok1_callE [4] [some (.ro (key.map .u8)), some (.box (sbx.map .u8 ++ [.sl 6 0 44 4 false])), some (.row 137 (w.map .u8))] (.tup [.p 5 0, .i 0]) (hn) rfl rfl ⟨⟨rfl, by first | rfl | fail⟩, by (repeat' (first | exact trivial | refine And.intro ?_ ?_)) <;> first | exact ren_m8 rfl | fail, by (repeat' (first | exact trivial | refine And.intro ?_ ?_)) <;> first | exact renB_plain _ (by first | (simp; done) | fail) | exact rb_boxa (by first | (simp; done) | fail) rfl | rfl, by first | rfl, ?_⟩
  conv => whnf
  repeat (fail)
  refine ok1_callE [4] [some (.ro (key.map .u8)), some (.box (sbx.map .u8 ++ [.sl 8 0 44 4 false])), some (.row 137 (w.map .u8))] (.tup [.p 7 0, .i 0]) (hn) rfl rfl ⟨⟨rfl, by first | rfl | fail⟩, by (repeat' (first | exact trivial | refine And.intro ?_ ?_)) <;> first | exact ren_m8 rfl | fail, by (repeat' (first | exact trivial | refine And.intro ?_ ?_)) <;> first | exact renB_plain _ (by first | (simp; done) | fail) | exact rb_boxa (by first | (simp; done) | fail) rfl | rfl, by first | rfl, ?_⟩
  conv => whnf
  repeat (first | (refine brF rfl ?_; conv => whnf) | (refine gdT rfl ?_; conv => whnf) | (refine Exists.intro _ (And.intro (sload_all rfl (by first | rfl | (simp; omega))) ?_); conv => whnf) | (refine Exists.intro _ (And.intro rfl ?_); conv => whnf) | fail)
  refine ok1_callF [5, 6] [false, false] true (hsa) rfl rfl ⟨⟨rfl, by first | ((repeat' (first | exact wk_nil | exact ren_m8 rfl | exact rfl | (refine wk_agg ?_) | (refine wk_cons ?_ ?_))); done) | fail⟩, by (repeat' (first | exact trivial | refine And.intro ?_ ?_)) <;> first | exact ren_eq (by first | (simp; done) | fail) (by first | rfl | fail) | exact ren_app2 (by first | (simp; done) | fail) (by first | rfl | fail) (by first | rfl | fail), by first | rfl | fail, by first | simp [plainRf, plainR, plainT, plainW], ?_⟩
  conv => whnf
  repeat (first | (refine Exists.intro _ (And.intro (sload_all rfl (by first | rfl | (simp; omega))) ?_); conv => whnf) | fail)
  refine ok1_callF [5, 6] [false, false] true (hsb) rfl rfl ⟨⟨rfl, by first | ((repeat' (first | exact wk_nil | exact ren_m8 rfl | exact rfl | (refine wk_agg ?_) | (refine wk_cons ?_ ?_))); done) | fail⟩, by (repeat' (first | exact trivial | refine And.intro ?_ ?_)) <;> first | exact ren_eq (by first | (simp; done) | fail) (by first | rfl | fail) | exact ren_app2 (by first | (simp; done) | fail) (by first | rfl | fail) (by first | rfl | fail), by first | rfl | fail, by first | simp [plainRf, plainR, plainT, plainW], ?_⟩
  conv => whnf
  repeat (first | (refine Exists.intro _ (And.intro (sput_all rfl (by first | rfl | (simp [hla, hlb]; done) | fail)) ?_); conv => whnf) | (refine And.intro (by first | omega | (simp; omega) | fail) ?_; conv => whnf) | (refine And.intro (by kernel_rfl) ?_; conv => whnf) | fail)
  refine ok1_clear 5 4 0 16 5 false (key.map .u8) (.u8 0) rfl (by kernel_rfl : Try.prog.underlying 25 = some (.slice 5)) (by kernel_rfl) rfl rfl rfl (by simp [hk]) (by simp [hk]) (Nat.le_of_ble_eq_true rfl) ?_
  conv => whnf
  repeat (fail)
  refine ok1_callP [] (f43 x) rfl rfl ⟨⟨rfl, by first | rfl | fail⟩, trivial, by first | rfl | fail, ?_⟩
  conv => whnf
  repeat (fail)
  refine ok1_callP [] (f43 y) rfl rfl ⟨⟨rfl, by first | rfl | fail⟩, trivial, by first | rfl | fail, ?_⟩
  conv => whnf
  repeat (first | (refine Exists.intro _ (And.intro (sload_all rfl (by first | rfl | (simp; omega))) ?_); conv => whnf) | (refine gdT hxy ?_; conv => whnf) | (refine And.intro (by kernel_rfl) ?_; conv => whnf) | fail)
  refine And.intro (by exact ⟨kd_u8n _ hla, kd_u8n _ hlb⟩) ?_
  conv => whnf
  repeat (first | (refine Exists.intro _ (And.intro (sload_all rfl (by first | rfl | (simp; omega))) ?_); conv => whnf) | (refine gdT hxy ?_; conv => whnf) | fail)
  refine And.intro (by exact ⟨kd_u8n _ ha, kd_u8n _ hb⟩) ?_
  conv => whnf
  repeat (first | (refine Exists.intro _ (And.intro (sload_all rfl (by first | rfl | (simp; omega))) ?_); conv => whnf) | (refine gdT hxy ?_; conv => whnf) | (refine pkT hxy ?_; conv => whnf) | (refine gdT hpq ?_; conv => whnf) | (refine And.intro (by kernel_rfl) ?_; conv => whnf) | fail)
  refine ok1_callF [5, 6] [false, false] true (hsa) rfl rfl ⟨⟨rfl, by first | ((repeat' (first | exact wk_nil | exact ren_m8 rfl | exact rfl | (refine wk_agg ?_) | (refine wk_cons ?_ ?_))); done) | fail⟩, by (repeat' (first | exact trivial | refine And.intro ?_ ?_)) <;> first | exact ren_eq (by first | (simp; done) | fail) (by first | rfl | fail) | exact ren_app2 (by first | (simp; done) | fail) (by first | rfl | fail) (by first | rfl | fail), by first | rfl | fail, by first | simp [plainRf, plainR, plainT, plainW], ?_⟩
  conv => whnf
  repeat (first | (refine Exists.intro _ (And.intro (sload_all rfl (by first | rfl | (simp [hla, hlb]; done) | fail)) ?_); conv => whnf) | (refine gdT hpq ?_; conv => whnf) | fail)
  refine And.intro (by exact ⟨kd_u8n _ hla, kd_u8n _ hla⟩) ?_
  conv => whnf
  repeat (first | (refine Exists.intro _ (And.intro (sload_all rfl (by first | rfl | (simp [hla, hlb]; omega))) ?_); conv => whnf) | (refine pkT hpq ?_; conv => whnf) | (refine gdT hpp ?_; conv => whnf) | fail)
  refine ok1_callF [7, 8] [false, false] true (hsb) rfl rfl ⟨⟨rfl, by first | ((repeat' (first | exact wk_nil | exact ren_m8 rfl | exact rfl | (refine wk_agg ?_) | (refine wk_cons ?_ ?_))); done) | fail⟩, by (repeat' (first | exact trivial | refine And.intro ?_ ?_)) <;> first | exact ren_eq (by first | (simp; done) | fail) (by first | rfl | fail) | exact ren_app2 (by first | (simp; done) | fail) (by first | rfl | fail) (by first | rfl | fail), by first | rfl | fail, by first | simp [plainRf, plainR, plainT, plainW], ?_⟩
  conv => whnf
  repeat (first | (refine Exists.intro _ (And.intro (sload_all rfl (by first | rfl | (simp [hla, hlb]; done) | fail)) ?_); conv => whnf) | (refine gdT hpp ?_; conv => whnf) | fail)
  refine And.intro (by exact ⟨kd_u8n _ hlb, kd_u8n _ hlb⟩) ?_
  conv => whnf
  repeat (first | (refine pkT hpp ?_; conv => whnf) | (refine And.intro (by kernel_rfl) ?_; conv => whnf) | fail)
  refine ⟨[], ?_, rfl, rfl, ?_, rfl⟩
  · (repeat' (fail)) <;> first | exact wk_b (by first | (simp; omega) | fail) | fail
  · (repeat' (first | exact trivial | fail)) <;> fail
theorem f10_8 (x y : UInt8) (key a b : List UInt8) (hk : key.length = 32) (ha : a.length = 16) (hb : b.length = 16) :
    SCall Try.prog 10 [.u8 x, .u8 y, .agg (key.map .u8), .b true, .agg (a.map .u8), .agg (b.map .u8)] [] (.b true) [] := by
  have hkt : (key.take 32).length = 32 := by simp [hk]
  have hw := wSt_8 (key.take 32)
  obtain ⟨w, hwe⟩ : ∃ w, w = wSt (key.take 32) 8 60 := ⟨_, rfl⟩
  have hn := f45s_8 false key (key.take 32) 0 hkt rfl
  rw [← hwe] at hn hw
  have hsa := f47L 60 false w 14 rfl hw (by omega) (by omega) a ha
  have hsb := f47L 60 false w 14 rfl hw (by omega) (by omega) b hb
  have hla := sealSt_len w 14 a ha 14
  have hlb := sealSt_len w 14 b hb 14
  have hinj : sealSt w 14 a 14 = sealSt w 14 b 14 → a = b := sealSt_inj ha hb 14
  have hpq : (eqcs ((sealSt w 14 a 14).map SV.u8) ((sealSt w 14 b 14).map SV.u8) == eqcs (a.map SV.u8) (b.map SV.u8)) = true := by
    rw [eqcs_dec _ _ (by omega), eqcs_dec _ _ (by omega)]
    by_cases h : a = b
    · subst h; simp
    · have h2 : ¬ sealSt w 14 a 14 = sealSt w 14 b 14 := fun e => h (hinj e)
      simp [h, h2]
  have hxy : ((sb x == sb y) == (x == y)) = true := by
    by_cases h : x = y
    · subst h; simp
    · have h2 : ¬ sb x = sb y := fun e => h (sb_inj e)
      rw [show (sb x == sb y) = false from beq_eq_false_iff_ne.2 h2, show (x == y) = false from beq_eq_false_iff_ne.2 h]; rfl
  obtain ⟨p, hp⟩ : ∃ p, p = sealSt w 14 a 14 := ⟨_, rfl⟩
  obtain ⟨r, hr⟩ : ∃ r, r = sealSt w 14 b 14 := ⟨_, rfl⟩
  rw [← hp] at hsa hla hpq
  rw [← hr] at hsb hlb hpq
  have hpp := eqcs_refl p
  have hrr := eqcs_refl r
  refine scall_of ttOk (by kernel_rfl : Try.prog.funcs[10]? = some Try.f10) rfl rfl rfl ?_
  refine sw_ok ttOk mixed (by kernel_rfl) ?_
  conv => whnf
  repeat (fail)
  refine ok1_callP [] (f42) rfl rfl ⟨⟨rfl, by first | rfl | fail⟩, trivial, by first | rfl | fail, ?_⟩
  conv => whnf
  repeat (first | (refine brF rfl ?_; conv => whnf) | (refine Exists.intro _ (And.intro rfl ?_); conv => whnf) | (refine And.intro (by first | omega | (simp; omega) | (simp [ti5]; omega)) ?_; conv => whnf) | fail)
  have hcut : List.take (0 * ti5.sz) (List.drop 0 (SB.row 5 (reps 0 (SV.u8 0).cells)).cells) ++ List.take ((32 - 0) * ti5.sz) (List.drop (0 + 0 * ti5.sz) (SB.box (List.map SV.u8 key)).cells) = key.map SV.u8 := by
    have h : List.take 32 (List.drop 0 (key.map SV.u8)) = key.map SV.u8 := by rw [List.drop_zero, List.take_of_length_le (by simp [hk])]
    exact h
  rw [hcut]
  refine ok1_callE [4] [some (.ro (key.map .u8)), some (.box (sbx.map .u8 ++ [.sl 6 0 60 4 false])), some (.row 137 (w.map .u8))] (.tup [.p 5 0, .i 0]) (hn) rfl rfl ⟨⟨rfl, by first | rfl | fail⟩, by (repeat' (first | exact trivial | refine And.intro ?_ ?_)) <;> first | exact ren_m8 rfl | fail, by (repeat' (first | exact trivial | refine And.intro ?_ ?_)) <;> first | exact renB_plain _ (by first | (simp; done) | fail) | exact rb_boxa (by first | (simp; done) | fail) rfl | rfl, by first | rfl, ?_⟩
  conv => whnf
  repeat (fail)
  refine ok1_callE [4] [some (.ro (key.map .u8)), some (.box (sbx.map .u8 ++ [.sl 8 0 60 4 false])), some (.row 137 (w.map .u8))] (.tup [.p 7 0, .i 0]) (hn) rfl rfl ⟨⟨rfl, by first | rfl | fail⟩, by (repeat' (first | exact trivial | refine And.intro ?_ ?_)) <;> first | exact ren_m8 rfl | fail, by (repeat' (first | exact trivial | refine And.intro ?_ ?_)) <;> first | exact renB_plain _ (by first | (simp; done) | fail) | exact rb_boxa (by first | (simp; done) | fail) rfl | rfl, by first | rfl, ?_⟩
  conv => whnf
  repeat (first | (refine brF rfl ?_; conv => whnf) | (refine gdT rfl ?_; conv => whnf) | (refine Exists.intro _ (And.intro (sload_all rfl (by first | rfl | (simp; omega))) ?_); conv => whnf) | (refine Exists.intro _ (And.intro rfl ?_); conv => whnf) | fail)
  refine ok1_callF [5, 6] [false, false] true (hsa) rfl rfl ⟨⟨rfl, by first | ((repeat' (first | exact wk_nil | exact ren_m8 rfl | exact rfl | (refine wk_agg ?_) | (refine wk_cons ?_ ?_))); done) | fail⟩, by (repeat' (first | exact trivial | refine And.intro ?_ ?_)) <;> first | exact ren_eq (by first | (simp; done) | fail) (by first | rfl | fail) | exact ren_app2 (by first | (simp; done) | fail) (by first | rfl | fail) (by first | rfl | fail), by first | rfl | fail, by first | simp [plainRf, plainR, plainT, plainW], ?_⟩
  conv => whnf
  repeat (first | (refine Exists.intro _ (And.intro (sload_all rfl (by first | rfl | (simp; omega))) ?_); conv => whnf) | fail)
  refine ok1_callF [5, 6] [false, false] true (hsb) rfl rfl ⟨⟨rfl, by first | ((repeat' (first | exact wk_nil | exact ren_m8 rfl | exact rfl | (refine wk_agg ?_) | (refine wk_cons ?_ ?_))); done) | fail⟩, by (repeat' (first | exact trivial | refine And.intro ?_ ?_)) <;> first | exact ren_eq (by first | (simp; done) | fail) (by first | rfl | fail) | exact ren_app2 (by first | (simp; done) | fail) (by first | rfl | fail) (by first | rfl | fail), by first | rfl | fail, by first | simp [plainRf, plainR, plainT, plainW], ?_⟩
  conv => whnf
  repeat (first | (refine Exists.intro _ (And.intro (sput_all rfl (by first | rfl | (simp [hla, hlb]; done) | fail)) ?_); conv => whnf) | (refine And.intro (by first | omega | (simp; omega) | fail) ?_; conv => whnf) | (refine And.intro (by kernel_rfl) ?_; conv => whnf) | fail)
  refine ok1_clear 5 4 0 32 5 false (key.map .u8) (.u8 0) rfl (by kernel_rfl : Try.prog.underlying 25 = some (.slice 5)) (by kernel_rfl) rfl rfl rfl (by simp [hk]) (by simp [hk]) (Nat.le_of_ble_eq_true rfl) ?_
  conv => whnf
  repeat (fail)
  refine ok1_callP [] (f43 x) rfl rfl ⟨⟨rfl, by first | rfl | fail⟩, trivial, by first | rfl | fail, ?_⟩
  conv => whnf
  repeat (fail)
  refine ok1_callP [] (f43 y) rfl rfl ⟨⟨rfl, by first | rfl | fail⟩, trivial, by first | rfl | fail, ?_⟩
  conv => whnf
  repeat (first | (refine Exists.intro _ (And.intro (sload_all rfl (by first | rfl | (simp; omega))) ?_); conv => whnf) | (refine gdT hxy ?_; conv => whnf) | (refine And.intro (by kernel_rfl) ?_; conv => whnf) | fail)
  refine And.intro (by exact ⟨kd_u8n _ hla, kd_u8n _ hlb⟩) ?_
  conv => whnf
  repeat (first | (refine Exists.intro _ (And.intro (sload_all rfl (by first | rfl | (simp; omega))) ?_); conv => whnf) | (refine gdT hxy ?_; conv => whnf) | fail)
  refine And.intro (by exact ⟨kd_u8n _ ha, kd_u8n _ hb⟩) ?_
  conv => whnf
  repeat (first | (refine Exists.intro _ (And.intro (sload_all rfl (by first | rfl | (simp; omega))) ?_); conv => whnf) | (refine gdT hxy ?_; conv => whnf) | (refine pkT hxy ?_; conv => whnf) | (refine gdT hpq ?_; conv => whnf) | (refine And.intro (by kernel_rfl) ?_; conv => whnf) | fail)
  refine ok1_callF [5, 6] [false, false] true (hsa) rfl rfl ⟨⟨rfl, by first | ((repeat' (first | exact wk_nil | exact ren_m8 rfl | exact rfl | (refine wk_agg ?_) | (refine wk_cons ?_ ?_))); done) | fail⟩, by (repeat' (first | exact trivial | refine And.intro ?_ ?_)) <;> first | exact ren_eq (by first | (simp; done) | fail) (by first | rfl | fail) | exact ren_app2 (by first | (simp; done) | fail) (by first | rfl | fail) (by first | rfl | fail), by first | rfl | fail, by first | simp [plainRf, plainR, plainT, plainW], ?_⟩
  conv => whnf
  repeat (first | (refine Exists.intro _ (And.intro (sload_all rfl (by first | rfl | (simp [hla, hlb]; done) | fail)) ?_); conv => whnf) | (refine gdT hpq ?_; conv => whnf) | fail)
  refine And.intro (by exact ⟨kd_u8n _ hla, kd_u8n _ hla⟩) ?_
  conv => whnf
  repeat (first | (refine Exists.intro _ (And.intro (sload_all rfl (by first | rfl | (simp [hla, hlb]; omega))) ?_); conv => whnf) | (refine pkT hpq ?_; conv => whnf) | (refine gdT hpp ?_; conv => whnf) | fail)
  refine ok1_callF [7, 8] [false, false] true (hsb) rfl rfl ⟨⟨rfl, by first | ((repeat' (first | exact wk_nil | exact ren_m8 rfl | exact rfl | (refine wk_agg ?_) | (refine wk_cons ?_ ?_))); done) | fail⟩, by (repeat' (first | exact trivial | refine And.intro ?_ ?_)) <;> first | exact ren_eq (by first | (simp; done) | fail) (by first | rfl | fail) | exact ren_app2 (by first | (simp; done) | fail) (by first | rfl | fail) (by first | rfl | fail), by first | rfl | fail, by first | simp [plainRf, plainR, plainT, plainW], ?_⟩
  conv => whnf
  repeat (first | (refine Exists.intro _ (And.intro (sload_all rfl (by first | rfl | (simp [hla, hlb]; done) | fail)) ?_); conv => whnf) | (refine gdT hpp ?_; conv => whnf) | fail)
  refine And.intro (by exact ⟨kd_u8n _ hlb, kd_u8n _ hlb⟩) ?_
  conv => whnf
  repeat (first | (refine pkT hpp ?_; conv => whnf) | (refine And.intro (by kernel_rfl) ?_; conv => whnf) | fail)
  refine ⟨[], ?_, rfl, rfl, ?_, rfl⟩
  · (repeat' (fail)) <;> first | exact wk_b (by first | (simp; omega) | fail) | fail
  · (repeat' (first | exact trivial | fail)) <;> fail
theorem f10 (x y : UInt8) (key a b : List UInt8) (wide : Bool) (hk : key.length = 32) (ha : a.length = 16) (hb : b.length = 16) :
    SCall Try.prog 10 [.u8 x, .u8 y, .agg (key.map .u8), .b wide, .agg (a.map .u8), .agg (b.map .u8)] [] (.b true) [] := by
  cases wide with
  | false => exact f10_4 x y key a b hk ha hb
  | true => exact f10_8 x y key a b hk ha hb
end Go.Sh
