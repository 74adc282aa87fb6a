/- Merged for a claim: M12, C1, C2, N1, K1, K2, K5, K6, K3, K7, K8, K4, K9, K10, K11, K20, K21, K23, K28, K29, K30, K31, K32, K33, K34, K35, K38, K39, K41, Sh39, Sh40, S1. -/
import Derived.Test.YthncciimpbgcoaaSk3
set_option linter.unusedSimpArgs false
set_option linter.unusedVariables false
namespace Go.Sh
open Go.Proofs
set_option maxHeartbeats 4000000
def exT_n (K I : List UInt8) : Nat → List UInt8
 | 0 => []
 | i + 1 => mac_n K (exT_n K I i ++ I ++ [u8i ((i + 1 : Nat) : Int)])
def exO_n (K I : List UInt8) : Nat → List UInt8
 | 0 => []
 | i + 1 => exO_n K I i ++ exT_n K I (i + 1)
theorem exT_len_n (K I : List UInt8) (i : Nat) : (exT_n K I (i + 1)).length = 32 := mac_len_n _ _
theorem exO_len_n (K I : List UInt8) : ∀ i, (exO_n K I i).length = 32 * i
 | 0 => rfl
 | i + 1 => by
  show (exO_n K I i ++ exT_n K I (i + 1)).length = _
  rw [List.length_append, exO_len_n K I i, exT_len_n]; omega
theorem exT_s_n (K I : List UInt8) (i : Nat) : exT_n K I (i + 1) = mac_n K (exT_n K I i ++ I ++ [u8i ((i + 1 : Nat) : Int)]) := rfl
theorem exT_1_n (K I : List UInt8) : exT_n K I 1 = mac_n K (I ++ [u8i ((1 : Nat) : Int)]) := rfl
theorem exO_s_n (K I : List UInt8) (i : Nat) : exO_n K I (i + 1) = exO_n K I i ++ exT_n K I (i + 1) := rfl
theorem exO_z_n (K I : List UInt8) : exO_n K I 0 = [] := rfl
def exR_n : Nat → SV
 | 0 => .slnil
 | _ + 1 => .sl 3 0 32 1 true
def exB_n (K I : List UInt8) : Nat → Option SB
 | 0 => none
 | i + 1 => some (.box ((exT_n K I (i + 1)).map .u8))
section
attribute [local irreducible] mac_n exT_n exO_n
theorem f51_n (K I : List UInt8) (hK : K.length < 100000000000000) (hI : I.length < 10000000000000) (n : Nat) (hn1 : 1 ≤ n) (hn : n ≤ 8160) (fk fi : Bool) : SCall Try.prog 23 [.u8 1, .sl 0 0 K.length 1 fk, .sl 1 0 I.length 1 fi, .i (n : Int)] [some (.ro (K.map .u8)), some (.ro (I.map .u8))] (.tup [.sl 2 0 n 1 true, .i 0]) [some (.ro (K.map .u8)), some (.ro (I.map .u8)), some (.row 5 ((exO_n K I ((n + (32 - 1)) / 32)).map .u8))] := by
 have e1 : decide ((n : Int) < 1) = false := by simp; omega
 have e2 : decide ((n : Int) > w64 (255 * 32)) = false := by simp [w64_eq]; omega
 obtain ⟨m, hm⟩ : ∃ m, m = (n + (32 - 1)) / 32 := ⟨_, rfl⟩
 rw [← hm]
 refine scall_of ttOk (by kernel_rfl : Try.prog.funcs[23]? = some Try.f23) rfl rfl rfl ?_
 try simp only [List.length_cons, List.length_nil, Nat.zero_add, Nat.reduceAdd]
 refine sw_ok ttOk mixed (by kernel_rfl) ?_
 conv => whnf
 repeat (first | (refine gdT e1 ?_; conv => whnf) | fail)
 refine ok1_callF [] [] true (f98_n) rfl rfl ⟨⟨rfl, by first | rfl | fail⟩, trivial, by first | rfl | fail, by first | rfl | fail, ?_⟩
 conv => whnf
 repeat (first | (refine gdT e1 ?_; conv => whnf) | (refine pkF e1 ?_; conv => whnf) | (refine gdF e2 ?_; conv => whnf) | fail)
 refine SWp.weak (Weak.virt 10 5 1 rfl) ?_
 refine loop_rule ttOk mixed (by kernel_rfl) (ι := { i : Nat // i ≤ m }) (fun i => [(0, .u8 1), (1, .sl 0 0 K.length 1 fk), (2, .sl 1 0 I.length 1 fi), (3, .i n), (8, .slnil), (9, .i 0), (10, .sl 2 0 (32 * i.1) 1 false), (11, exR_n i.1), (12, .i ((i.1 + 1 : Nat) : Int))]) (fun i => [some (.ro (K.map .u8)), some (.ro (I.map .u8)), some (.row 5 ((exO_n K I i.1).map .u8)), exB_n K I i.1]) (fun _ => 4) (fun i => m - i.1) ⟨0, by omega⟩ ?_ ?_
 ·
  have hz := exO_z_n K I
  dsimp only
  rw [hz]
  refine Weak.sel [0, 1, 2, 0] rfl rfl ?_ ?_ rfl rfl
  ·
   (repeat' (first | exact trivial | refine And.intro ?_ ?_ | fail)) <;> first | rfl | fail
  ·
   (repeat' (first | exact trivial | refine And.intro ?_ ?_ | fail)) <;> first | rfl | exact ren_eq (by first | (simp; done) | fail) (by first | rfl | fail) | fail
 ·
  rintro ⟨i, hi⟩
  dsimp only
  have hol := exO_len_n K I i
  have hos := exO_s_n K I i
  have htl := exT_len_n K I i
  have hts := exT_s_n K I i
  have hp : w64 (((i + 1 : Nat) : Int) + 1) = ((i + 1 + 1 : Nat) : Int) := by simp only [w64_eq]; omega
  by_cases hi2 : i < m
  ·
   have hlt : decide (((32 * i : Nat) : Int) < (n : Int)) = true := by simp; omega
   obtain ⟨O, hO⟩ : ∃ O, O = exO_n K I i := ⟨_, rfl⟩
   rw [← hO] at hol hos ⊢
   rcases i with _ | i
   ·
    have q := f49_n_obb K hK I [u8i ((1 : Nat) : Int)] hI (by decide : [u8i ((1 : Nat) : Int)].length < 10000000000000) fk fi true true
    rw [← exT_1_n] at q
    obtain ⟨T, hT⟩ : ∃ T, T = exT_n K I 1 := ⟨_, rfl⟩
    rw [← hT] at q
    have hTl : T.length = 32 := by rw [hT]; exact exT_len_n K I 0
    have hap : (O ++ T).map SV.u8 = List.take (32 * 0 * 1) (List.drop 0 (O.map SV.u8)) ++ List.take (32 * 1) (List.drop 0 (T.map SV.u8)) := by
     rw [List.drop_zero, List.drop_zero, List.take_of_length_le (l := O.map SV.u8) (by rw [List.length_map]; omega), List.take_of_length_le (l := T.map SV.u8) (by rw [List.length_map]; omega), List.map_append]
    conv => whnf
    first | refine brT (by exact hlt) ?_ | fail
    conv => whnf
    repeat (first | (refine Exists.intro _ (And.intro rfl ?_); conv => whnf) | fail)
    refine ok1_callF [0, 5, 1, 4] [false, false, false, false, true] false (q) rfl rfl ⟨⟨rfl, by first | rfl | fail⟩, by (repeat' (first | exact trivial | refine And.intro ?_ ?_)) <;> first | rfl | exact ren_eq (by first | (simp; done) | fail) (by first | rfl | fail) | fail, by first | simp [plainHf, plainB], by first | rfl | fail, ?_⟩
    conv => whnf
    repeat (first | (refine And.intro (by first | omega | (simp [ti5]; omega)) ?_; conv => whnf) | fail)
    refine ⟨⟨1, by omega⟩, by simp only; omega, ?_⟩
    dsimp only
    rw [hos]
    unfold exR_n exB_n
    dsimp only
    rw [← hT]
    refine Weak.sel [0, 1, 7, 6] rfl rfl ?_ ?_ rfl rfl
    ·
     (repeat' (first | exact trivial | refine And.intro ?_ ?_ | fail)) <;> first | exact wk_i (by first | exact hp | fail) | rfl | fail
    ·
     (repeat' (first | exact trivial | exact ren_eq (plainL_u8 _) hap | refine And.intro ?_ ?_ | fail)) <;> first | rfl | exact ren_eq (by first | (simp; done) | fail) (by first | rfl | fail) | fail
   ·
    obtain ⟨T0, hT0⟩ : ∃ T, T = exT_n K I (i + 1) := ⟨_, rfl⟩
    have htl0 := exT_len_n K I i
    rw [← hT0] at htl0
    have q := f49_n_bbb K hK T0 I [u8i ((i + 1 + 1 : Nat) : Int)] (by omega) hI (by simp) fk true fi true true
    rw [hT0, ← exT_s_n, ← hT0, htl0] at q
    obtain ⟨T, hT⟩ : ∃ T, T = exT_n K I (i + 1 + 1) := ⟨_, rfl⟩
    rw [← hT] at q
    have hTl : T.length = 32 := by rw [hT]; exact exT_len_n K I (i + 1)
    have hap : (O ++ T).map SV.u8 = List.take (32 * (i + 1) * 1) (List.drop 0 (O.map SV.u8)) ++ List.take (32 * 1) (List.drop 0 (T.map SV.u8)) := by
     rw [List.drop_zero, List.drop_zero, List.take_of_length_le (l := O.map SV.u8) (by rw [List.length_map]; omega), List.take_of_length_le (l := T.map SV.u8) (by rw [List.length_map]; omega), List.map_append]
    have hnx : 32 * (i + 1 + 1) = 32 * (i + 1) + 32 := by omega
    unfold exR_n exB_n
    dsimp only
    rw [← hT0]
    conv => whnf
    first | refine brT (by exact hlt) ?_ | fail
    conv => whnf
    repeat (first | (refine Exists.intro _ (And.intro rfl ?_); conv => whnf) | fail)
    refine ok1_callF [0, 5, 3, 1, 4] [false, false, false, false, false, true] false (q) rfl rfl ⟨⟨rfl, by first | rfl | fail⟩, by (repeat' (first | exact trivial | refine And.intro ?_ ?_)) <;> first | rfl | exact ren_eq (by first | (simp; done) | fail) (by first | rfl | fail) | fail, by first | simp [plainHf, plainB], by first | rfl | fail, ?_⟩
    conv => whnf
    repeat (first | (refine And.intro (by first | omega | (simp [ti5]; omega)) ?_; conv => whnf) | fail)
    refine ⟨⟨i + 1 + 1, by omega⟩, by simp only; omega, ?_⟩
    dsimp only
    rw [hos, ← hT]
    refine Weak.sel [0, 1, 7, 6] rfl rfl ?_ ?_ rfl rfl
    ·
     (repeat' (first | exact trivial | refine And.intro ?_ ?_ | fail)) <;> first | exact wk_i (by first | exact hp | exact hp.symm | fail) | rfl | fail
    ·
     (repeat' (first | exact trivial | exact ren_eq (plainL_u8 _) hap | refine And.intro ?_ ?_ | fail)) <;> first | rfl | exact ren_eq (by first | (simp; done) | fail) (by first | rfl | fail) | fail
  ·
   obtain rfl : i = m := by omega
   have hlt : decide (((32 * i : Nat) : Int) < (n : Int)) = false := by simp; omega
   rcases i with _ | i
   ·
    omega
   ·
    conv => whnf
    first | refine brF (by exact hlt) ?_ | fail
    conv => whnf
    repeat (first | (refine Exists.intro _ (And.intro rfl ?_); conv => whnf) | (refine And.intro (by first | omega | fail) ?_; conv => whnf) | fail)
    have hdd : decide (((n : Nat) : Int).toNat = ((n : Nat) : Int).toNat) = true := by simp
    rw [hdd, Int.toNat_natCast]
    refine ⟨[0, 1, 2], ?_, rfl, rfl, ?_, rfl⟩
    ·
     (repeat' (first | (refine wk_tup ?_) | (refine wk_cons ?_ ?_))) <;> first | rfl | fail
    ·
     (repeat' (first | exact trivial | refine And.intro ?_ ?_ | fail)) <;> first | rfl | exact ren_eq (by first | (simp; done) | fail) (by first | rfl | fail) | fail
end
section
end
end Go.Sh
namespace Go.Sh
open Go.Proofs
set_option maxHeartbeats 4000000
theorem sload_fst {xs ys : List SV} {n : Nat} (h : xs.length = n) : sload true n (xs ++ ys) 0 = some (.agg xs) := by
 subst h
 simp [sload]
theorem sload_snd {xs ys : List SV} {y : SV} {i : Nat} (h : xs.length = i) : sload false 1 (xs ++ y :: ys) i = some y := by
 subst h
 simp [sload]
theorem sput_fst {xs ys zs : List SV} (h : zs.length = xs.length) : sput (xs ++ ys) 0 (.agg zs) = zs ++ ys := by
 simp [sput, h]
theorem sput_snd {xs ys : List SV} {y z : SV} {i : Nat} (h : xs.length = i) (hz : z.atom = true) : sput (xs ++ y :: ys) i z = xs ++ z :: ys := by
 subst h
 cases z <;> first | (simp [sput]; done) | (cases hz; done)
attribute [local irreducible] mac_n
end Go.Sh
namespace Go.Sh
open Go.Proofs
set_option maxHeartbeats 4000000
theorem sload_cut {l r : List UInt8} {o n : Nat} (h : (l.drop o).take n = r) (hl : o + n ≤ l.length) : sload true n (l.map .u8) o = some (.agg (r.map .u8)) := by
 subst h
 simp only [sload, if_true, List.length_map]
 rw [if_pos hl, List.map_take, List.map_drop]
attribute [local irreducible] mac_n exO_n
end Go.Sh
namespace Go.Sh
def Pr (n : Nat) : Prop := 2 ≤ n ∧ ∀ d, d ∣ n → d = 1 ∨ d = n
theorem Pr.coprime {p a : Nat} (h : Pr p) (ha : ¬ p ∣ a) : Nat.gcd p a = 1 := by
 rcases h.2 (Nat.gcd p a) (Nat.gcd_dvd_left p a) with e | e
 ·
  exact e
 ·
  exact absurd (e ▸ Nat.gcd_dvd_right p a) ha
theorem Pr.dvd_mul {p a b : Nat} (h : Pr p) (hd : p ∣ a * b) : p ∣ a ∨ p ∣ b := by
 by_cases ha : p ∣ a
 ·
  exact .inl ha
 ·
  exact .inr (Nat.Coprime.dvd_of_dvd_mul_left (h.coprime ha) hd)
def ch : Nat → Nat → Nat
 | _, 0 => 1
 | 0, _ + 1 => 0
 | n + 1, k + 1 => ch n k + ch n (k + 1)
theorem ch_z (n : Nat) : ch n 0 = 1 := by cases n <;> rfl
theorem ch_s (n k : Nat) : ch (n + 1) (k + 1) = ch n k + ch n (k + 1) := rfl
theorem ch_mul : ∀ n k, (k + 1) * ch (n + 1) (k + 1) = (n + 1) * ch n k
 | 0, 0 => rfl
 | 0, k + 1 => by simp [ch]
 | n + 1, 0 => by
  have := ch_mul n 0
  rw [ch_z] at this
  rw [ch_s (n + 1) 0, ch_z]
  omega
 | n + 1, j + 1 => by
  have h1 := ch_mul n j
  have h2 := ch_mul n (j + 1)
  rw [ch_s (n + 1) (j + 1), ch_s n j] at *
  rw [Nat.mul_add, h2, show j + 1 + 1 = (j + 1) + 1 from rfl, Nat.add_mul, h1, Nat.add_mul (n + 1) 1, Nat.mul_add (n + 1)]
  omega
theorem ch_gt : ∀ n k, n < k → ch n k = 0
 | 0, _ + 1, _ => rfl
 | n + 1, k + 1, h => by rw [ch_s, ch_gt n k (by omega), ch_gt n (k + 1) (by omega)]
theorem ch_self : ∀ n, ch n n = 1
 | 0 => rfl
 | n + 1 => by rw [ch_s, ch_self n, ch_gt n (n + 1) (by omega)]
def bs (a n : Nat) : Nat → Nat
 | 0 => 0
 | m + 1 => bs a n m + ch n m * a ^ m
theorem bs_s (a n m : Nat) : bs a n (m + 1) = bs a n m + ch n m * a ^ m := rfl
theorem bs_step (a n : Nat) : ∀ m, bs a (n + 1) (m + 1) = a * bs a n m + bs a n (m + 1)
 | 0 => by simp [bs, ch_z]
 | m + 1 => by
  rw [bs_s a (n + 1) (m + 1), bs_step a n m, bs_s a n (m + 1), ch_s, bs_s a n m, Nat.mul_add, Nat.add_mul, Nat.pow_succ, Nat.mul_comm (a ^ m) a, ← Nat.mul_assoc (ch n m), Nat.mul_comm (ch n m) a, Nat.mul_assoc a]
  omega
theorem binom (a : Nat) : ∀ n, (a + 1) ^ n = bs a n (n + 1)
 | 0 => by simp [bs, ch]
 | n + 1 => by
  rw [bs_step a n (n + 1), bs_s a n (n + 1), ch_gt n (n + 1) (by omega), ← binom a n, Nat.pow_succ, Nat.mul_add, Nat.mul_comm a]
  omega
theorem dvd_ch {p : Nat} (h : Pr p) {k : Nat} (h0 : 0 < k) (hk : k < p) : p ∣ ch p k := by
 obtain ⟨j, rfl⟩ : ∃ j, k = j + 1 := ⟨k - 1, by omega⟩
 obtain ⟨n, rfl⟩ : ∃ n, p = n + 1 := ⟨p - 1, by omega⟩
 have := ch_mul n j
 rcases h.dvd_mul (a := j + 1) (b := ch (n + 1) (j + 1)) ⟨_, this⟩ with e | e
 ·
  exact absurd (Nat.le_of_dvd (by omega) e) (by omega)
 ·
  exact e
theorem bs_mod {p : Nat} (h : Pr p) (a : Nat) : ∀ m, m + 1 ≤ p → bs a p (m + 1) % p = 1 % p
 | 0, _ => by simp [bs, ch_z]
 | m + 1, hm => by
  rw [bs_s, Nat.add_mod, bs_mod h a m (by omega)]
  obtain ⟨c, hc⟩ := dvd_ch h (k := m + 1) (by omega) (by omega)
  rw [hc, Nat.mul_assoc, Nat.mul_mod_right]
  simp
theorem fermat0 {p : Nat} (h : Pr p) : ∀ a, a ^ p % p = a % p
 | 0 => by rw [Nat.zero_pow (by have := h.1; omega)]
 | a + 1 => by
  have h2 := h.1
  rw [binom, bs_s, ch_self, Nat.one_mul]
  have hb := bs_mod h a (p - 1) (by omega)
  rw [show p - 1 + 1 = p by omega] at hb
  rw [Nat.add_mod, hb, fermat0 h a, ← Nat.add_mod, Nat.add_comm]
theorem mod_sub {p x y : Nat} (h : x % p = y % p) (hle : y ≤ x) : p ∣ x - y := by
 have h1 := Nat.div_add_mod x p
 have h2 := Nat.div_add_mod y p
 refine ⟨x / p - y / p, ?_⟩
 rw [Nat.mul_sub]; omega
theorem fermat {p : Nat} (h : Pr p) {a : Nat} (ha : ¬ p ∣ a) : a ^ (p - 1) % p = 1 := by
 have h2 := h.1
 have h0 := fermat0 h a
 have ha0 : 0 < a := by
  rcases Nat.eq_zero_or_pos a with e | e
  ·
   exact absurd (e ▸ Nat.dvd_zero p) ha
  ·
   exact e
 have e1 : a ^ p = a * a ^ (p - 1) := by rw [← Nat.pow_succ']; congr 1; omega
 have hp : 1 ≤ a ^ (p - 1) := Nat.pow_pos ha0
 have hd : p ∣ a * a ^ (p - 1) - a := mod_sub (by rw [← e1]; exact h0) (Nat.le_mul_of_pos_right a hp)
 rw [show a * a ^ (p - 1) - a = a * (a ^ (p - 1) - 1) by rw [Nat.mul_sub, Nat.mul_one]] at hd
 rcases h.dvd_mul hd with e | ⟨c, hc⟩
 ·
  exact absurd e ha
 ·
  rw [show a ^ (p - 1) = p * c + 1 by omega, Nat.mul_add_mod]
  exact Nat.mod_eq_of_lt (by omega)
theorem has_prime : ∀ n, 2 ≤ n → ∃ r, Pr r ∧ r ∣ n := by
 intro n
 induction n using Nat.strongRecOn with
 | _ n ih =>
  intro h
  by_cases hp : Pr n
  ·
   exact ⟨n, hp, Nat.dvd_refl n⟩
  ·
   have : ∃ d, d ∣ n ∧ d ≠ 1 ∧ d ≠ n := by
    by_cases hx : ∃ d, d ∣ n ∧ d ≠ 1 ∧ d ≠ n
    ·
     exact hx
    ·
     refine absurd ⟨h, fun d hd => ?_⟩ hp
     by_cases h1 : d = 1
     ·
      exact .inl h1
     ·
      by_cases h2 : d = n
      ·
       exact .inr h2
      ·
       exact absurd ⟨d, hd, h1, h2⟩ hx
   obtain ⟨d, hd, h1, h2⟩ := this
   have hle := Nat.le_of_dvd (by omega) hd
   have h0 : d ≠ 0 := by rintro rfl; obtain ⟨c, hc⟩ := hd; omega
   obtain ⟨r, hr, hrd⟩ := ih d (by omega) (by omega)
   exact ⟨r, hr, Nat.dvd_trans hrd hd⟩
theorem prime_of {n : Nat} (h : 2 ≤ n) (hr : ∀ r, Pr r → r ∣ n → n < r * r) : Pr n := by
 refine ⟨h, fun d hd => ?_⟩
 by_cases h1 : d = 1
 ·
  exact .inl h1
 ·
  by_cases h2 : d = n
  ·
   exact .inr h2
  ·
   obtain ⟨e, he⟩ := hd
   have hd0 : d ≠ 0 := by rintro rfl; omega
   have he0 : e ≠ 0 := by rintro rfl; omega
   have he1 : e ≠ 1 := by rintro rfl; omega
   obtain ⟨r, hr1, hr2⟩ := has_prime d (by omega)
   obtain ⟨s, hs1, hs2⟩ := has_prime e (by omega)
   have ha := hr r hr1 (Nat.dvd_trans hr2 ⟨e, he⟩)
   have hb := hr s hs1 (Nat.dvd_trans hs2 ⟨d, by rw [he, Nat.mul_comm]⟩)
   have hrd := Nat.le_of_dvd (by omega) hr2
   have hse := Nat.le_of_dvd (by omega) hs2
   rcases Nat.le_total d e with hde | hde
   ·
    have : r * r ≤ d * e := Nat.mul_le_mul hrd (by omega)
    omega
   ·
    have : s * s ≤ d * e := Nat.mul_le_mul (by omega) hse
    omega
theorem pow_gcd {r b : Nat} : ∀ x y : Nat, b ^ x % r = 1 → b ^ y % r = 1 → b ^ Nat.gcd x y % r = 1 := by
 intro x y
 induction x, y using Nat.gcd.induction with
 | H0 y => intro _ h; simpa using h
 | H1 x y hx ih =>
  intro h1 h2
  rw [Nat.gcd_rec]
  refine ih ?_ h1
  have hy : y = x * (y / x) + y % x := (Nat.div_add_mod y x).symm
  rw [hy, Nat.pow_add, Nat.pow_mul, Nat.mul_mod, Nat.pow_mod, h1, Nat.one_pow] at h2
  by_cases hr : r = 1
  ·
   subst hr; omega
  ·
   by_cases hr0 : r = 0
   ·
    subst hr0; simpa using h2
   ·
    rw [Nat.mod_eq_of_lt (show 1 < r by omega), Nat.one_mul, Nat.mod_mod] at h2
    exact h2
theorem pock {n q R a K : Nat} (hq : Pr q) (hn : n = R * q + 1) (h0 : 0 < R) (h1 : a ^ (n - 1) % n = 1) (h2 : Nat.gcd (a ^ R % n + n - 1) n = 1) (hK : n < (q * (K + 1) + 1) * (q * (K + 1) + 1)) (hk : ∀ k, k < K → n % (q * (k + 1) + 1) ≠ 0) : Pr n := by
 have hq2 := hq.1
 have hRq : 0 < R * q := Nat.mul_pos h0 (by omega)
 refine prime_of (by omega) fun r hr hrn => ?_
 have hr2 := hr.1
 have hb : (a ^ R) ^ q % r = 1 := by
  rw [← Nat.pow_mul, ← Nat.mod_mod_of_dvd _ hrn, show R * q = n - 1 by omega, h1]
  exact Nat.mod_eq_of_lt (by omega)
 have hb1 : a ^ R % r ≠ 1 := by
  intro e
  have hd : r ∣ a ^ R % n + n - 1 := by
   apply Nat.dvd_of_mod_eq_zero
   have e1 : (a ^ R % n) % r = 1 := by rw [Nat.mod_mod_of_dvd _ hrn]; exact e
   obtain ⟨c, hc⟩ := hrn
   have e2 : a ^ R % n = r * (a ^ R % n / r) + 1 := by have := Nat.div_add_mod (a ^ R % n) r; omega
   rw [e2, show r * (a ^ R % n / r) + 1 + n - 1 = r * (a ^ R % n / r) + n by omega, Nat.mul_add_mod, hc, Nat.mul_mod_right]
  have := Nat.dvd_gcd hd hrn
  rw [h2] at this
  have := Nat.le_of_dvd (by omega) this
  omega
 have hnd : ¬ r ∣ a ^ R := by
  intro e
  have : (a ^ R) ^ q % r = 0 := by
   rw [Nat.pow_mod, Nat.mod_eq_zero_of_dvd e, Nat.zero_pow (by omega)]; simp
  omega
 have hf := fermat hr hnd
 have hg := pow_gcd q (r - 1) hb hf
 have hqr : q ∣ r - 1 := by
  rcases hq.2 _ (Nat.gcd_dvd_left q (r - 1)) with e | e
  ·
   rw [e, Nat.pow_one] at hg; exact absurd hg hb1
  ·
   exact e ▸ Nat.gcd_dvd_right q (r - 1)
 obtain ⟨k, hk1⟩ := hqr
 have hk0 : k ≠ 0 := by rintro rfl; omega
 have hre : r = q * k + 1 := by omega
 by_cases hkK : k ≤ K
 ·
  have := hk (k - 1) (by omega)
  rw [show k - 1 + 1 = k by omega, ← hre] at this
  exact absurd (Nat.mod_eq_zero_of_dvd hrn) this
 ·
  have h3 : q * (K + 1) ≤ q * k := Nat.mul_le_mul_left q (by omega)
  have h4 : (q * (K + 1) + 1) * (q * (K + 1) + 1) ≤ r * r := Nat.mul_le_mul (by omega) (by omega)
  omega
def pm (m : Nat) : Nat → Nat → Nat → Nat
 | 0, _, _ => 1 % m
 | f + 1, a, e => match Nat.beq (e % 2) 1 with
  | true => a * pm m f (a * a % m) (e / 2) % m
  | false => pm m f (a * a % m) (e / 2)
theorem pm_eq (m : Nat) : ∀ f a e, e < 2 ^ f → pm m f a e = a ^ e % m
 | 0, a, e, h => by
  obtain rfl : e = 0 := by simpa using h
  simp [pm]
 | f + 1, a, e, h => by
  have hs : e / 2 < 2 ^ f := by rw [Nat.pow_succ] at h; omega
  have ih := pm_eq m f (a * a % m) (e / 2) hs
  rw [← Nat.pow_mod, ← Nat.pow_two, ← Nat.pow_mul, Nat.pow_two] at ih
  simp only [pm]
  split
  ·
   rename_i hb
   have hb := Nat.eq_of_beq_eq_true hb
   rw [ih, Nat.mul_mod, Nat.mod_mod, ← Nat.mul_mod, ← Nat.pow_succ']
   congr 2; omega
  ·
   rename_i hb
   have hb : e % 2 ≠ 1 := Nat.ne_of_beq_eq_false hb
   rw [ih]
   congr 2; omega
def noDiv (n : Nat) : Nat → Bool
 | 0 => true
 | k + 1 => match Nat.beq (n % (k + 2)) 0 with
  | true => false
  | false => noDiv n k
theorem noDiv_eq {n : Nat} : ∀ {k}, noDiv n k = true → ∀ d, 2 ≤ d → d < k + 2 → n % d ≠ 0
 | 0, _, d, h1, h2 => by omega
 | k + 1, h, d, h1, h2 => by
  simp only [noDiv] at h
  split at h
  ·
   cases h
  ·
   rename_i hb
   by_cases hd : d = k + 2
   ·
    subst hd; exact Nat.ne_of_beq_eq_false hb
   ·
    exact noDiv_eq h d h1 (by omega)
theorem pr0 : Pr 8574133 := by
 refine prime_of (by decide) fun r hr hd => ?_
 have h := noDiv_eq (n := 8574133) (k := 2930) (by decide +kernel) r hr.1
 by_cases hlt : r < 2932
 ·
  exact absurd (Nat.mod_eq_zero_of_dvd hd) (h hlt)
 ·
  exact Nat.lt_of_lt_of_le (show 8574133 < 2932 * 2932 by decide) (Nat.mul_le_mul (by omega) (by omega))
theorem tst {n R a f : Nat} (hR : R < 2 ^ f) (hn : n - 1 < 2 ^ f) (h1 : pm n f a (n - 1) = 1) (h2 : Nat.gcd (pm n f a R + n - 1) n = 1) : a ^ (n - 1) % n = 1 ∧ Nat.gcd (a ^ R % n + n - 1) n = 1 := by
 rw [pm_eq n f a _ hn] at h1
 rw [pm_eq n f a _ hR] at h2
 exact ⟨h1, h2⟩
theorem pockT {n q R a K f : Nat} (hq : Pr q) (hn : n = R * q + 1) (h0 : 0 < R) (hR : R < 2 ^ f) (hn2 : n - 1 < 2 ^ f) (h1 : pm n f a (n - 1) = 1) (h2 : Nat.gcd (pm n f a R + n - 1) n = 1) (hK : n < (q * (K + 1) + 1) * (q * (K + 1) + 1)) (hk : ∀ k, k < K → n % (q * (k + 1) + 1) ≠ 0) : Pr n :=
 have h := tst hR hn2 h1 h2
 pock hq hn h0 h.1 h.2 hK hk
theorem pr1 : Pr 1919519569386763 :=
 pockT (R := (1919519569386763 - 1) / 8574133) (a := 2) (f := 60) (K := 6) pr0 (by decide +kernel) (by decide +kernel) (by decide +kernel) (by decide +kernel) (by decide +kernel) (by decide +kernel) (by decide +kernel) (by decide +kernel)
theorem pr2 : Pr 75445702479781427272750846543864801 :=
 pockT (R := (75445702479781427272750846543864801 - 1) / 1919519569386763) (a := 2) (f := 130) (K := 150) pr1 (by decide +kernel) (by decide +kernel) (by decide +kernel) (by decide +kernel) (by decide +kernel) (by decide +kernel) (by decide +kernel) (by decide +kernel)
theorem pr3 : Pr 74058212732561358302231226437062788676166966415465897661863160754340907 :=
 pockT (R := (74058212732561358302231226437062788676166966415465897661863160754340907 - 1) / 75445702479781427272750846543864801) (a := 2) (f := 240) (K := 5) pr2 (by decide +kernel) (by decide +kernel) (by decide +kernel) (by decide +kernel) (by decide +kernel) (by decide +kernel) (by decide +kernel) (by decide +kernel)
def P25519 : Nat := 57896044618658097711785492504343953926634992332820282019728792003956564819949
theorem pr4 : Pr P25519 :=
 pockT (R := (P25519 - 1) / 74058212732561358302231226437062788676166966415465897661863160754340907) (a := 2) (f := 256) (K := 0) pr3 (by decide +kernel) (by decide +kernel) (by decide +kernel) (by decide +kernel) (by decide +kernel) (by decide +kernel) (by decide +kernel) (by decide +kernel)
theorem inv_mul {x : Nat} (h : x % P25519 ≠ 0) : x * x ^ (P25519 - 2) % P25519 = 1 := by
 rw [← Nat.pow_succ', show (P25519 - 2).succ = P25519 - 1 by decide +kernel]
 exact fermat pr4 (fun hd => h (Nat.mod_eq_zero_of_dvd hd))
end Go.Sh
namespace Go.Sh
set_option maxHeartbeats 4000000
theorem shr_i64 {a : UInt64} {n : Int} {m : Nat} (h : n = (m : Int)) : snum .shr (.u64 a) (.i n) = some (.u64 (shr64 a m)) := by
 subst h; simp [snum, cnt, sshr]
theorem shl_i64 {a : UInt64} {n : Int} {m : Nat} (h : n = (m : Int)) : snum .shl (.u64 a) (.i n) = some (.u64 (shl64 a m)) := by
 subst h; simp [snum, cnt, sshl]
theorem shr_n (x : UInt64) (n : Nat) (h : n < 64) : (shr64 x n).toNat = x.toNat / 2 ^ n := by
 unfold shr64
 rw [if_pos h, UInt64.toNat_shiftRight, UInt64.toNat_ofNat', show n % 2 ^ 64 % 64 = n by omega, Nat.shiftRight_eq_div_pow]
theorem shl_n (x : UInt64) (n : Nat) (h : n < 64) : (shl64 x n).toNat = x.toNat * 2 ^ n % 2 ^ 64 := by
 unfold shl64
 rw [if_pos h, UInt64.toNat_shiftLeft, UInt64.toNat_ofNat', show n % 2 ^ 64 % 64 = n by omega, Nat.shiftLeft_eq]
theorem msk_n (x : UInt64) : (x &&& 2251799813685247).toNat = x.toNat % 2251799813685248 := by
 rw [UInt64.toNat_and]
 exact Nat.and_two_pow_sub_one_eq_mod x.toNat 51
theorem add_n (x y : UInt64) (h : x.toNat + y.toNat < 18446744073709551616) : (x + y).toNat = x.toNat + y.toNat := by
 rw [UInt64.toNat_add]; exact Nat.mod_eq_of_lt h
theorem mul_n (x y : UInt64) (h : x.toNat * y.toNat < 18446744073709551616) : (x * y).toNat = x.toNat * y.toNat := by
 rw [UInt64.toNat_mul]; exact Nat.mod_eq_of_lt h
theorem sub_n (x y : UInt64) (h : y.toNat ≤ x.toNat) : (x - y).toNat = x.toNat - y.toNat := UInt64.toNat_sub_of_le _ _ h
def nv (l : List UInt64) : Nat := (l.getD 0 0).toNat + 2251799813685248 * (l.getD 1 0).toNat + 5070602400912917605986812821504 * (l.getD 2 0).toNat + 11417981541647679048466287755595961091061972992 * (l.getD 3 0).toNat + 25711008708143844408671393477458601640355247900524685364822016 * (l.getD 4 0).toNat
theorem nv_5 (a b c d e : UInt64) : nv [a, b, c, d, e] = a.toNat + 2251799813685248 * b.toNat + 5070602400912917605986812821504 * c.toNat + 11417981541647679048466287755595961091061972992 * d.toNat + 25711008708143844408671393477458601640355247900524685364822016 * e.toNat := rfl
def Nm (l : List UInt64) : Prop := l.length = 5 ∧ ∀ x ∈ l, x.toNat < 4503599627370496
def cI (l : List UInt64) : Nat → UInt64
 | 0 => 0
 | i + 1 => shr64 (l.getD i 0 + cI l i) 51
def mI (l : List UInt64) (i : Nat) : UInt64 := (l.getD i 0 + cI l i) &&& 2251799813685247
def car1 (l : List UInt64) : List UInt64 := [mI l 0 + 19 * cI l 5, mI l 1, mI l 2, mI l 3, mI l 4]
def carL (l : List UInt64) : List UInt64 := car1 (car1 l)
theorem ex5 {α : Type} {l : List α} (h : l.length = 5) : ∃ a b c d e, l = [a, b, c, d, e] := by
 match l, h with
 | [a, b, c, d, e], _ => exact ⟨a, b, c, d, e, rfl⟩
theorem cs1 (x c : UInt64) (hx : x.toNat < 9223372036854775808) (hc : c.toNat < 8192) : (shr64 (x + c) 51).toNat = (x.toNat + c.toNat) / 2251799813685248 ∧ ((x + c) &&& 2251799813685247).toNat = (x.toNat + c.toNat) % 2251799813685248 := by
 have h := add_n x c (by omega)
 rw [shr_n _ _ (by decide), msk_n, h]
 exact ⟨rfl, rfl⟩
theorem car1_val {a b c d e : UInt64} (ha : a.toNat < 9223372036854775808) (hb : b.toNat < 9223372036854775808) (hc : c.toNat < 9223372036854775808) (hd : d.toNat < 9223372036854775808) (he : e.toNat < 9223372036854775808) :
  ∃ m0 m1 m2 m3 m4 : UInt64, ∃ q : Nat, car1 [a, b, c, d, e] = [m0, m1, m2, m3, m4] ∧ nv [a, b, c, d, e] = nv [m0, m1, m2, m3, m4] + q * P25519 ∧ q ≤ (e.toNat + 8191) / 2251799813685248 ∧
   m0.toNat < 2251799813685248 + 19 * q ∧ m1.toNat < 2251799813685248 ∧ m2.toNat < 2251799813685248 ∧ m3.toNat < 2251799813685248 ∧ m4.toNat < 2251799813685248 ∧
   (b.toNat < 2251799813685248 → c.toNat < 2251799813685248 → d.toNat < 2251799813685248 → e.toNat < 2251799813685248 → a.toNat < 4503599627370496 → q ≤ 1) := by
 obtain ⟨c1, h1⟩ : ∃ c1, c1 = cI [a, b, c, d, e] 1 := ⟨_, rfl⟩
 obtain ⟨c2, h2⟩ : ∃ c2, c2 = cI [a, b, c, d, e] 2 := ⟨_, rfl⟩
 obtain ⟨c3, h3⟩ : ∃ c3, c3 = cI [a, b, c, d, e] 3 := ⟨_, rfl⟩
 obtain ⟨c4, h4⟩ : ∃ c4, c4 = cI [a, b, c, d, e] 4 := ⟨_, rfl⟩
 obtain ⟨c5, h5⟩ : ∃ c5, c5 = cI [a, b, c, d, e] 5 := ⟨_, rfl⟩
 have e1 : c1 = shr64 (a + 0) 51 := h1
 have e2 : c2 = shr64 (b + c1) 51 := by rw [h1]; exact h2
 have e3 : c3 = shr64 (c + c2) 51 := by rw [h2]; exact h3
 have e4 : c4 = shr64 (d + c3) 51 := by rw [h3]; exact h4
 have e5 : c5 = shr64 (e + c4) 51 := by rw [h4]; exact h5
 obtain ⟨q1, r1⟩ := cs1 a 0 ha (by decide)
 rw [← e1] at q1
 rw [show (0 : UInt64).toNat = 0 from rfl] at q1 r1
 obtain ⟨q2, r2⟩ := cs1 b c1 hb (by omega)
 rw [← e2] at q2
 obtain ⟨q3, r3⟩ := cs1 c c2 hc (by omega)
 rw [← e3] at q3
 obtain ⟨q4, r4⟩ := cs1 d c3 hd (by omega)
 rw [← e4] at q4
 obtain ⟨q5, r5⟩ := cs1 e c4 he (by omega)
 rw [← e5] at q5
 have hm : (19 * c5).toNat = 19 * c5.toNat := mul_n 19 c5 (by show 19 * c5.toNat < _; omega)
 have hz : (((a + 0) &&& 2251799813685247) + 19 * c5).toNat = a.toNat % 2251799813685248 + 19 * c5.toNat := by
  rw [add_n _ _ (by omega), r1, hm, Nat.add_zero]
 refine ⟨((a + 0) &&& 2251799813685247) + 19 * c5, (b + c1) &&& 2251799813685247, (c + c2) &&& 2251799813685247, (d + c3) &&& 2251799813685247, (e + c4) &&& 2251799813685247, c5.toNat, ?_, ?_, ?_, ?_, ?_, ?_, ?_, ?_, ?_⟩
 ·
  rw [h1, h2, h3, h4, h5]; rfl
 ·
  rw [nv_5, nv_5, hz, r2, r3, r4, r5]
  unfold P25519
  omega
 all_goals omega
theorem carL_ok {l : List UInt64} (h : l.length = 5) (hb : ∀ x ∈ l, x.toNat < 9223372036854775808) : Nm (carL l) ∧ nv (carL l) % P25519 = nv l % P25519 := by
 obtain ⟨a, b, c, d, e, rfl⟩ := ex5 h
 simp only [List.mem_cons, List.not_mem_nil, or_false, forall_eq_or_imp, forall_eq] at hb
 obtain ⟨ha, hb, hc, hd, he⟩ := hb
 obtain ⟨m0, m1, m2, m3, m4, q, e1, n1, hq, b0, b1, b2, b3, b4, _⟩ := car1_val ha hb hc hd he
 obtain ⟨k0, k1, k2, k3, k4, q2, e2, n2, hq2, d0, d1, d2, d3, d4, hle⟩ := car1_val (a := m0) (b := m1) (c := m2) (d := m3) (e := m4) (by omega) (by omega) (by omega) (by omega) (by omega)
 have hle := hle b1 b2 b3 b4 (by omega)
 have ec : carL [a, b, c, d, e] = [k0, k1, k2, k3, k4] := by unfold carL; rw [e1, e2]
 rw [ec]
 refine ⟨⟨rfl, ?_⟩, ?_⟩
 ·
  simp only [List.mem_cons, List.not_mem_nil, or_false, forall_eq_or_imp, forall_eq]
  refine ⟨?_, ?_, ?_, ?_, ?_⟩ <;> omega
 ·
  rw [n1, n2, Nat.add_mul_mod_self_right, Nat.add_mul_mod_self_right]
theorem carL_len (l : List UInt64) : (carL l).length = 5 := rfl
theorem Nm.b {a b c d e : UInt64} (h : Nm [a, b, c, d, e]) : a.toNat < 4503599627370496 ∧ b.toNat < 4503599627370496 ∧ c.toNat < 4503599627370496 ∧ d.toNat < 4503599627370496 ∧ e.toNat < 4503599627370496 := by
 have := h.2
 simpa only [List.mem_cons, List.not_mem_nil, or_false, forall_eq_or_imp, forall_eq] using this
def nr (l : List UInt64) : Nat := nv l % P25519
def addL (x y : List UInt64) : List UInt64 := carL [x.getD 0 0 + y.getD 0 0, x.getD 1 0 + y.getD 1 0, x.getD 2 0 + y.getD 2 0, x.getD 3 0 + y.getD 3 0, x.getD 4 0 + y.getD 4 0]
theorem addL_ok {x y : List UInt64} (hx : Nm x) (hy : Nm y) : Nm (addL x y) ∧ nr (addL x y) = (nr x + nr y) % P25519 := by
 obtain ⟨a, b, c, d, e, rfl⟩ := ex5 hx.1
 obtain ⟨a2, b2, c2, d2, e2, rfl⟩ := ex5 hy.1
 obtain ⟨h1, h2, h3, h4, h5⟩ := hx.b
 obtain ⟨g1, g2, g3, g4, g5⟩ := hy.b
 have n1 := add_n a a2 (by omega)
 have n2 := add_n b b2 (by omega)
 have n3 := add_n c c2 (by omega)
 have n4 := add_n d d2 (by omega)
 have n5 := add_n e e2 (by omega)
 have := carL_ok (l := [a + a2, b + b2, c + c2, d + d2, e + e2]) rfl (by
  simp only [List.mem_cons, List.not_mem_nil, or_false, forall_eq_or_imp, forall_eq]
  refine ⟨?_, ?_, ?_, ?_, ?_⟩ <;> omega)
 refine ⟨this.1, ?_⟩
 have e1 : nr (addL [a, b, c, d, e] [a2, b2, c2, d2, e2]) = nv [a + a2, b + b2, c + c2, d + d2, e + e2] % P25519 := this.2
 rw [e1]
 unfold nr
 rw [← Nat.add_mod, nv_5, nv_5, nv_5, n1, n2, n3, n4, n5]
 congr 1; omega
def subL (x y : List UInt64) : List UInt64 := carL [x.getD 0 0 + (9007199254740988 - y.getD 0 0) - 72, x.getD 1 0 + (9007199254740988 - y.getD 1 0), x.getD 2 0 + (9007199254740988 - y.getD 2 0), x.getD 3 0 + (9007199254740988 - y.getD 3 0), x.getD 4 0 + (9007199254740988 - y.getD 4 0)]
theorem sb1 (x y : UInt64) (hx : x.toNat < 4503599627370496) (hy : y.toNat < 4503599627370496) : (x + (9007199254740988 - y)).toNat = x.toNat + 9007199254740988 - y.toNat := by
 have h1 : (9007199254740988 - y).toNat = 9007199254740988 - y.toNat := sub_n _ _ (by show _ ≤ 9007199254740988; omega)
 rw [add_n _ _ (by omega), h1]; omega
theorem mod_lt_P (n : Nat) : n % P25519 < P25519 := Nat.mod_lt _ (by decide)
theorem subL_ok {x y : List UInt64} (hx : Nm x) (hy : Nm y) : Nm (subL x y) ∧ nr (subL x y) = (nr x + (P25519 - nr y)) % P25519 := by
 obtain ⟨a, b, c, d, e, rfl⟩ := ex5 hx.1
 obtain ⟨a2, b2, c2, d2, e2, rfl⟩ := ex5 hy.1
 obtain ⟨h1, h2, h3, h4, h5⟩ := hx.b
 obtain ⟨g1, g2, g3, g4, g5⟩ := hy.b
 have n1 := sb1 a a2 (by omega) (by omega)
 have n2 := sb1 b b2 (by omega) (by omega)
 have n3 := sb1 c c2 (by omega) (by omega)
 have n4 := sb1 d d2 (by omega) (by omega)
 have n5 := sb1 e e2 (by omega) (by omega)
 have n6 : (a + (9007199254740988 - a2) - 72).toNat = a.toNat + 9007199254740988 - a2.toNat - 72 := by
  rw [sub_n _ _ (by rw [n1]; show 72 ≤ _; omega), n1]; rfl
 have := carL_ok (l := [a + (9007199254740988 - a2) - 72, b + (9007199254740988 - b2), c + (9007199254740988 - c2), d + (9007199254740988 - d2), e + (9007199254740988 - e2)]) rfl (by
  simp only [List.mem_cons, List.not_mem_nil, or_false, forall_eq_or_imp, forall_eq]
  refine ⟨?_, ?_, ?_, ?_, ?_⟩ <;> omega)
 refine ⟨this.1, ?_⟩
 have e1 : nr (subL [a, b, c, d, e] [a2, b2, c2, d2, e2]) = nv [a + (9007199254740988 - a2) - 72, b + (9007199254740988 - b2), c + (9007199254740988 - c2), d + (9007199254740988 - d2), e + (9007199254740988 - e2)] % P25519 := this.2
 rw [e1]
 have e3 : nv [a + (9007199254740988 - a2) - 72, b + (9007199254740988 - b2), c + (9007199254740988 - c2), d + (9007199254740988 - d2), e + (9007199254740988 - e2)] + nv [a2, b2, c2, d2, e2] = nv [a, b, c, d, e] + 4 * P25519 := by
  rw [nv_5, nv_5, nv_5, n6, n2, n3, n4, n5]; unfold P25519; omega
 generalize nv [a + (9007199254740988 - a2) - 72, b + (9007199254740988 - b2), c + (9007199254740988 - c2), d + (9007199254740988 - d2), e + (9007199254740988 - e2)] = z at e3 ⊢
 unfold nr
 generalize nv [a, b, c, d, e] = x at e3 ⊢
 generalize nv [a2, b2, c2, d2, e2] = y at e3 ⊢
 unfold P25519 at *
 omega
def cy (x y : UInt64) : UInt64 := UInt64.ofNat ((x.toNat + y.toNat) / 18446744073709551616)
def mhi (x y : UInt64) : UInt64 := UInt64.ofNat (x.toNat * y.toNat / 18446744073709551616)
def yw (y : List UInt64) (i k : Nat) : UInt64 := if i ≤ k then y.getD (k - i) 0 else y.getD (k + 5 - i) 0 * 19
def lo (x y : List UInt64) : Nat → Nat → UInt64
 | 0, _ => 0
 | i + 1, k => lo x y i k + x.getD i 0 * yw y i k
def hi (x y : List UInt64) : Nat → Nat → UInt64
 | 0, _ => 0
 | i + 1, k => hi x y i k + mhi (x.getD i 0) (yw y i k) + cy (lo x y i k) (x.getD i 0 * yw y i k)
def col (x y : List UInt64) : Nat → Nat → Nat
 | 0, _ => 0
 | i + 1, k => col x y i k + (x.getD i 0).toNat * (yw y i k).toNat
theorem cy_n (x y : UInt64) : (cy x y).toNat = (x.toNat + y.toNat) / 18446744073709551616 := by
 have h1 := UInt64.toNat_lt x
 have h2 := UInt64.toNat_lt y
 unfold cy; rw [UInt64.toNat_ofNat', Nat.mod_eq_of_lt]; omega
theorem mhi_n (x y : UInt64) : (mhi x y).toNat = x.toNat * y.toNat / 18446744073709551616 := by
 have h1 := UInt64.toNat_lt x
 have h2 := UInt64.toNat_lt y
 have : x.toNat * y.toNat < 18446744073709551616 * 18446744073709551616 := Nat.mul_lt_mul'' h1 h2
 unfold mhi; rw [UInt64.toNat_ofNat', Nat.mod_eq_of_lt]; omega
theorem hilo (x y : List UInt64) (k M : Nat) (hM : ∀ i, i < 5 → (x.getD i 0).toNat * (yw y i k).toNat < M) (hM2 : M ≤ 649037107316853453566312041152512) : ∀ i, i ≤ 5 → (hi x y i k).toNat * 18446744073709551616 + (lo x y i k).toNat = col x y i k ∧ col x y i k ≤ i * M
 | 0, _ => by simp [hi, lo, col]
 | i + 1, h => by
  obtain ⟨ih, ihb⟩ := hilo x y k M hM hM2 i (by omega)
  have hm := hM i (by omega)
  show (hi x y i k + mhi (x.getD i 0) (yw y i k) + cy (lo x y i k) (x.getD i 0 * yw y i k)).toNat * _ + (lo x y i k + x.getD i 0 * yw y i k).toNat = col x y i k + _ ∧ col x y i k + _ ≤ _
  generalize x.getD i 0 = a at *
  generalize yw y i k = b at *
  generalize hi x y i k = H at *
  generalize lo x y i k = L at *
  generalize col x y i k = C at *
  have h1 := mhi_n a b
  have h2 := cy_n L (a * b)
  have h3 : (a * b).toNat = a.toNat * b.toNat % 18446744073709551616 := UInt64.toNat_mul ..
  have hL := UInt64.toNat_lt L
  have h4 : (L + a * b).toNat = (L.toNat + (a * b).toNat) % 18446744073709551616 := UInt64.toNat_add ..
  generalize a.toNat * b.toNat = p at *
  have hiM : i * M ≤ 4 * M := Nat.mul_le_mul_right M (by omega)
  have h5 : (H + mhi a b).toNat = H.toNat + (mhi a b).toNat := add_n _ _ (by omega)
  have h6 : (H + mhi a b + cy L (a * b)).toNat = H.toNat + (mhi a b).toNat + (cy L (a * b)).toNat := by rw [add_n _ _ (by omega), h5]
  rw [h6, h4, Nat.add_mul i 1 M]
  omega
def cO (x y : List UInt64) : Nat → UInt64
 | 0 => 0
 | k + 1 => shl64 (hi x y 5 k + cy (lo x y 5 k) (cO x y k)) 13 ||| shr64 (lo x y 5 k + cO x y k) 51
def oO (x y : List UInt64) (k : Nat) : UInt64 := (lo x y 5 k + cO x y k) &&& 2251799813685247
def mulL (x y : List UInt64) : List UInt64 := carL [oO x y 0 + 19 * cO x y 5, oO x y 1, oO x y 2, oO x y 3, oO x y 4]
theorem shl_or_shr (h l : UInt64) (hh : h.toNat < 2251799813685248) : (shl64 h 13 ||| shr64 l 51).toNat = h.toNat * 8192 + l.toNat / 2251799813685248 := by
 have hl := UInt64.toNat_lt l
 rw [UInt64.toNat_or, shl_n _ _ (by decide), shr_n _ _ (by decide), Nat.mod_eq_of_lt (by omega), Nat.mul_comm]
 rw [← Nat.two_pow_add_eq_or_of_lt (show l.toNat / 2 ^ 51 < 2 ^ 13 by omega)]
theorem out1 {H L c : UInt64} {C : Nat} (h : H.toNat * 18446744073709551616 + L.toNat = C) (hC : C ≤ 4000000000000000000000000000000000) (hc : c.toNat < 9223372036854775808) :
  (shl64 (H + cy L c) 13 ||| shr64 (L + c) 51).toNat = (C + c.toNat) / 2251799813685248 ∧ ((L + c) &&& 2251799813685247).toNat = (C + c.toNat) % 2251799813685248 := by
 have hL := UInt64.toNat_lt L
 have h2 := cy_n L c
 have h4 : (L + c).toNat = (L.toNat + c.toNat) % 18446744073709551616 := UInt64.toNat_add ..
 have h5 : (H + cy L c).toNat = H.toNat + (cy L c).toNat := add_n _ _ (by omega)
 rw [shl_or_shr _ _ (by omega), msk_n, h4, h5]
 omega
theorem mulId (s P a b c d e f g h i j : Nat) (hP : P + 19 = s * s * s * s * s) :
  (a * f + b * (j * 19) + c * (i * 19) + d * (h * 19) + e * (g * 19)) + s * (a * g + b * f + c * (j * 19) + d * (i * 19) + e * (h * 19)) + s * s * (a * h + b * g + c * f + d * (j * 19) + e * (i * 19)) + s * s * s * (a * i + b * h + c * g + d * f + e * (j * 19)) + s * s * s * s * (a * j + b * i + c * h + d * g + e * f)
   + (b * j + c * i + d * h + e * g + s * (c * j + d * i + e * h) + s * s * (d * j + e * i) + s * s * s * (e * j)) * P
  = (a + s * b + s * s * c + s * s * s * d + s * s * s * s * e) * (f + s * g + s * s * h + s * s * s * i + s * s * s * s * j) := by
  grind
theorem mulL_ok {x y : List UInt64} (hx : Nm x) (hy : Nm y) : Nm (mulL x y) ∧ nr (mulL x y) = nr x * nr y % P25519 := by
 obtain ⟨a, b, c, d, e, rfl⟩ := ex5 hx.1
 obtain ⟨f, g, h, i, j, rfl⟩ := ex5 hy.1
 obtain ⟨a1, b1, c1, d1, e1⟩ := hx.b
 obtain ⟨f1, g1, h1, i1, j1⟩ := hy.b
 have m19 : ∀ z : UInt64, z.toNat < 4503599627370496 → (z * 19).toNat = z.toNat * 19 := fun z hz => mul_n z 19 (by show z.toNat * 19 < _; omega)
 have hx0 : ∀ n, n < 5 → (([a, b, c, d, e] : List UInt64).getD n 0).toNat < 4503599627370496 := by
  intro n hn
  match n, hn with
  | 0, _ => exact a1
  | 1, _ => exact b1
  | 2, _ => exact c1
  | 3, _ => exact d1
  | 4, _ => exact e1
 have hy0 : ∀ n, n < 5 → (([f, g, h, i, j] : List UInt64).getD n 0).toNat < 4503599627370496 := by
  intro n hn
  match n, hn with
  | 0, _ => exact f1
  | 1, _ => exact g1
  | 2, _ => exact h1
  | 3, _ => exact i1
  | 4, _ => exact j1
 have hyw : ∀ n k, n < 5 → k < 5 → (yw [f, g, h, i, j] n k).toNat < 4503599627370496 * 19 := by
  intro n k hn hk
  unfold yw
  split
  ·
   have := hy0 (k - n) (by omega); omega
  ·
   have := hy0 (k + 5 - n) (by omega)
   rw [m19 _ this]; omega
 have hyw4 : ∀ n, n < 5 → (yw [f, g, h, i, j] n 4).toNat < 4503599627370496 := by
  intro n hn
  unfold yw
  rw [if_pos (by omega)]
  exact hy0 _ (by omega)
 have hp : ∀ k, k < 5 → ∀ n, n < 5 → (([a, b, c, d, e] : List UInt64).getD n 0).toNat * (yw [f, g, h, i, j] n k).toNat < 4503599627370496 * (4503599627370496 * 19) := fun k hk n hn => Nat.mul_lt_mul'' (hx0 n hn) (hyw n k hn hk)
 have hp4 : ∀ n, n < 5 → (([a, b, c, d, e] : List UInt64).getD n 0).toNat * (yw [f, g, h, i, j] n 4).toNat < 4503599627370496 * 4503599627370496 := fun n hn => Nat.mul_lt_mul'' (hx0 n hn) (hyw4 n hn)
 have hcol : ∀ k, k < 5 → _ := fun k hk => hilo [a, b, c, d, e] [f, g, h, i, j] k _ (hp k hk) (by decide) 5 (by omega)
 obtain ⟨q0, r0⟩ := hcol 0 (by omega)
 obtain ⟨q1, r1⟩ := hcol 1 (by omega)
 obtain ⟨q2, r2⟩ := hcol 2 (by omega)
 obtain ⟨q3, r3⟩ := hcol 3 (by omega)
 obtain ⟨q4, r4⟩ := hilo [a, b, c, d, e] [f, g, h, i, j] 4 _ hp4 (by decide) 5 (by omega)
 clear hcol hp hp4
 have k0 : col [a, b, c, d, e] [f, g, h, i, j] 5 0 = a.toNat * f.toNat + b.toNat * (j.toNat * 19) + c.toNat * (i.toNat * 19) + d.toNat * (h.toNat * 19) + e.toNat * (g.toNat * 19) := by
  rw [← m19 j j1, ← m19 i i1, ← m19 h h1, ← m19 g g1, ← Nat.zero_add (a.toNat * f.toNat)]; rfl
 have k1 : col [a, b, c, d, e] [f, g, h, i, j] 5 1 = a.toNat * g.toNat + b.toNat * f.toNat + c.toNat * (j.toNat * 19) + d.toNat * (i.toNat * 19) + e.toNat * (h.toNat * 19) := by
  rw [← m19 j j1, ← m19 i i1, ← m19 h h1, ← Nat.zero_add (a.toNat * g.toNat)]; rfl
 have k2 : col [a, b, c, d, e] [f, g, h, i, j] 5 2 = a.toNat * h.toNat + b.toNat * g.toNat + c.toNat * f.toNat + d.toNat * (j.toNat * 19) + e.toNat * (i.toNat * 19) := by
  rw [← m19 j j1, ← m19 i i1, ← Nat.zero_add (a.toNat * h.toNat)]; rfl
 have k3 : col [a, b, c, d, e] [f, g, h, i, j] 5 3 = a.toNat * i.toNat + b.toNat * h.toNat + c.toNat * g.toNat + d.toNat * f.toNat + e.toNat * (j.toNat * 19) := by
  rw [← m19 j j1, ← Nat.zero_add (a.toNat * i.toNat)]; rfl
 have k4 : col [a, b, c, d, e] [f, g, h, i, j] 5 4 = a.toNat * j.toNat + b.toNat * i.toNat + c.toNat * h.toNat + d.toNat * g.toNat + e.toNat * f.toNat := by
  rw [← Nat.zero_add (a.toNat * j.toNat)]; rfl
 obtain ⟨z0, hz0⟩ : ∃ z, z = cO [a, b, c, d, e] [f, g, h, i, j] 0 := ⟨_, rfl⟩
 obtain ⟨z1, hz1⟩ : ∃ z, z = cO [a, b, c, d, e] [f, g, h, i, j] 1 := ⟨_, rfl⟩
 obtain ⟨z2, hz2⟩ : ∃ z, z = cO [a, b, c, d, e] [f, g, h, i, j] 2 := ⟨_, rfl⟩
 obtain ⟨z3, hz3⟩ : ∃ z, z = cO [a, b, c, d, e] [f, g, h, i, j] 3 := ⟨_, rfl⟩
 obtain ⟨z4, hz4⟩ : ∃ z, z = cO [a, b, c, d, e] [f, g, h, i, j] 4 := ⟨_, rfl⟩
 obtain ⟨z5, hz5⟩ : ∃ z, z = cO [a, b, c, d, e] [f, g, h, i, j] 5 := ⟨_, rfl⟩
 have y0 : z0.toNat = 0 := by rw [hz0]; rfl
 obtain ⟨s0, t0⟩ := out1 (c := z0) q0 (by omega) (by omega)
 obtain ⟨s1, t1⟩ := out1 (c := z1) q1 (by omega) (by rw [hz1]; show (shl64 _ _ ||| _).toNat < _; rw [← hz0, s0]; omega)
 have y1 : z1.toNat = (col [a, b, c, d, e] [f, g, h, i, j] 5 0 + z0.toNat) / 2251799813685248 := by rw [← s0, hz0]; rw [hz1]; rfl
 obtain ⟨s2, t2⟩ := out1 (c := z2) q2 (by omega) (by rw [hz2]; show (shl64 _ _ ||| _).toNat < _; rw [← hz1, s1]; omega)
 have y2 : z2.toNat = (col [a, b, c, d, e] [f, g, h, i, j] 5 1 + z1.toNat) / 2251799813685248 := by rw [← s1, hz1]; rw [hz2]; rfl
 obtain ⟨s3, t3⟩ := out1 (c := z3) q3 (by omega) (by rw [hz3]; show (shl64 _ _ ||| _).toNat < _; rw [← hz2, s2]; omega)
 have y3 : z3.toNat = (col [a, b, c, d, e] [f, g, h, i, j] 5 2 + z2.toNat) / 2251799813685248 := by rw [← s2, hz2]; rw [hz3]; rfl
 obtain ⟨s4, t4⟩ := out1 (c := z4) q4 (by omega) (by rw [hz4]; show (shl64 _ _ ||| _).toNat < _; rw [← hz3, s3]; omega)
 have y4 : z4.toNat = (col [a, b, c, d, e] [f, g, h, i, j] 5 3 + z3.toNat) / 2251799813685248 := by rw [← s3, hz3]; rw [hz4]; rfl
 have y5 : z5.toNat = (col [a, b, c, d, e] [f, g, h, i, j] 5 4 + z4.toNat) / 2251799813685248 := by rw [← s4, hz4]; rw [hz5]; rfl
 have o0 : (oO [a, b, c, d, e] [f, g, h, i, j] 0).toNat = (col [a, b, c, d, e] [f, g, h, i, j] 5 0 + z0.toNat) % 2251799813685248 := by rw [← t0, hz0]; rfl
 have o1 : (oO [a, b, c, d, e] [f, g, h, i, j] 1).toNat = (col [a, b, c, d, e] [f, g, h, i, j] 5 1 + z1.toNat) % 2251799813685248 := by rw [← t1, hz1]; rfl
 have o2 : (oO [a, b, c, d, e] [f, g, h, i, j] 2).toNat = (col [a, b, c, d, e] [f, g, h, i, j] 5 2 + z2.toNat) % 2251799813685248 := by rw [← t2, hz2]; rfl
 have o3 : (oO [a, b, c, d, e] [f, g, h, i, j] 3).toNat = (col [a, b, c, d, e] [f, g, h, i, j] 5 3 + z3.toNat) % 2251799813685248 := by rw [← t3, hz3]; rfl
 have o4 : (oO [a, b, c, d, e] [f, g, h, i, j] 4).toNat = (col [a, b, c, d, e] [f, g, h, i, j] 5 4 + z4.toNat) % 2251799813685248 := by rw [← t4, hz4]; rfl
 clear s0 s1 s2 s3 s4 t0 t1 t2 t3 t4 q0 q1 q2 q3 q4
 have w0 : (19 * z5).toNat = 19 * z5.toNat := mul_n 19 z5 (by show 19 * z5.toNat < _; omega)
 have w1 : (oO [a, b, c, d, e] [f, g, h, i, j] 0 + 19 * z5).toNat = (oO [a, b, c, d, e] [f, g, h, i, j] 0).toNat + 19 * z5.toNat := by rw [add_n _ _ (by omega), w0]
 have := carL_ok (l := [oO [a, b, c, d, e] [f, g, h, i, j] 0 + 19 * z5, oO [a, b, c, d, e] [f, g, h, i, j] 1, oO [a, b, c, d, e] [f, g, h, i, j] 2, oO [a, b, c, d, e] [f, g, h, i, j] 3, oO [a, b, c, d, e] [f, g, h, i, j] 4]) rfl (by
  simp only [List.mem_cons, List.not_mem_nil, or_false, forall_eq_or_imp, forall_eq]
  refine ⟨?_, ?_, ?_, ?_, ?_⟩ <;> omega)
 have em : mulL [a, b, c, d, e] [f, g, h, i, j] = carL [oO [a, b, c, d, e] [f, g, h, i, j] 0 + 19 * z5, oO [a, b, c, d, e] [f, g, h, i, j] 1, oO [a, b, c, d, e] [f, g, h, i, j] 2, oO [a, b, c, d, e] [f, g, h, i, j] 3, oO [a, b, c, d, e] [f, g, h, i, j] 4] := by rw [hz5]; rfl
 refine ⟨by rw [em]; exact this.1, ?_⟩
 unfold nr
 rw [em, this.2, ← Nat.mul_mod, nv_5, w1]
 generalize oO [a, b, c, d, e] [f, g, h, i, j] 0 = v0 at *
 generalize oO [a, b, c, d, e] [f, g, h, i, j] 1 = v1 at *
 generalize oO [a, b, c, d, e] [f, g, h, i, j] 2 = v2 at *
 generalize oO [a, b, c, d, e] [f, g, h, i, j] 3 = v3 at *
 generalize oO [a, b, c, d, e] [f, g, h, i, j] 4 = v4 at *
 generalize col [a, b, c, d, e] [f, g, h, i, j] 5 0 = C0 at *
 generalize col [a, b, c, d, e] [f, g, h, i, j] 5 1 = C1 at *
 generalize col [a, b, c, d, e] [f, g, h, i, j] 5 2 = C2 at *
 generalize col [a, b, c, d, e] [f, g, h, i, j] 5 3 = C3 at *
 generalize col [a, b, c, d, e] [f, g, h, i, j] 5 4 = C4 at *
 have hsum : v0.toNat + 19 * z5.toNat + 2251799813685248 * v1.toNat + 5070602400912917605986812821504 * v2.toNat + 11417981541647679048466287755595961091061972992 * v3.toNat + 25711008708143844408671393477458601640355247900524685364822016 * v4.toNat + z5.toNat * P25519 = C0 + 2251799813685248 * C1 + 5070602400912917605986812821504 * C2 + 11417981541647679048466287755595961091061972992 * C3 + 25711008708143844408671393477458601640355247900524685364822016 * C4 := by
  unfold P25519; omega
 rw [← Nat.add_mul_mod_self_right _ z5.toNat, hsum, k0, k1, k2, k3, k4, nv_5, nv_5]
 have hid := mulId 2251799813685248 P25519 a.toNat b.toNat c.toNat d.toNat e.toNat f.toNat g.toNat h.toNat i.toNat j.toNat (by decide)
 rw [show 5070602400912917605986812821504 = 2251799813685248 * 2251799813685248 by decide, show 11417981541647679048466287755595961091061972992 = 2251799813685248 * 2251799813685248 * 2251799813685248 by decide, show 25711008708143844408671393477458601640355247900524685364822016 = 2251799813685248 * 2251799813685248 * 2251799813685248 * 2251799813685248 by decide, ← hid, Nat.add_mul_mod_self_right]
end Go.Sh
namespace Go.Sh
set_option maxHeartbeats 4000000
def pv (B : Nat) (l : Nat → Nat) : Nat → Nat
 | 0 => 0
 | i + 1 => pv B l i + l i * B ^ i
theorem pv_lt {B : Nat} {l : Nat → Nat} (hB : 0 < B) (h : ∀ i, l i < B) : ∀ n, pv B l n < B ^ n
 | 0 => by simp [pv]
 | n + 1 => by
  have ih := pv_lt hB h n
  have h2 : l n * B ^ n ≤ (B - 1) * B ^ n := Nat.mul_le_mul_right _ (by have := h n; omega)
  have h3 : (B - 1) * B ^ n + B ^ n = B ^ (n + 1) := by
   rw [Nat.pow_succ, Nat.mul_comm (B ^ n) B, ← Nat.succ_mul]; congr 1; omega
  show pv B l n + l n * B ^ n < _
  omega
theorem pv_congr {B : Nat} {l m : Nat → Nat} : ∀ n, (∀ i, i < n → l i = m i) → pv B l n = pv B m n
 | 0, _ => rfl
 | n + 1, h => by
  show pv B l n + l n * _ = pv B m n + m n * _
  rw [pv_congr n (fun i hi => h i (by omega)), h n (by omega)]
theorem pv_of {B : Nat} (hB : 0 < B) (v : Nat) : ∀ n, pv B (fun i => v / B ^ i % B) n = v % B ^ n
 | 0 => by simp [pv, Nat.mod_one]
 | n + 1 => by
  show pv B _ n + v / B ^ n % B * B ^ n = _
  rw [pv_of hB v n, Nat.pow_succ, Nat.mod_mul, Nat.mul_comm (v / B ^ n % B)]
def dg (v : Nat) : List UInt64 := (List.range 16).map fun i => UInt64.ofNat (v / 65536 ^ i % 65536)
def rv (l : List UInt64) : Nat := pv 65536 (fun i => (l.getD i 0).toNat) 16
def pp : List UInt64 := dg P25519
def le32 (v : Nat) : List UInt8 := (List.range 32).map fun i => UInt8.ofNat (v / 256 ^ i % 256)
theorem le32_len (v : Nat) : (le32 v).length = 32 := rng_len
theorem le32_get (v i : Nat) (h : i < 32) : ((le32 v).getD i 0).toNat = v / 256 ^ i % 256 := by
 unfold le32; rw [rng_getD h, UInt8.toNat_ofNat']
 exact Nat.mod_eq_of_lt (Nat.mod_lt _ (by decide))
def bv (b : List UInt8) : Nat := pv 256 (fun i => (b.getD i 0).toNat) 32
theorem bv_le32 (v : Nat) (h : v < 256 ^ 32) : bv (le32 v) = v := by
 unfold bv
 rw [pv_congr (m := fun i => v / 256 ^ i % 256) 32 (fun i hi => le32_get v i hi), pv_of (by decide), Nat.mod_eq_of_lt h]
def bn (b : List UInt8) : Nat := bv b % 57896044618658097711785492504343953926634992332820282019728792003956564819968
def br (b : List UInt8) : Nat := bn b % P25519
def pw (x : Nat) : Nat → Nat
 | 0 => 1
 | k + 1 => if k = 250 ∨ k = 252 then pw x k * pw x k % P25519 else pw x k * pw x k % P25519 * x % P25519
def pwe : Nat → Nat
 | 0 => 0
 | k + 1 => if k = 250 ∨ k = 252 then 2 * pwe k else 2 * pwe k + 1
theorem pwe_all : pwe 255 = P25519 - 2 := by decide +kernel
theorem pw_eq (x : Nat) : ∀ k, pw x k = x ^ pwe k % P25519
 | 0 => by show 1 = x ^ 0 % P25519; rw [Nat.pow_zero]; decide
 | k + 1 => by
  show (if k = 250 ∨ k = 252 then _ else _) = x ^ (if k = 250 ∨ k = 252 then _ else _) % _
  have e : pw x k * pw x k % P25519 = x ^ (2 * pwe k) % P25519 := by
   rw [pw_eq x k, ← Nat.mul_mod, ← Nat.pow_add]; congr 2; omega
  split
  ·
   exact e
  ·
   rw [e, Nat.mul_mod, Nat.mod_mod, ← Nat.mul_mod, ← Nat.pow_succ]
def invN (x : Nat) : Nat := pw x 255
theorem invN_mul {x : Nat} (h : x % P25519 ≠ 0) : x * invN x % P25519 = 1 := by
 unfold invN
 rw [pw_eq, pwe_all, Nat.mul_mod, Nat.mod_mod, ← Nat.mul_mod]
 exact inv_mul h
theorem invN_0 : invN 0 = 0 := by unfold invN; rw [pw_eq, pwe_all, Nat.zero_pow (by decide)]; rfl
end Go.Sh
namespace Go.Sh
set_option maxHeartbeats 8000000
theorem or_add (a b : UInt64) (k : Nat) (c : Nat) (ha : a.toNat < 2 ^ k) (hb : b.toNat = 2 ^ k * c) : (a ||| b).toNat = a.toNat + b.toNat := by
 rw [UInt64.toNat_or, Nat.or_comm, hb, ← Nat.two_pow_add_eq_or_of_lt ha, Nat.add_comm]
theorem pv_split {B : Nat} (l : Nat → Nat) (n : Nat) : ∀ m, pv B l (n + m) = pv B l n + B ^ n * pv B (fun i => l (n + i)) m
 | 0 => by simp [pv]
 | m + 1 => by
  show pv B l (n + m) + l (n + m) * B ^ (n + m) = _
  rw [pv_split l n m]
  show _ = pv B l n + B ^ n * (pv B (fun i => l (n + i)) m + l (n + m) * B ^ m)
  rw [Nat.mul_add, Nat.pow_add, Nat.mul_left_comm, Nat.add_assoc]
def wW (b : List UInt8) (k : Nat) : Nat → UInt64
 | 0 => 0
 | m + 1 => wW b k m ||| shl64 (b.getD (8 * k + m) 0).toUInt64 (8 * m)
def byN (b : List UInt8) (i : Nat) : Nat := (b.getD i 0).toNat
theorem byN_lt (b : List UInt8) (i : Nat) : byN b i < 256 := UInt8.toNat_lt _
theorem wW_n (b : List UInt8) (k : Nat) : ∀ m, m ≤ 8 → (wW b k m).toNat = pv 256 (fun i => byN b (8 * k + i)) m
 | 0, _ => rfl
 | m + 1, h => by
  have ih := wW_n b k m (by omega)
  have hlt := pv_lt (B := 256) (l := fun i => byN b (8 * k + i)) (by decide) (fun i => byN_lt b _) m
  have e8 : (256 : Nat) ^ m = 2 ^ (8 * m) := by rw [Nat.pow_mul]
  have hb := byN_lt b (8 * k + m)
  have hs : (shl64 (b.getD (8 * k + m) 0).toUInt64 (8 * m)).toNat = 2 ^ (8 * m) * byN b (8 * k + m) := by
   rw [shl_n _ _ (by omega), UInt8.toNat_toUInt64, Nat.mod_eq_of_lt, Nat.mul_comm]
   ·
    rfl
   ·
    have h1 : (b.getD (8 * k + m) 0).toNat * 2 ^ (8 * m) < 256 * 2 ^ (8 * m) := Nat.mul_lt_mul_of_pos_right hb (Nat.pow_pos (by decide))
    have h2 : 256 * 2 ^ (8 * m) ≤ 2 ^ 64 := by
     rw [show (256 : Nat) = 2 ^ 8 from rfl, ← Nat.pow_add]
     exact Nat.pow_le_pow_right (by decide) (by omega)
    exact Nat.lt_of_lt_of_le h1 h2
  show (wW b k m ||| _).toNat = pv 256 _ m + byN b (8 * k + m) * 256 ^ m
  rw [or_add _ _ (8 * m) _ (by rw [ih, ← e8]; exact hlt) hs, ih, hs, e8, Nat.mul_comm (2 ^ (8 * m))]
theorem wW_8 (b : List UInt8) (k : Nat) : (wW b k 8).toNat < 18446744073709551616 := UInt64.toNat_lt _
theorem bv_w (b : List UInt8) : bv b = (wW b 0 8).toNat + 18446744073709551616 * (wW b 1 8).toNat + 340282366920938463463374607431768211456 * (wW b 2 8).toNat + 6277101735386680763835789423207666416102355444464034512896 * (wW b 3 8).toNat := by
 rw [wW_n b 0 8 (by decide), wW_n b 1 8 (by decide), wW_n b 2 8 (by decide), wW_n b 3 8 (by decide)]
 unfold bv
 have h1 := pv_split (B := 256) (byN b) 8 24
 have h2 := pv_split (B := 256) (fun i => byN b (8 + i)) 8 16
 have h3 := pv_split (B := 256) (fun i => byN b (8 + (8 + i))) 8 8
 have e1 : (256 : Nat) ^ 8 = 18446744073709551616 := by decide
 rw [e1] at h1 h2 h3
 show pv 256 (byN b) (8 + 24) = _
 rw [h1, show (24 : Nat) = 8 + 16 from rfl, h2, show (16 : Nat) = 8 + 8 from rfl, h3]
 have f0 : pv 256 (byN b) 8 = pv 256 (fun i => byN b (8 * 0 + i)) 8 := pv_congr 8 (fun i _ => by rw [show 8 * 0 + i = i by omega])
 have f1 : pv 256 (fun i => byN b (8 + i)) 8 = pv 256 (fun i => byN b (8 * 1 + i)) 8 := rfl
 have f2 : pv 256 (fun i => byN b (8 + (8 + i))) 8 = pv 256 (fun i => byN b (8 * 2 + i)) 8 := pv_congr 8 (fun i _ => by rw [show 8 * 2 + i = 8 + (8 + i) by omega])
 have f3 : pv 256 (fun i => byN b (8 + (8 + (8 + i)))) 8 = pv 256 (fun i => byN b (8 * 3 + i)) 8 := pv_congr 8 (fun i _ => by rw [show 8 * 3 + i = 8 + (8 + (8 + i)) by omega])
 rw [f0, f1, f2, f3]
 omega
theorem X1 (a b : Nat) (ha : a < 18446744073709551616) : (a / 2251799813685248 + b * 8192 % 18446744073709551616) % 2251799813685248 = a / 2251799813685248 + b % 274877906944 * 8192 := by omega
theorem X2 (b c : Nat) (hb : b < 18446744073709551616) : (b / 274877906944 + c * 67108864 % 18446744073709551616) % 2251799813685248 = b / 274877906944 + c % 33554432 * 67108864 := by omega
theorem X3 (c d : Nat) (hb : c < 18446744073709551616) : (c / 33554432 + d * 549755813888 % 18446744073709551616) % 2251799813685248 = c / 33554432 + d % 4096 * 549755813888 := by omega
theorem Y1 (b : Nat) : b * 8192 % 18446744073709551616 = 8192 * (b % 2251799813685248) := by omega
theorem Y2 (b : Nat) : b * 67108864 % 18446744073709551616 = 67108864 * (b % 274877906944) := by omega
theorem Y3 (b : Nat) : b * 549755813888 % 18446744073709551616 = 549755813888 * (b % 33554432) := by omega
theorem sum4 (a b c d : Nat) (ha : a < 18446744073709551616) (hb : b < 18446744073709551616) (hc : c < 18446744073709551616) :
 a % 2251799813685248 + 2251799813685248 * (a / 2251799813685248 + b % 274877906944 * 8192) + 5070602400912917605986812821504 * (b / 274877906944 + c % 33554432 * 67108864) + 11417981541647679048466287755595961091061972992 * (c / 33554432 + d % 4096 * 549755813888) + 25711008708143844408671393477458601640355247900524685364822016 * (d / 4096 % 2251799813685248) = (a + 18446744073709551616 * b + 340282366920938463463374607431768211456 * c + 6277101735386680763835789423207666416102355444464034512896 * d) % 57896044618658097711785492504343953926634992332820282019728792003956564819968 := by
 obtain ⟨a0, a1, h1, h2, h3⟩ : ∃ a0 a1, a % 2251799813685248 = a0 ∧ a / 2251799813685248 = a1 ∧ a = a0 + 2251799813685248 * a1 := ⟨_, _, rfl, rfl, by omega⟩
 obtain ⟨b0, b1, i1, i2, i3⟩ : ∃ b0 b1, b % 274877906944 = b0 ∧ b / 274877906944 = b1 ∧ b = b0 + 274877906944 * b1 := ⟨_, _, rfl, rfl, by omega⟩
 obtain ⟨c0, c1, j1, j2, j3⟩ : ∃ c0 c1, c % 33554432 = c0 ∧ c / 33554432 = c1 ∧ c = c0 + 33554432 * c1 := ⟨_, _, rfl, rfl, by omega⟩
 obtain ⟨d0, d1, d2, k1, k2, k3⟩ : ∃ d0 d1 d2, d % 4096 = d0 ∧ d / 4096 % 2251799813685248 = d1 ∧ d = d0 + 4096 * (d1 + 2251799813685248 * d2) := ⟨_, _, d / 4096 / 2251799813685248, rfl, rfl, by omega⟩
 have a0l : a0 < 2251799813685248 := by omega
 have a1l : a1 < 8192 := by omega
 have b0l : b0 < 274877906944 := by omega
 have b1l : b1 < 67108864 := by omega
 have c0l : c0 < 33554432 := by omega
 have c1l : c1 < 549755813888 := by omega
 have d0l : d0 < 4096 := by omega
 have d1l : d1 < 2251799813685248 := by omega
 rw [h1, h2, i1, i2, j1, j2, k1, k2]
 clear h1 h2 i1 i2 j1 j2 k1 k2 ha hb hc
 subst h3; subst i3; subst j3; subst k3
 have e : a0 + 2251799813685248 * a1 + 18446744073709551616 * (b0 + 274877906944 * b1) + 340282366920938463463374607431768211456 * (c0 + 33554432 * c1) + 6277101735386680763835789423207666416102355444464034512896 * (d0 + 4096 * (d1 + 2251799813685248 * d2)) = (a0 + 2251799813685248 * (a1 + b0 * 8192) + 5070602400912917605986812821504 * (b1 + c0 * 67108864) + 11417981541647679048466287755595961091061972992 * (c1 + d0 * 549755813888) + 25711008708143844408671393477458601640355247900524685364822016 * d1) + 57896044618658097711785492504343953926634992332820282019728792003956564819968 * d2 := by omega
 rw [e, Nat.add_mul_mod_self_left, Nat.mod_eq_of_lt]
 omega
def ofB (b : List UInt8) : List UInt64 := [wW b 0 8 &&& 2251799813685247, (shr64 (wW b 0 8) 51 ||| shl64 (wW b 1 8) 13) &&& 2251799813685247, (shr64 (wW b 1 8) 38 ||| shl64 (wW b 2 8) 26) &&& 2251799813685247, (shr64 (wW b 2 8) 25 ||| shl64 (wW b 3 8) 39) &&& 2251799813685247, shr64 (wW b 3 8) 12 &&& 2251799813685247]
theorem ofB_ok (b : List UInt8) : Nm (ofB b) ∧ nv (ofB b) = bn b := by
 have b0 := wW_8 b 0
 have b1 := wW_8 b 1
 have b2 := wW_8 b 2
 have b3 := wW_8 b 3
 have hv := bv_w b
 unfold ofB bn
 generalize bv b = V at *
 generalize wW b 0 8 = w0 at *
 generalize wW b 1 8 = w1 at *
 generalize wW b 2 8 = w2 at *
 generalize wW b 3 8 = w3 at *
 have e0 := msk_n w0
 have s0 := shr_n w0 51 (by decide)
 have s1 := shr_n w1 38 (by decide)
 have s2 := shr_n w2 25 (by decide)
 have s3 := shr_n w3 12 (by decide)
 have t1 := shl_n w1 13 (by decide)
 have t2 := shl_n w2 26 (by decide)
 have t3 := shl_n w3 39 (by decide)
 rw [show (2 : Nat) ^ 51 = 2251799813685248 from rfl] at s0
 rw [show (2 : Nat) ^ 38 = 274877906944 from rfl] at s1
 rw [show (2 : Nat) ^ 25 = 33554432 from rfl] at s2
 rw [show (2 : Nat) ^ 12 = 4096 from rfl] at s3
 rw [show (2 : Nat) ^ 13 = 8192 from rfl, show (2 : Nat) ^ 64 = 18446744073709551616 from rfl] at t1
 rw [show (2 : Nat) ^ 26 = 67108864 from rfl, show (2 : Nat) ^ 64 = 18446744073709551616 from rfl] at t2
 rw [show (2 : Nat) ^ 39 = 549755813888 from rfl, show (2 : Nat) ^ 64 = 18446744073709551616 from rfl] at t3
 have o1 := or_add (shr64 w0 51) (shl64 w1 13) 13 (w1.toNat % 2251799813685248) (by rw [s0]; clear s1 s2 s3 t1 t2 t3 e0 hv; omega) (by rw [t1]; exact Y1 _)
 have o2 := or_add (shr64 w1 38) (shl64 w2 26) 26 (w2.toNat % 274877906944) (by rw [s1]; clear s0 s2 s3 t1 t2 t3 e0 hv; omega) (by rw [t2]; exact Y2 _)
 have o3 := or_add (shr64 w2 25) (shl64 w3 39) 39 (w3.toNat % 33554432) (by rw [s2]; clear s0 s1 s3 t1 t2 t3 e0 hv; omega) (by rw [t3]; exact Y3 _)
 have m1 := msk_n (shr64 w0 51 ||| shl64 w1 13)
 have m2 := msk_n (shr64 w1 38 ||| shl64 w2 26)
 have m3 := msk_n (shr64 w2 25 ||| shl64 w3 39)
 have m4 := msk_n (shr64 w3 12)
 rw [o1, s0, t1] at m1
 rw [o2, s1, t2] at m2
 rw [o3, s2, t3] at m3
 rw [s3] at m4
 constructor
 ·
  refine ⟨rfl, ?_⟩
  simp only [List.mem_cons, List.not_mem_nil, or_false, forall_eq_or_imp, forall_eq]
  clear o1 o2 o3 s0 s1 s2 s3 t1 t2 t3 hv
  refine ⟨?_, ?_, ?_, ?_, ?_⟩
  ·
   rw [e0]; exact Nat.lt_of_lt_of_le (Nat.mod_lt _ (by decide)) (by decide)
  ·
   rw [m1]; exact Nat.lt_of_lt_of_le (Nat.mod_lt _ (by decide)) (by decide)
  ·
   rw [m2]; exact Nat.lt_of_lt_of_le (Nat.mod_lt _ (by decide)) (by decide)
  ·
   rw [m3]; exact Nat.lt_of_lt_of_le (Nat.mod_lt _ (by decide)) (by decide)
  ·
   rw [m4]; exact Nat.lt_of_lt_of_le (Nat.mod_lt _ (by decide)) (by decide)
 ·
  rw [nv_5, e0, m1, m2, m3, m4, hv, X1 _ _ b0, X2 _ _ b1, X3 _ _ b2]
  exact sum4 _ _ _ _ b0 b1 b2
theorem nr_of (b : List UInt8) : nr (ofB b) = br b := by unfold nr br; rw [(ofB_ok b).2]
end Go.Sh
namespace Go.Sh
set_option maxHeartbeats 8000000
theorem dm (r : Nat) : ∃ v q, r % 2251799813685248 = v ∧ r / 2251799813685248 = q ∧ r = v + 2251799813685248 * q ∧ v < 2251799813685248 := ⟨_, _, rfl, rfl, by omega, by omega⟩
theorem chain {x0 x1 x2 x3 x4 r0 r1 r2 r3 r4 : Nat} (h0 : r0 = x0) (h1 : r1 = x1 + r0 / 2251799813685248) (h2 : r2 = x2 + r1 / 2251799813685248) (h3 : r3 = x3 + r2 / 2251799813685248) (h4 : r4 = x4 + r3 / 2251799813685248) :
  ∃ V, V = r0 % 2251799813685248 + 2251799813685248 * (r1 % 2251799813685248) + 5070602400912917605986812821504 * (r2 % 2251799813685248) + 11417981541647679048466287755595961091061972992 * (r3 % 2251799813685248) + 25711008708143844408671393477458601640355247900524685364822016 * (r4 % 2251799813685248) ∧ V < 57896044618658097711785492504343953926634992332820282019728792003956564819968 ∧
   x0 + 2251799813685248 * x1 + 5070602400912917605986812821504 * x2 + 11417981541647679048466287755595961091061972992 * x3 + 25711008708143844408671393477458601640355247900524685364822016 * x4 = V + 57896044618658097711785492504343953926634992332820282019728792003956564819968 * (r4 / 2251799813685248) := by
 obtain ⟨v0, q0, a0, b0, c0, d0⟩ := dm r0
 obtain ⟨v1, q1, a1, b1, c1, d1⟩ := dm r1
 obtain ⟨v2, q2, a2, b2, c2, d2⟩ := dm r2
 obtain ⟨v3, q3, a3, b3, c3, d3⟩ := dm r3
 obtain ⟨v4, q4, a4, b4, c4, d4⟩ := dm r4
 rw [b0] at h1
 rw [b1] at h2
 rw [b2] at h3
 rw [b3] at h4
 rw [a0, a1, a2, a3, a4, b4]
 clear a0 a1 a2 a3 a4 b0 b1 b2 b3 b4
 exact ⟨_, rfl, by omega, by omega⟩
theorem fin5 {N V t q : Nat} (P U : Nat) (hP : P = 57896044618658097711785492504343953926634992332820282019728792003956564819949) (hN : N < 57896044618658097711785492504343953926634992332820282019728792003956564819988) (hU : U < 57896044618658097711785492504343953926634992332820282019728792003956564819968) (h1 : N + 19 = U + 57896044618658097711785492504343953926634992332820282019728792003956564819968 * q)
  (hV : V < 57896044618658097711785492504343953926634992332820282019728792003956564819968) (h2 : N + 19 * q = V + 57896044618658097711785492504343953926634992332820282019728792003956564819968 * t) : V = N % P := by
 have hq : q = 0 ∨ q = 1 := by omega
 rcases hq with rfl | rfl
 ·
  have : t = 0 := by omega
  subst this
  rw [Nat.mod_eq_of_lt] <;> omega
 ·
  have : t = 1 := by omega
  subst this
  rw [Nat.mod_eq_sub_mod (by omega), Nat.mod_eq_of_lt (by omega)]
  omega
theorem d64 (A B C D : Nat) (ha : A < 18446744073709551616) (hb : B < 18446744073709551616) (hc : C < 18446744073709551616) (hd : D < 18446744073709551616) (V : Nat) (hV : V = A + 18446744073709551616 * B + 340282366920938463463374607431768211456 * C + 6277101735386680763835789423207666416102355444464034512896 * D) :
  A = V % 18446744073709551616 ∧ B = V / 18446744073709551616 % 18446744073709551616 ∧ C = V / 340282366920938463463374607431768211456 % 18446744073709551616 ∧ D = V / 6277101735386680763835789423207666416102355444464034512896 % 18446744073709551616 := by
 refine ⟨by omega, by omega, by omega, by omega⟩
theorem Z1 (s : Nat) : s * 2251799813685248 % 18446744073709551616 = 2251799813685248 * (s % 8192) := by omega
theorem Z2 (s : Nat) : s * 274877906944 % 18446744073709551616 = 274877906944 * (s % 67108864) := by omega
theorem Z3 (s : Nat) : s * 33554432 % 18446744073709551616 = 33554432 * (s % 549755813888) := by omega
theorem Z4 (s : Nat) : s * 4096 % 18446744073709551616 = 4096 * (s % 4503599627370496) := by omega
theorem s64 (s0 s1 s2 s3 s4 : Nat) (h0 : s0 < 2251799813685248) (h1 : s1 < 2251799813685248) (h2 : s2 < 2251799813685248) (h3 : s3 < 2251799813685248) (h4 : s4 < 2251799813685248) :
  s0 + s1 * 2251799813685248 % 18446744073709551616 < 18446744073709551616 ∧ s1 / 8192 + s2 * 274877906944 % 18446744073709551616 < 18446744073709551616 ∧ s2 / 67108864 + s3 * 33554432 % 18446744073709551616 < 18446744073709551616 ∧ s3 / 549755813888 + s4 * 4096 % 18446744073709551616 < 18446744073709551616 ∧
  s0 + 2251799813685248 * s1 + 5070602400912917605986812821504 * s2 + 11417981541647679048466287755595961091061972992 * s3 + 25711008708143844408671393477458601640355247900524685364822016 * s4 = (s0 + s1 * 2251799813685248 % 18446744073709551616) + 18446744073709551616 * (s1 / 8192 + s2 * 274877906944 % 18446744073709551616) + 340282366920938463463374607431768211456 * (s2 / 67108864 + s3 * 33554432 % 18446744073709551616) + 6277101735386680763835789423207666416102355444464034512896 * (s3 / 549755813888 + s4 * 4096 % 18446744073709551616) := by
 obtain ⟨e0, e1, k1, k2, k3⟩ : ∃ e0 e1, s1 / 8192 = e1 ∧ s1 * 2251799813685248 % 18446744073709551616 = 2251799813685248 * e0 ∧ s1 = e0 + 8192 * e1 := ⟨s1 % 8192, _, rfl, Z1 _, (Nat.mod_add_div _ _).symm⟩
 obtain ⟨f0, f1, l1, l2, l3⟩ : ∃ e0 e1, s2 / 67108864 = e1 ∧ s2 * 274877906944 % 18446744073709551616 = 274877906944 * e0 ∧ s2 = e0 + 67108864 * e1 := ⟨s2 % 67108864, _, rfl, Z2 _, (Nat.mod_add_div _ _).symm⟩
 obtain ⟨g0, g1, m1, m2, m3⟩ : ∃ e0 e1, s3 / 549755813888 = e1 ∧ s3 * 33554432 % 18446744073709551616 = 33554432 * e0 ∧ s3 = e0 + 549755813888 * e1 := ⟨s3 % 549755813888, _, rfl, Z3 _, (Nat.mod_add_div _ _).symm⟩
 have m4 : s4 * 4096 % 18446744073709551616 = 4096 * s4 := by rw [Nat.mod_eq_of_lt (by omega), Nat.mul_comm]
 refine ⟨by omega, by omega, by omega, by omega, ?_⟩
 rw [k1, k2, l1, l2, m1, m2, m4]
 clear k1 k2 l1 l2 m1 m2 m4 h0 h1 h2 h3 h4
 omega
theorem d32 {j : Nat} (h : j < 32) : j / 8 = 0 ∨ j / 8 = 1 ∨ j / 8 = 2 ∨ j / 8 = 3 := by omega
theorem d64b (j : Nat) : 8 * (j % 8) < 64 := by omega
theorem e256 (j : Nat) : (256 : Nat) ^ j = 2 ^ (64 * (j / 8)) * 2 ^ (8 * (j % 8)) := by
 rw [← Nat.pow_add, show (256 : Nat) = 2 ^ 8 from rfl, ← Nat.pow_mul]; congr 1; omega
theorem by8x (x t : Nat) (ht : t < 8) : x % 18446744073709551616 / 2 ^ (8 * t) % 2 ^ 8 = x / 2 ^ (8 * t) % 256 % 2 ^ 8 := by
 have : t = 0 ∨ t = 1 ∨ t = 2 ∨ t = 3 ∨ t = 4 ∨ t = 5 ∨ t = 6 ∨ t = 7 := by omega
 rcases this with h | h | h | h | h | h | h | h <;> rw [h] <;> simp only [Nat.reduceMul, Nat.reducePow] <;> omega
theorem lt38 {s : Nat} (h : s < 2251799813685248) : s / 8192 < 2 ^ 38 := by omega
theorem lt25 {s : Nat} (h : s < 2251799813685248) : s / 67108864 < 2 ^ 25 := by omega
theorem lt12 {s : Nat} (h : s < 2251799813685248) : s / 549755813888 < 2 ^ 12 := by omega
theorem carL_tight {l : List UInt64} (h : l.length = 5) (hb : ∀ x ∈ l, x.toNat < 9223372036854775808) :
  ∃ k0 k1 k2 k3 k4 : UInt64, carL l = [k0, k1, k2, k3, k4] ∧ k0.toNat < 2251799813685268 ∧ k1.toNat < 2251799813685248 ∧ k2.toNat < 2251799813685248 ∧ k3.toNat < 2251799813685248 ∧ k4.toNat < 2251799813685248 := by
 obtain ⟨a, b, c, d, e, rfl⟩ := ex5 h
 simp only [List.mem_cons, List.not_mem_nil, or_false, forall_eq_or_imp, forall_eq] at hb
 obtain ⟨ha, hb, hc, hd, he⟩ := hb
 obtain ⟨m0, m1, m2, m3, m4, q, e1, n1, hq, b0, b1, b2, b3, b4, _⟩ := car1_val ha hb hc hd he
 obtain ⟨k0, k1, k2, k3, k4, q2, e2, n2, hq2, d0, d1, d2, d3, d4, hle⟩ := car1_val (a := m0) (b := m1) (c := m2) (d := m3) (e := m4) (by omega) (by omega) (by omega) (by omega) (by omega)
 have hle := hle b1 b2 b3 b4 (by omega)
 refine ⟨k0, k1, k2, k3, k4, ?_, by omega, d1, d2, d3, d4⟩
 unfold carL; rw [e1, e2]
def qB (m : List UInt64) : UInt64 := shr64 (m.getD 4 0 + shr64 (m.getD 3 0 + shr64 (m.getD 2 0 + shr64 (m.getD 1 0 + shr64 (m.getD 0 0 + 19) 51) 51) 51) 51) 51
def rB (m : List UInt64) : Nat → UInt64
 | 0 => m.getD 0 0 + 19 * qB m
 | i + 1 => m.getD (i + 1) 0 + shr64 (rB m i) 51
def sB (m : List UInt64) (i : Nat) : UInt64 := rB m i &&& 2251799813685247
def w4 (m : List UInt64) : List UInt64 := [sB m 0 ||| shl64 (sB m 1) 51, shr64 (sB m 1) 13 ||| shl64 (sB m 2) 38, shr64 (sB m 2) 26 ||| shl64 (sB m 3) 25, shr64 (sB m 3) 39 ||| shl64 (sB m 4) 12]
def byB (m : List UInt64) : List UInt8 := (List.range 32).map fun j => (shr64 ((w4 m).getD (j / 8) 0) (8 * (j % 8))).toUInt8
theorem nq {x c : Nat} (hx : x < 2251799813685268) (hc : c ≤ 19) : (x + c) / 2251799813685248 ≤ 1 := by omega
theorem nl {x c : Nat} (hx : x < 2251799813685268) (hc : c ≤ 19) : x + c < 18446744073709551616 := by omega
theorem nr1 {r : Nat} (hr : r < 2251799813685300) : r / 2251799813685248 ≤ 1 := by omega
theorem c51q (x c : UInt64) (hx : x.toNat < 2251799813685268) (hc : c.toNat ≤ 19) : (shr64 (x + c) 51).toNat = (x.toNat + c.toNat) / 2251799813685248 ∧ (shr64 (x + c) 51).toNat ≤ 1 := by
 have h : (shr64 (x + c) 51).toNat = (x.toNat + c.toNat) / 2251799813685248 := by rw [shr_n _ _ (by decide), add_n x c (nl hx hc)]
 exact ⟨h, by rw [h]; exact nq hx hc⟩
theorem rstp5 (x r : UInt64) (hx : x.toNat < 2251799813685248) (hr : r.toNat < 2251799813685300) : (x + shr64 r 51).toNat = x.toNat + r.toNat / 2251799813685248 ∧ (x + shr64 r 51).toNat < 2251799813685300 := by
 have h1 : (shr64 r 51).toNat = r.toNat / 2251799813685248 := shr_n r 51 (by decide)
 have h2 := nr1 hr
 have h : (x + shr64 r 51).toNat = x.toNat + r.toNat / 2251799813685248 := by rw [add_n _ _ (by rw [h1]; clear h1; omega), h1]
 exact ⟨h, by rw [h]; clear h h1; omega⟩
theorem byB_val {a b c d e : UInt64} (ha : a.toNat < 2251799813685268) (hb : b.toNat < 2251799813685248) (hc : c.toNat < 2251799813685248) (hd : d.toNat < 2251799813685248) (he : e.toNat < 2251799813685248) :
  byB [a, b, c, d, e] = le32 (nr [a, b, c, d, e]) := by
 obtain ⟨q0, hq0⟩ : ∃ q, q = shr64 (a + 19) 51 := ⟨_, rfl⟩
 obtain ⟨q1, hq1⟩ : ∃ q, q = shr64 (b + q0) 51 := ⟨_, rfl⟩
 obtain ⟨q2, hq2⟩ : ∃ q, q = shr64 (c + q1) 51 := ⟨_, rfl⟩
 obtain ⟨q3, hq3⟩ : ∃ q, q = shr64 (d + q2) 51 := ⟨_, rfl⟩
 obtain ⟨q4, hq4⟩ : ∃ q, q = shr64 (e + q3) 51 := ⟨_, rfl⟩
 have hqB : qB [a, b, c, d, e] = q4 := by rw [hq4, hq3, hq2, hq1, hq0]; rfl
 obtain ⟨v0, l0⟩ := c51q a 19 ha (by decide)
 rw [← hq0] at v0 l0
 rw [show (19 : UInt64).toNat = 19 from rfl] at v0
 obtain ⟨v1, l1⟩ := c51q b q0 (Nat.lt_trans hb (by decide)) (Nat.le_trans l0 (by decide))
 rw [← hq1] at v1 l1
 obtain ⟨v2, l2⟩ := c51q c q1 (Nat.lt_trans hc (by decide)) (Nat.le_trans l1 (by decide))
 rw [← hq2] at v2 l2
 obtain ⟨v3, l3⟩ := c51q d q2 (Nat.lt_trans hd (by decide)) (Nat.le_trans l2 (by decide))
 rw [← hq3] at v3 l3
 obtain ⟨v4, l4⟩ := c51q e q3 (Nat.lt_trans he (by decide)) (Nat.le_trans l3 (by decide))
 rw [← hq4] at v4 l4
 obtain ⟨p, hp⟩ : ∃ p, p = 19 * q4 := ⟨_, rfl⟩
 have hpn : p.toNat = 19 * q4.toNat := by rw [hp]; exact mul_n 19 q4 (by show 19 * _ < _; clear v0 v1 v2 v3 v4; omega)
 have hpl : p.toNat ≤ 19 := by rw [hpn]; clear v0 v1 v2 v3 v4; omega
 obtain ⟨r0, hr0⟩ : ∃ r, r = a + p := ⟨_, rfl⟩
 obtain ⟨r1, hr1⟩ : ∃ r, r = b + shr64 r0 51 := ⟨_, rfl⟩
 obtain ⟨r2, hr2⟩ : ∃ r, r = c + shr64 r1 51 := ⟨_, rfl⟩
 obtain ⟨r3, hr3⟩ : ∃ r, r = d + shr64 r2 51 := ⟨_, rfl⟩
 obtain ⟨r4, hr4⟩ : ∃ r, r = e + shr64 r3 51 := ⟨_, rfl⟩
 have k0 : rB [a, b, c, d, e] 0 = r0 := by rw [hr0, hp, ← hqB]; rfl
 have k1 : rB [a, b, c, d, e] 1 = r1 := by rw [hr1, ← k0]; rfl
 have k2 : rB [a, b, c, d, e] 2 = r2 := by rw [hr2, ← k1]; rfl
 have k3 : rB [a, b, c, d, e] 3 = r3 := by rw [hr3, ← k2]; rfl
 have k4 : rB [a, b, c, d, e] 4 = r4 := by rw [hr4, ← k3]; rfl
 have n0 : r0.toNat = a.toNat + 19 * q4.toNat := by rw [hr0, add_n _ _ (nl ha hpl), hpn]
 have g0 : r0.toNat < 2251799813685300 := by rw [n0]; clear v0 v1 v2 v3 v4; omega
 obtain ⟨n1, g1⟩ := rstp5 b r0 hb g0
 rw [← hr1] at n1 g1
 obtain ⟨n2, g2⟩ := rstp5 c r1 hc g1
 rw [← hr2] at n2 g2
 obtain ⟨n3, g3⟩ := rstp5 d r2 hd g2
 rw [← hr3] at n3 g3
 obtain ⟨n4, g4⟩ := rstp5 e r3 he g3
 rw [← hr4] at n4 g4
 have z0 : (sB [a, b, c, d, e] 0).toNat = r0.toNat % 2251799813685248 := by unfold sB; rw [k0, msk_n]
 have z1 : (sB [a, b, c, d, e] 1).toNat = r1.toNat % 2251799813685248 := by unfold sB; rw [k1, msk_n]
 have z2 : (sB [a, b, c, d, e] 2).toNat = r2.toNat % 2251799813685248 := by unfold sB; rw [k2, msk_n]
 have z3 : (sB [a, b, c, d, e] 3).toNat = r3.toNat % 2251799813685248 := by unfold sB; rw [k3, msk_n]
 have z4 : (sB [a, b, c, d, e] 4).toNat = r4.toNat % 2251799813685248 := by unfold sB; rw [k4, msk_n]
 have ch1 := chain (x0 := a.toNat + 19) (x1 := b.toNat) (x2 := c.toNat) (x3 := d.toNat) (x4 := e.toNat) rfl rfl rfl rfl rfl
 have ch2 := chain n0 n1 n2 n3 n4
 rw [← z0, ← z1, ← z2, ← z3, ← z4] at ch2
 obtain ⟨V, hV, hVl, hV2⟩ := ch2
 obtain ⟨U, _, hUl, hU2⟩ := ch1
 rw [← v0, Nat.add_comm b.toNat, Nat.add_comm q0.toNat, ← v1, ← v2, ← v3, ← v4] at hU2
 have hVr : V = nr [a, b, c, d, e] := by
  unfold nr
  rw [nv_5]
  clear z0 z1 z2 z3 z4 n0 n1 n2 n3 n4 k0 k1 k2 k3 k4 v0 v1 v2 v3 v4 hqB hq0 hq1 hq2 hq3 hq4 hV hp hpn
  refine fin5 (q := q4.toNat) (t := r4.toNat / 2251799813685248) P25519 U rfl ?_ hUl ?_ hVl ?_
  ·
   clear hU2 hV2; omega
  ·
   rw [← hU2]; clear hU2 hV2; omega
  ·
   rw [← hV2]; clear hU2 hV2; omega
 have y0 : (sB [a, b, c, d, e] 0).toNat < 2251799813685248 := by rw [z0]; exact Nat.mod_lt _ (by decide)
 have y1 : (sB [a, b, c, d, e] 1).toNat < 2251799813685248 := by rw [z1]; exact Nat.mod_lt _ (by decide)
 have y2 : (sB [a, b, c, d, e] 2).toNat < 2251799813685248 := by rw [z2]; exact Nat.mod_lt _ (by decide)
 have y3 : (sB [a, b, c, d, e] 3).toNat < 2251799813685248 := by rw [z3]; exact Nat.mod_lt _ (by decide)
 have y4 : (sB [a, b, c, d, e] 4).toNat < 2251799813685248 := by rw [z4]; exact Nat.mod_lt _ (by decide)
 rw [← hVr]
 have hw4 : w4 [a, b, c, d, e] = [sB [a, b, c, d, e] 0 ||| shl64 (sB [a, b, c, d, e] 1) 51, shr64 (sB [a, b, c, d, e] 1) 13 ||| shl64 (sB [a, b, c, d, e] 2) 38, shr64 (sB [a, b, c, d, e] 2) 26 ||| shl64 (sB [a, b, c, d, e] 3) 25, shr64 (sB [a, b, c, d, e] 3) 39 ||| shl64 (sB [a, b, c, d, e] 4) 12] := rfl
 clear z0 z1 z2 z3 z4 n0 n1 n2 n3 n4 k0 k1 k2 k3 k4 hVr hU2 hV2 hUl hVl v0 v1 v2 v3 v4
 generalize sB [a, b, c, d, e] 0 = s0 at *
 generalize sB [a, b, c, d, e] 1 = s1 at *
 generalize sB [a, b, c, d, e] 2 = s2 at *
 generalize sB [a, b, c, d, e] 3 = s3 at *
 generalize sB [a, b, c, d, e] 4 = s4 at *
 have t1 := shl_n s1 51 (by decide)
 have t2 := shl_n s2 38 (by decide)
 have t3 := shl_n s3 25 (by decide)
 have t4 := shl_n s4 12 (by decide)
 have u1 := shr_n s1 13 (by decide)
 have u2 := shr_n s2 26 (by decide)
 have u3 := shr_n s3 39 (by decide)
 rw [show (2 : Nat) ^ 51 = 2251799813685248 from rfl, show (2 : Nat) ^ 64 = 18446744073709551616 from rfl] at t1
 rw [show (2 : Nat) ^ 38 = 274877906944 from rfl, show (2 : Nat) ^ 64 = 18446744073709551616 from rfl] at t2
 rw [show (2 : Nat) ^ 25 = 33554432 from rfl, show (2 : Nat) ^ 64 = 18446744073709551616 from rfl] at t3
 rw [show (2 : Nat) ^ 12 = 4096 from rfl, show (2 : Nat) ^ 64 = 18446744073709551616 from rfl] at t4
 rw [show (2 : Nat) ^ 13 = 8192 from rfl] at u1
 rw [show (2 : Nat) ^ 26 = 67108864 from rfl] at u2
 rw [show (2 : Nat) ^ 39 = 549755813888 from rfl] at u3
 have o0 := or_add s0 (shl64 s1 51) 51 (s1.toNat % 8192) y0 (by rw [t1]; exact Z1 _)
 have o1 := or_add (shr64 s1 13) (shl64 s2 38) 38 (s2.toNat % 67108864) (by rw [u1]; exact lt38 y1) (by rw [t2]; exact Z2 _)
 have o2 := or_add (shr64 s2 26) (shl64 s3 25) 25 (s3.toNat % 549755813888) (by rw [u2]; exact lt25 y2) (by rw [t3]; exact Z3 _)
 have o3 := or_add (shr64 s3 39) (shl64 s4 12) 12 (s4.toNat % 4503599627370496) (by rw [u3]; exact lt12 y3) (by rw [t4]; exact Z4 _)
 rw [t1] at o0
 rw [u1, t2] at o1
 rw [u2, t3] at o2
 rw [u3, t4] at o3
 obtain ⟨l0, l1, l2, l3, hs⟩ := s64 _ _ _ _ _ y0 y1 y2 y3 y4
 obtain ⟨W0, W1, W2, W3⟩ := d64 _ _ _ _ l0 l1 l2 l3 V (hV.trans hs)
 rw [← o0] at W0
 rw [← o1] at W1
 rw [← o2] at W2
 rw [← o3] at W3
 unfold byB le32
 apply List.map_congr_left
 intro j hj
 have hj : j < 32 := List.mem_range.1 hj
 have hWk : ((w4 [a, b, c, d, e]).getD (j / 8) 0).toNat = V / 2 ^ (64 * (j / 8)) % 18446744073709551616 := by
  rw [hw4]
  rcases d32 hj with h | h | h | h <;> rw [h]
  ·
   rw [show (2 : Nat) ^ (64 * 0) = 1 from rfl, Nat.div_one]; exact W0
  ·
   exact W1
  ·
   exact W2
  ·
   exact W3
 apply UInt8.toNat_inj.mp
 rw [UInt64.toNat_toUInt8, shr_n _ _ (d64b j), UInt8.toNat_ofNat', hWk, e256, ← Nat.div_div_eq_div_mul]
 exact by8x _ _ (Nat.mod_lt _ (by decide))
end Go.Sh
namespace Go.Sh
open Go.Proofs
set_option maxHeartbeats 4000000
def smallL (n : UInt32) : List UInt64 := [n.toUInt64, 0, 0, 0, 0]
theorem f22 (n : UInt32) : SCall Try.prog 28 [.u32 n] [] (.agg ((smallL n).map .u64)) [] := by
 refine scall_of ttOk (by kernel_rfl : Try.prog.funcs[28]? = some Try.f28) rfl rfl rfl ?_
 try simp only [List.length_cons, List.length_nil, Nat.zero_add, Nat.reduceAdd]
 refine sw_ok ttOk mixed (by kernel_rfl) ?_
 conv => whnf
 repeat (first | (refine Exists.intro _ (And.intro (sload_all rfl (by first | rfl | fail)) ?_); conv => whnf) | (refine Exists.intro _ (And.intro (sput_all rfl (by first | rfl | fail)) ?_); conv => whnf) | (refine Exists.intro _ (And.intro rfl ?_); conv => whnf) | (refine And.intro (by first | (simp; done) | fail) ?_; conv => whnf) | fail)
 refine ⟨[], ?_, rfl, rfl, ?_, rfl⟩
 ·
  (repeat' (first | (refine wk_agg ?_) | (refine wk_cons ?_ ?_))) <;> first | rfl | fail
 ·
  (repeat' (first | exact trivial | fail)) <;> fail
def carI (l : List UInt64) : Nat → List UInt64
 | 0 => l
 | i + 1 => car1 (carI l i)
theorem carI_len {l : List UInt64} (h : l.length = 5) : ∀ i, (carI l i).length = 5
 | 0 => h
 | _ + 1 => rfl
theorem f85 (l : List UInt64) (hl : l.length = 5) : SCall Try.prog 41 [.agg (l.map .u64)] [] (.agg ((carL l).map .u64)) [] := by
 refine scall_of ttOk (by kernel_rfl : Try.prog.funcs[41]? = some Try.f41) rfl rfl rfl ?_
 try simp only [List.length_cons, List.length_nil, Nat.zero_add, Nat.reduceAdd]
 refine sw_ok ttOk mixed (by kernel_rfl) ?_
 conv => whnf
 repeat (fail)
 refine loop_rule ttOk mixed (by kernel_rfl) (ι := { i : Nat // i ≤ 2 }) (fun i => [(1, .p 0 0), (2, .p 1 0), (5, .i (i.1 : Int))]) (fun i => [some (.box ((carI l i.1).map .u64)), some (.box (List.replicate 5 (.u64 0)))]) (fun _ => 2) (fun i => 2 - i.1) ⟨0, by omega⟩ ?_ ?_
 ·
  refine Weak.sel [0, 1] rfl rfl ?_ ?_ rfl rfl
  ·
   (repeat' (first | exact trivial | refine And.intro ?_ ?_ | fail)) <;> first | rfl | fail
  ·
   (repeat' (first | exact trivial | refine And.intro ?_ ?_ | (refine wk_cons ?_ ?_))) <;> first | rfl | exact ren_eq (by first | (simp; done) | fail) (by first | rfl | fail) | fail
 ·
  rintro ⟨i, hi⟩
  obtain ⟨p, q, r, s, t, h5⟩ := ex5 (carI_len hl i)
  have hs : carI l (i + 1) = car1 [p, q, r, s, t] := by show car1 (carI l i) = _; rw [h5]
  dsimp only
  by_cases hi2 : i < 2
  ·
   have hlt : decide ((i : Int) < 2) = true := by simp; omega
   have hp1 : w64 ((i : Int) + 1) = ((i + 1 : Nat) : Int) := by simp only [w64_eq]; omega
   rw [h5]
   conv => whnf
   first | refine brT (by exact hlt) ?_ | fail
   conv => whnf
   repeat (fail)
   refine loop_rounds ttOk mixed (by kernel_rfl) 6 ?_
   conv => whnf
   repeat (first | (refine brT rfl ?_; conv => whnf) | (refine brF rfl ?_; conv => whnf) | (refine Exists.intro _ (And.intro rfl ?_); conv => whnf) | (refine And.intro (by first | omega | (simp; done) | fail) ?_; conv => whnf) | (refine And.intro (Nat.le_of_ble_eq_true rfl) ?_; conv => whnf) | (refine And.intro ⟨rfl, Nat.le_of_ble_eq_true rfl⟩ ?_; conv => whnf) | (refine And.intro (by kernel_rfl) ?_; conv => whnf) | fail)
   refine ⟨⟨i + 1, by omega⟩, by simp only; omega, ?_⟩
   dsimp only
   rw [hs]
   refine Weak.sel [0, 1] rfl rfl ?_ ?_ rfl rfl
   ·
    (repeat' (first | exact trivial | refine And.intro ?_ ?_ | fail)) <;> first | exact wk_i (by first | exact hp1 | exact hp1.symm | fail) | rfl | fail
   ·
    (repeat' (first | exact trivial | refine And.intro ?_ ?_ | (refine wk_cons ?_ ?_))) <;> first | rfl | fail
  ·
   obtain rfl : i = 2 := by omega
   have hfin : carI l 2 = carL l := rfl
   rw [hfin]
   have hcl := carL_len l
   conv => whnf
   first | refine brF (by rfl) ?_ | fail
   conv => whnf
   repeat (first | (refine Exists.intro _ (And.intro (sload_all rfl (by first | rfl | fail)) ?_); conv => whnf) | (refine Exists.intro _ (And.intro (sput_all rfl (by first | rfl | fail)) ?_); conv => whnf) | (refine Exists.intro _ (And.intro rfl ?_); conv => whnf) | (refine And.intro ⟨rfl, Nat.le_of_ble_eq_true rfl⟩ ?_; conv => whnf) | fail)
   refine ⟨[], ?_, rfl, rfl, ?_, rfl⟩
   ·
    (repeat' (first | (refine wk_agg ?_) | (refine wk_cons ?_ ?_))) <;> first | rfl | fail
   ·
    (repeat' (first | exact trivial | fail)) <;> fail
attribute [local irreducible] carL
theorem f26 {x y : List UInt64} (hx : x.length = 5) (hy : y.length = 5) : SCall Try.prog 45 [.agg (x.map .u64), .agg (y.map .u64)] [] (.agg ((addL x y).map .u64)) [] := by
 obtain ⟨a, b, c, d, e, rfl⟩ := ex5 hx
 obtain ⟨f, g, h, i, j, rfl⟩ := ex5 hy
 have h85 := f85 [a + f, b + g, c + h, d + i, e + j] rfl
 have hcl := carL_len [a + f, b + g, c + h, d + i, e + j]
 have hadd : addL [a, b, c, d, e] [f, g, h, i, j] = carL [a + f, b + g, c + h, d + i, e + j] := rfl
 rw [hadd]
 refine scall_of ttOk (by kernel_rfl : Try.prog.funcs[45]? = some Try.f45) rfl rfl rfl ?_
 try simp only [List.length_cons, List.length_nil, Nat.zero_add, Nat.reduceAdd]
 refine sw_ok ttOk mixed (by kernel_rfl) ?_
 conv => whnf
 repeat (first | (refine Exists.intro _ (And.intro (sload_all rfl (by first | rfl | fail)) ?_); conv => whnf) | (refine Exists.intro _ (And.intro (sput_all rfl (by first | rfl | fail)) ?_); conv => whnf) | (refine And.intro (by first | omega | (simp; done) | fail) ?_; conv => whnf) | fail)
 refine loop_rounds ttOk mixed (by kernel_rfl) 6 ?_
 conv => whnf
 repeat (first | (refine brT rfl ?_; conv => whnf) | (refine brF rfl ?_; conv => whnf) | (refine Exists.intro _ (And.intro (sload_all rfl (by first | rfl | fail)) ?_); conv => whnf) | (refine Exists.intro _ (And.intro rfl ?_); conv => whnf) | (refine And.intro (by first | omega | (simp; done) | fail) ?_; conv => whnf) | (refine And.intro (Nat.le_of_ble_eq_true rfl) ?_; conv => whnf) | (refine And.intro ⟨rfl, Nat.le_of_ble_eq_true rfl⟩ ?_; conv => whnf) | fail)
 refine ok1_callF [] [] true (h85) rfl rfl ⟨⟨rfl, by first | rfl | fail⟩, trivial, by first | rfl | fail, by first | simp [plainRf, plainR, plainT, plainW], ?_⟩
 conv => whnf
 repeat (first | (refine Exists.intro _ (And.intro (sload_all rfl (by first | rfl | (simp [hcl]; done) | fail)) ?_); conv => whnf) | (refine Exists.intro _ (And.intro (sput_all rfl (by first | rfl | (simp [hcl]; done) | fail)) ?_); conv => whnf) | (refine And.intro (by first | omega | (simp; omega) | fail) ?_; conv => whnf) | fail)
 refine ⟨[], ?_, rfl, rfl, ?_, rfl⟩
 ·
  (repeat' (first | (refine wk_agg ?_) | fail)) <;> first | exact ren_eq (by first | (simp; done) | fail) (by first | rfl | fail) | fail
 ·
  (repeat' (first | exact trivial | fail)) <;> fail
theorem c4_eq : UInt64.ofNat (Int.toNat 9007199254740988) = 9007199254740988 := by decide
theorem c72_eq : UInt64.ofNat (Int.toNat 72) = 72 := by decide
theorem f85x (a b c d e : UInt64) : SCall Try.prog 41 [.agg [.u64 a, .u64 b, .u64 c, .u64 d, .u64 e]] [] (.agg ((carL [a, b, c, d, e]).map .u64)) [] := f85 [a, b, c, d, e] rfl
theorem f27 {x y : List UInt64} (hx : x.length = 5) (hy : y.length = 5) : SCall Try.prog 46 [.agg (x.map .u64), .agg (y.map .u64)] [] (.agg ((subL x y).map .u64)) [] := by
 obtain ⟨a, b, c, d, e, rfl⟩ := ex5 hx
 obtain ⟨f, g, h, i, j, rfl⟩ := ex5 hy
 have hcl := fun m0 m1 m2 m3 m4 => carL_len [m0, m1, m2, m3, m4]
 have hsub : subL [a, b, c, d, e] [f, g, h, i, j] = carL [a + (UInt64.ofNat (Int.toNat 9007199254740988) - f) - UInt64.ofNat (Int.toNat 72), b + (UInt64.ofNat (Int.toNat 9007199254740988) - g), c + (UInt64.ofNat (Int.toNat 9007199254740988) - h), d + (UInt64.ofNat (Int.toNat 9007199254740988) - i), e + (UInt64.ofNat (Int.toNat 9007199254740988) - j)] := by
  rw [c4_eq, c72_eq]; rfl
 rw [hsub]
 refine scall_of ttOk (by kernel_rfl : Try.prog.funcs[46]? = some Try.f46) rfl rfl rfl ?_
 try simp only [List.length_cons, List.length_nil, Nat.zero_add, Nat.reduceAdd]
 refine sw_ok ttOk mixed (by kernel_rfl) ?_
 conv => whnf
 repeat (first | (refine Exists.intro _ (And.intro (sload_all rfl (by first | rfl | fail)) ?_); conv => whnf) | (refine Exists.intro _ (And.intro (sput_all rfl (by first | rfl | fail)) ?_); conv => whnf) | (refine And.intro (by first | omega | (simp; done) | fail) ?_; conv => whnf) | fail)
 refine loop_rounds ttOk mixed (by kernel_rfl) 6 ?_
 conv => whnf
 repeat (first | (refine brT rfl ?_; conv => whnf) | (refine brF rfl ?_; conv => whnf) | (refine Exists.intro _ (And.intro (sload_all rfl (by first | rfl | fail)) ?_); conv => whnf) | (refine Exists.intro _ (And.intro rfl ?_); conv => whnf) | (refine And.intro (by first | omega | (simp; done) | fail) ?_; conv => whnf) | (refine And.intro (Nat.le_of_ble_eq_true rfl) ?_; conv => whnf) | (refine And.intro ⟨rfl, Nat.le_of_ble_eq_true rfl⟩ ?_; conv => whnf) | fail)
 refine ok1_callF [] [] true (f85x _ _ _ _ _) rfl rfl ⟨⟨rfl, by first | rfl | fail⟩, trivial, by first | rfl | fail, by first | simp [plainRf, plainR, plainT, plainW], ?_⟩
 conv => whnf
 repeat (first | (refine Exists.intro _ (And.intro (sload_all rfl (by first | rfl | (simp [hcl]; done) | fail)) ?_); conv => whnf) | (refine Exists.intro _ (And.intro (sput_all rfl (by first | rfl | (simp [hcl]; done) | fail)) ?_); conv => whnf) | (refine And.intro ⟨by first | (simp [hcl]; done) | fail, by first | (simp [hcl]; done) | fail⟩ ?_; conv => whnf) | fail)
 refine ⟨[], ?_, rfl, rfl, ?_, rfl⟩
 ·
  (repeat' (first | (refine wk_agg ?_) | fail)) <;> first | exact ren_eq (by first | (simp; done) | fail) (by first | rfl | fail) | fail
 ·
  (repeat' (first | exact trivial | fail)) <;> fail
theorem m32_n (x : UInt64) : (x &&& 4294967295).toNat = x.toNat % 4294967296 := by
 rw [UInt64.toNat_and]
 exact Nat.and_two_pow_sub_one_eq_mod x.toNat 32
theorem mul64_eq (a b : UInt64) : shr64 a 32 * shr64 b 32 + shr64 (shr64 a 32 * (b &&& 4294967295) + shr64 ((a &&& 4294967295) * (b &&& 4294967295)) 32) 32 + shr64 ((shr64 a 32 * (b &&& 4294967295) + shr64 ((a &&& 4294967295) * (b &&& 4294967295)) 32 &&& 4294967295) + (a &&& 4294967295) * shr64 b 32) 32 = mhi a b := by
 have ha := UInt64.toNat_lt a
 have hb := UInt64.toNat_lt b
 have a1 := shr_n a 32 (by decide)
 have a0 := m32_n a
 have b1 := shr_n b 32 (by decide)
 have b0 := m32_n b
 have eA : a.toNat = a.toNat / 4294967296 * 4294967296 + a.toNat % 4294967296 := by omega
 have eB : b.toNat = b.toNat / 4294967296 * 4294967296 + b.toNat % 4294967296 := by omega
 rw [show (2 : Nat) ^ 32 = 4294967296 from rfl] at a1 b1
 have lA : a.toNat / 4294967296 ≤ 4294967295 := by omega
 have lB : b.toNat / 4294967296 ≤ 4294967295 := by omega
 have kA : a.toNat % 4294967296 ≤ 4294967295 := by omega
 have kB : b.toNat % 4294967296 ≤ 4294967295 := by omega
 apply UInt64.toNat_inj.mp
 rw [mhi_n]
 generalize shr64 a 32 = A1 at *
 generalize a &&& 4294967295 = A0 at *
 generalize shr64 b 32 = B1 at *
 generalize b &&& 4294967295 = B0 at *
 generalize a.toNat / 4294967296 = x1 at *
 generalize a.toNat % 4294967296 = x0 at *
 generalize b.toNat / 4294967296 = y1 at *
 generalize b.toNat % 4294967296 = y0 at *
 have p11 : x1 * y1 ≤ 4294967295 * 4294967295 := Nat.mul_le_mul lA lB
 have p10 : x1 * y0 ≤ 4294967295 * 4294967295 := Nat.mul_le_mul lA kB
 have p01 : x0 * y1 ≤ 4294967295 * 4294967295 := Nat.mul_le_mul kA lB
 have p00 : x0 * y0 ≤ 4294967295 * 4294967295 := Nat.mul_le_mul kA kB
 have n11 := mul_n A1 B1 (by rw [a1, b1]; omega)
 have n10 := mul_n A1 B0 (by rw [a1, b0]; omega)
 have n01 := mul_n A0 B1 (by rw [a0, b1]; omega)
 have n00 := mul_n A0 B0 (by rw [a0, b0]; omega)
 rw [a1, b1] at n11
 rw [a1, b0] at n10
 rw [a0, b1] at n01
 rw [a0, b0] at n00
 have s0 := shr_n (A0 * B0) 32 (by decide)
 rw [show (2 : Nat) ^ 32 = 4294967296 from rfl, n00] at s0
 have nt := add_n (A1 * B0) (shr64 (A0 * B0) 32) (by rw [n10, s0]; omega)
 rw [n10, s0] at nt
 generalize A1 * B0 + shr64 (A0 * B0) 32 = t at *
 have st := shr_n t 32 (by decide)
 have mt := m32_n t
 rw [show (2 : Nat) ^ 32 = 4294967296 from rfl, nt] at st
 rw [nt] at mt
 have nw := add_n (t &&& 4294967295) (A0 * B1) (by rw [mt, n01]; omega)
 rw [mt, n01] at nw
 generalize (t &&& 4294967295) + A0 * B1 = w at *
 have sw := shr_n w 32 (by decide)
 rw [show (2 : Nat) ^ 32 = 4294967296 from rfl, nw] at sw
 have prod : a.toNat * b.toNat = x1 * y1 * 18446744073709551616 + (x1 * y0 + x0 * y1) * 4294967296 + x0 * y0 := by rw [eA, eB]; grind
 rw [prod]
 have r1 := add_n (A1 * B1) (shr64 t 32) (by rw [n11, st]; omega)
 rw [n11, st] at r1
 rw [add_n _ _ (by rw [r1, sw]; omega), r1, sw]
 generalize x1 * y1 = P at *
 generalize x1 * y0 = Q at *
 generalize x0 * y1 = U at *
 generalize x0 * y0 = V at *
 omega
theorem f86 (a b : UInt64) : SCall Try.prog 47 [.u64 a, .u64 b] [] (.tup [.u64 (mhi a b), .u64 (a * b)]) [] := by
 have hm := mul64_eq a b
 refine scall_of ttOk (by kernel_rfl : Try.prog.funcs[47]? = some Try.f47) rfl rfl rfl ?_
 try simp only [List.length_cons, List.length_nil, Nat.zero_add, Nat.reduceAdd]
 refine sw_ok ttOk mixed (by kernel_rfl) ?_
 conv => whnf
 repeat (fail)
 refine ⟨[], ?_, rfl, rfl, ?_, rfl⟩
 ·
  (repeat' (first | (refine wk_tup ?_) | (refine wk_cons ?_ ?_))) <;> first | exact wk_u64 (by first | exact hm | exact hm.symm | fail) | rfl | fail
 ·
  (repeat' (first | exact trivial | fail)) <;> fail
theorem add0 {o : Oper} {R : RL} {H : HL} {L : Nat} {k : K1} {args : Array Operand} {tys : Array TypeId} (a b : UInt64) (ho : o.op = .call ⟨.value (.func 48), args, tys⟩) (hargs : evs R args.toList = some [.u64 a, .u64 b, .u64 0])
  (h : k (some (.tup [.u64 (a + b), .u64 (cy a b)])) [] [] L) : Ok1 Try.prog o R H L k :=
 ok1_add64 Try.f48 a b 0 (a + b) (cy a b) (by kernel_rfl) (by kernel_rfl) (by kernel_rfl) (by kernel_rfl) (by kernel_rfl) ho rfl hargs (by decide) (by rw [UInt64.toNat_add]; rfl) (by rw [cy_n]; rfl) h
theorem addc {o : Oper} {R : RL} {H : HL} {L : Nat} {k : K1} {args : Array Operand} {tys : Array TypeId} (a b u v : UInt64) (ho : o.op = .call ⟨.value (.func 48), args, tys⟩) (hargs : evs R args.toList = some [.u64 a, .u64 b, .u64 (cy u v)])
  (h : ∀ z, k (some (.tup [.u64 (a + b + cy u v), .u64 z])) [] [] L) : Ok1 Try.prog o R H L k := by
 have h1 := UInt64.toNat_lt a
 have h2 := UInt64.toNat_lt b
 have h3 := UInt64.toNat_lt u
 have h4 := UInt64.toNat_lt v
 have hc : (cy u v).toNat ≤ 1 := by rw [cy_n]; omega
 refine ok1_add64 Try.f48 a b (cy u v) (a + b + cy u v) (UInt64.ofNat ((a.toNat + b.toNat + (cy u v).toNat) / 18446744073709551616)) (by kernel_rfl) (by kernel_rfl) (by kernel_rfl) (by kernel_rfl) (by kernel_rfl) ho rfl hargs hc ?_ ?_ (h _)
 ·
  rw [UInt64.toNat_add, UInt64.toNat_add]
  show ((a.toNat + b.toNat) % 18446744073709551616 + _) % 18446744073709551616 = _
  omega
 ·
  rw [UInt64.toNat_ofNat', Nat.mod_eq_of_lt]; omega
end Go.Sh
namespace Go.Sh
open Go.Proofs
set_option maxHeartbeats 8000000
def wI (b : List UInt8) (i : Nat) : List UInt64 := (List.range 4).map fun k => wW b k (min 8 (i - 8 * k))
theorem wI_len (b : List UInt8) (i : Nat) : (wI b i).length = 4 := rng_len
theorem wI_0 (b : List UInt8) : wI b 0 = List.replicate 4 0 := rfl
theorem wI_32 (b : List UInt8) : wI b 32 = [wW b 0 8, wW b 1 8, wW b 2 8, wW b 3 8] := rfl
theorem wI_s (b : List UInt8) (i : Nat) (h : i < 32) : (wI b i).set (i / 8) ((wI b i).getD (i / 8) 0 ||| shl64 (b.getD i 0).toUInt64 (8 * (i % 8))) = wI b (i + 1) := by
 unfold wI
 rw [rng_getD (by omega)]
 apply List.ext_getElem?
 intro k
 rw [List.getElem?_set]
 by_cases hk : k < 4
 ·
  rw [List.getElem?_map, List.getElem?_range hk, List.getElem?_map, List.getElem?_range hk]
  simp only [Option.map_some, List.length_map, List.length_range]
  by_cases he : i / 8 = k
  ·
   subst he
   rw [if_pos rfl, if_pos (by omega)]
   have e1 : min 8 (i - 8 * (i / 8)) = i % 8 := by omega
   have e2 : min 8 (i + 1 - 8 * (i / 8)) = i % 8 + 1 := by omega
   rw [e1, e2]
   show some (wW b (i / 8) (i % 8) ||| _) = some (wW b (i / 8) (i % 8) ||| shl64 (b.getD (8 * (i / 8) + i % 8) 0).toUInt64 (8 * (i % 8)))
   rw [show 8 * (i / 8) + i % 8 = i by omega]
  ·
   rw [if_neg he]
   congr 2
   omega
 ·
  have h1 : ((List.range 4).map fun k => wW b k (min 8 (i - 8 * k))).length = 4 := rng_len
  have h2 : ((List.range 4).map fun k => wW b k (min 8 (i + 1 - 8 * k))).length = 4 := rng_len
  rw [if_neg (by omega), List.getElem?_eq_none (by omega), List.getElem?_eq_none (by omega)]
theorem t32 (i : Nat) (h : i < 32) : w64 ((i : Int).tdiv 8) = ((i / 8 : Nat) : Int) ∧ w64 (8 * (i : Int).tmod 8) = ((8 * (i % 8) : Nat) : Int) := by
 have : ∀ i : Nat, i < 32 → w64 ((i : Int).tdiv 8) = ((i / 8 : Nat) : Int) ∧ w64 (8 * (i : Int).tmod 8) = ((8 * (i % 8) : Nat) : Int) := by decide +kernel
 exact this i h
theorem cMf : UInt64.ofNat (Int.toNat 2251799813685247) = 2251799813685247 := by decide
theorem f21 (b : List UInt8) (hb : b.length = 32) : SCall Try.prog 31 [.agg (b.map .u8)] [] (.agg ((ofB b).map .u64)) [] := by
 refine scall_of ttOk (by kernel_rfl : Try.prog.funcs[31]? = some Try.f31) rfl rfl rfl ?_
 try simp only [List.length_cons, List.length_nil, Nat.zero_add, Nat.reduceAdd]
 refine sw_ok ttOk mixed (by kernel_rfl) ?_
 conv => whnf
 repeat (first | (refine Exists.intro _ (And.intro (sload_all rfl (by first | rfl | (simp [hb]; done) | fail)) ?_); conv => whnf) | fail)
 refine loop_rule ttOk mixed (by kernel_rfl) (ι := { i : Nat // i ≤ 32 }) (fun i => [(1, .p 0 0), (2, .p 1 0), (3, .p 2 0), (6, .agg (b.map .u8)), (7, .i (i.1 : Int))]) (fun i => [some (.box (b.map .u8)), some (.box (List.replicate 5 (.u64 0))), some (.box ((wI b i.1).map .u64))]) (fun _ => 3) (fun i => 32 - i.1) ⟨0, by omega⟩ ?_ ?_
 ·
  have hz := wI_0 b
  dsimp only
  rw [hz]
  refine Weak.sel [0, 1, 2] rfl rfl ?_ ?_ rfl rfl
  ·
   (repeat' (first | exact trivial | refine And.intro ?_ ?_ | (refine wk_agg ?_) | fail)) <;> first | rfl | exact ren_eq (by first | (simp; done) | fail) (by first | rfl | fail) | fail
  ·
   (repeat' (first | exact trivial | exact ren_z64 | refine And.intro ?_ ?_ | (refine wk_cons ?_ ?_))) <;> first | rfl | exact ren_eq (by first | (simp; done) | fail) (by first | rfl | fail) | fail
 ·
  rintro ⟨i, hi⟩
  dsimp only
  by_cases hi2 : i < 32
  ·
   have hlt : decide ((i : Int) < 32) = true := by simp; omega
   have hp1 : w64 ((i : Int) + 1) = ((i + 1 : Nat) : Int) := by simp only [w64_eq]; omega
   obtain ⟨hd, hm⟩ := t32 i hi2
   have hwl := wI_len b i
   have hst := wI_s b i hi2
   conv => whnf
   first | refine brT (by exact hlt) ?_ | fail
   conv => whnf
   repeat (first | (refine Exists.intro _ (And.intro (sload_u8 (i := i) (by first | rfl | (simp; done) | fail) (by first | omega | fail)) ?_); conv => whnf) | (refine Exists.intro _ (And.intro (idx_i (m := i) (by first | rfl | fail)) ?_); conv => whnf) | (refine Exists.intro _ (And.intro (sput_m64 (i := i / 8) (by first | rfl | (simp; done) | fail)) ?_); conv => whnf) | (refine Exists.intro _ (And.intro (sload_u64 (i := i / 8) (by first | rfl | (simp; done) | fail) (by first | omega | fail)) ?_); conv => whnf) | (refine Exists.intro _ (And.intro (idx_i (m := i / 8) (by first | rfl | omega | fail)) ?_); conv => whnf) | (refine Exists.intro _ (And.intro (shl_i64 (m := 8 * (i % 8)) (by first | rfl | omega | fail)) ?_); conv => whnf) | (refine Exists.intro _ (And.intro rfl ?_); conv => whnf) | (refine And.intro (by first | omega | (simp; omega) | fail) ?_; conv => whnf) | (refine And.intro (by kernel_rfl) ?_; conv => whnf) | fail)
   refine ⟨⟨i + 1, by omega⟩, by simp only; omega, ?_⟩
   refine Weak.sel [0, 1, 2] rfl rfl ?_ ?_ rfl rfl
   ·
    (repeat' (first | exact trivial | refine And.intro ?_ ?_ | (refine wk_agg ?_) | fail)) <;> first | exact wk_i (by first | exact hp1 | exact hp1.symm | fail) | rfl | exact ren_eq (by first | (simp; done) | fail) (by first | rfl | fail) | fail
   ·
    (repeat' (first | exact trivial | refine And.intro ?_ ?_ | (refine wk_cons ?_ ?_))) <;> first | rfl | exact ren_eq (by first | rfl | (simp; done) | fail) (by first | rfl | fail) | exact ren_m64 (by first | exact hst.symm | fail) | fail
  ·
   obtain rfl : i = 32 := by omega
   rw [wI_32]
   obtain ⟨w0, h0⟩ : ∃ w, w = wW b 0 8 := ⟨_, rfl⟩
   obtain ⟨w1, h1⟩ : ∃ w, w = wW b 1 8 := ⟨_, rfl⟩
   obtain ⟨w2, h2⟩ : ∃ w, w = wW b 2 8 := ⟨_, rfl⟩
   obtain ⟨w3, h3⟩ : ∃ w, w = wW b 3 8 := ⟨_, rfl⟩
   have ho : ofB b = [w0 &&& UInt64.ofNat (Int.toNat 2251799813685247), (shr64 w0 51 ||| shl64 w1 13) &&& UInt64.ofNat (Int.toNat 2251799813685247), (shr64 w1 38 ||| shl64 w2 26) &&& UInt64.ofNat (Int.toNat 2251799813685247), (shr64 w2 25 ||| shl64 w3 39) &&& UInt64.ofNat (Int.toNat 2251799813685247), shr64 w3 12 &&& UInt64.ofNat (Int.toNat 2251799813685247)] := by
    rw [cMf, h0, h1, h2, h3]; rfl
   rw [← h0, ← h1, ← h2, ← h3, ho]
   conv => whnf
   first | refine brF (by rfl) ?_ | fail
   conv => whnf
   repeat (first | (refine Exists.intro _ (And.intro (sload_all rfl (by first | rfl | fail)) ?_); conv => whnf) | (refine Exists.intro _ (And.intro (sput_all rfl (by first | rfl | fail)) ?_); conv => whnf) | (refine Exists.intro _ (And.intro rfl ?_); conv => whnf) | (refine And.intro (by first | omega | (simp; done) | fail) ?_; conv => whnf) | fail)
   refine ⟨[], ?_, rfl, rfl, ?_, rfl⟩
   ·
    (repeat' (first | (refine wk_agg ?_) | (refine wk_cons ?_ ?_))) <;> first | rfl | fail
   ·
    (repeat' (first | exact trivial | fail)) <;> fail
end Go.Sh
namespace Go.Sh
open Go.Proofs
set_option maxHeartbeats 8000000
def qC (m : List UInt64) : UInt64 := shr64 (m.getD 4 0 + shr64 (m.getD 3 0 + shr64 (m.getD 2 0 + shr64 (m.getD 1 0 + shr64 (m.getD 0 0 + UInt64.ofNat (Int.toNat 19)) 51) 51) 51) 51) 51
def rC (m : List UInt64) : Nat → UInt64
 | 0 => m.getD 0 0 + UInt64.ofNat (Int.toNat 19) * qC m
 | i + 1 => m.getD (i + 1) 0 + shr64 (rC m i) 51
def sC (m : List UInt64) (i : Nat) : UInt64 := rC m i &&& UInt64.ofNat (Int.toNat 2251799813685247)
def w4C (m : List UInt64) : List UInt64 := [sC m 0 ||| shl64 (sC m 1) 51, shr64 (sC m 1) 13 ||| shl64 (sC m 2) 38, shr64 (sC m 2) 26 ||| shl64 (sC m 3) 25, shr64 (sC m 3) 39 ||| shl64 (sC m 4) 12]
theorem c19f : UInt64.ofNat (Int.toNat 19) = 19 := by decide
theorem qC_eq (m : List UInt64) : qC m = qB m := by unfold qC qB; rw [c19f]
theorem rC_eq (m : List UInt64) : ∀ i, rC m i = rB m i
 | 0 => by unfold rC rB; rw [c19f, qC_eq]
 | i + 1 => by unfold rC rB; rw [rC_eq m i]
theorem w4C_eq (m : List UInt64) : w4C m = w4 m := by
 unfold w4C w4 sC sB
 rw [cMf, rC_eq, rC_eq, rC_eq, rC_eq, rC_eq]
def byF (m : List UInt64) (j : Nat) : UInt8 := (shr64 ((w4C m).getD (j / 8) 0) (8 * (j % 8))).toUInt8
theorem byF_all (m : List UInt64) : (List.range 32).map (byF m) = byB m := by unfold byB byF; rw [w4C_eq]
theorem bytes_of {x : List UInt64} (h : Nm x) : ∃ m0 m1 m2 m3 m4, carL x = [m0, m1, m2, m3, m4] ∧ byB [m0, m1, m2, m3, m4] = le32 (nr x) := by
 have hb : ∀ y ∈ x, y.toNat < 9223372036854775808 := fun y hy => Nat.lt_trans (h.2 y hy) (by decide)
 obtain ⟨k0, k1, k2, k3, k4, e, b0, b1, b2, b3, b4⟩ := carL_tight h.1 hb
 refine ⟨k0, k1, k2, k3, k4, e, ?_⟩
 rw [byB_val b0 b1 b2 b3 b4, ← e]
 congr 1
 exact (carL_ok h.1 hb).2
theorem w4C_len (m : List UInt64) : (w4C m).length = 4 := rfl
theorem f25 {x : List UInt64} (hx : Nm x) : SCall Try.prog 29 [.agg (x.map .u64)] [] (.agg ((le32 (nr x)).map .u8)) [] := by
 obtain ⟨m0, m1, m2, m3, m4, e, hb⟩ := bytes_of hx
 have h85 := f85 x hx.1
 rw [e] at h85
 rw [← hb]
 obtain ⟨x0, x1, x2, x3, x4, rfl⟩ := ex5 hx.1
 refine scall_of ttOk (by kernel_rfl : Try.prog.funcs[29]? = some Try.f29) rfl rfl rfl ?_
 try simp only [List.length_cons, List.length_nil, Nat.zero_add, Nat.reduceAdd]
 refine sw_ok ttOk mixed (by kernel_rfl) ?_
 conv => whnf
 repeat (first | (refine Exists.intro _ (And.intro (sload_all rfl (by first | rfl | fail)) ?_); conv => whnf) | fail)
 refine ok1_callF [] [] true (h85) rfl rfl ⟨⟨rfl, by first | rfl | fail⟩, trivial, by first | rfl | fail, by first | rfl | fail, ?_⟩
 conv => whnf
 repeat (first | (refine Exists.intro _ (And.intro (sload_all rfl (by first | rfl | fail)) ?_); conv => whnf) | (refine Exists.intro _ (And.intro (sput_all rfl (by first | rfl | fail)) ?_); conv => whnf) | (refine Exists.intro _ (And.intro rfl ?_); conv => whnf) | (refine And.intro (by first | omega | (simp; done) | fail) ?_; conv => whnf) | fail)
 refine loop_rounds ttOk mixed (by kernel_rfl) 5 ?_
 conv => whnf
 repeat (first | (refine brT rfl ?_; conv => whnf) | (refine brF rfl ?_; conv => whnf) | (refine Exists.intro _ (And.intro rfl ?_); conv => whnf) | (refine And.intro (by first | omega | (simp; done) | fail) ?_; conv => whnf) | (refine And.intro (Nat.le_of_ble_eq_true rfl) ?_; conv => whnf) | fail)
 refine loop_rounds ttOk mixed (by kernel_rfl) 5 ?_
 conv => whnf
 repeat (first | (refine brT rfl ?_; conv => whnf) | (refine brF rfl ?_; conv => whnf) | (refine Exists.intro _ (And.intro (sput_all rfl (by first | rfl | fail)) ?_); conv => whnf) | (refine Exists.intro _ (And.intro rfl ?_); conv => whnf) | (refine And.intro (by first | omega | (simp; done) | fail) ?_; conv => whnf) | (refine And.intro (Nat.le_of_ble_eq_true rfl) ?_; conv => whnf) | (refine And.intro ⟨rfl, Nat.le_of_ble_eq_true rfl⟩ ?_; conv => whnf) | (refine And.intro (by kernel_rfl) ?_; conv => whnf) | fail)
 obtain ⟨m, hm⟩ : ∃ m, m = [m0, m1, m2, m3, m4] := ⟨_, rfl⟩
 refine loop_rule ttOk mixed (by kernel_rfl) (ι := { j : Nat // j ≤ 32 }) (fun j => [(2, .p 1 0), (8, .p 3 0), (9, .p 4 0), (87, .i (j.1 : Int))]) (fun j => [none, some (.box (List.replicate 32 (.u8 0))), none, some (.box ((w4C m).map .u64)), some (.box ((fil 32 j.1 (byF m) (fun _ => 0)).map .u8))]) (fun _ => 5) (fun j => 32 - j.1) ⟨0, by omega⟩ ?_ ?_
 ·
  have hz : fil 32 0 (byF m) (fun _ => 0) = List.replicate 32 0 := fil_zero ..
  dsimp only
  rw [hz, hm]
  refine Weak.sel [0, 1, 2, 3, 4] rfl rfl ?_ ?_ rfl rfl
  ·
   (repeat' (first | exact trivial | refine And.intro ?_ ?_ | fail)) <;> first | rfl | fail
  ·
   (repeat' (first | exact trivial | exact ren_z8 | refine And.intro ?_ ?_ | (refine wk_cons ?_ ?_))) <;> first | rfl | fail
 ·
  rintro ⟨j, hj⟩
  rw [← hm]
  have hfl := fil_len 32 j (byF m) (fun _ => (0 : UInt8))
  have hwl := w4C_len m
  dsimp only
  by_cases hj2 : j < 32
  ·
   have hlt : decide ((j : Int) < 32) = true := by simp; omega
   have hp1 : w64 ((j : Int) + 1) = ((j + 1 : Nat) : Int) := by simp only [w64_eq]; omega
   obtain ⟨hd, hmm⟩ := t32 j hj2
   have hx : (shr64 ((w4C m).getD (j / 8) 0) (8 * (j % 8))).toUInt8 = byF m j := rfl
   have hst := fil_setx (g := fun _ => (0 : UInt8)) hj2 hx
   conv => whnf
   first | refine brT (by exact hlt) ?_ | fail
   conv => whnf
   repeat (first | (refine Exists.intro _ (And.intro (sput_m8 (i := j) (by first | rfl | (simp; done) | fail)) ?_); conv => whnf) | (refine Exists.intro _ (And.intro (idx_i (m := j) (by first | rfl | fail)) ?_); conv => whnf) | (refine Exists.intro _ (And.intro (sload_u64 (i := j / 8) (by first | rfl | (simp; done) | fail) (by first | omega | fail)) ?_); conv => whnf) | (refine Exists.intro _ (And.intro (idx_i (m := j / 8) (by first | rfl | omega | fail)) ?_); conv => whnf) | (refine Exists.intro _ (And.intro (shr_i64 (m := 8 * (j % 8)) (by first | rfl | omega | fail)) ?_); conv => whnf) | (refine Exists.intro _ (And.intro rfl ?_); conv => whnf) | (refine And.intro (by first | omega | (simp; omega) | fail) ?_; conv => whnf) | fail)
   refine ⟨⟨j + 1, by omega⟩, by simp only; omega, ?_⟩
   refine Weak.sel [0, 1, 2, 3, 4] rfl rfl ?_ ?_ rfl rfl
   ·
    (repeat' (first | exact trivial | refine And.intro ?_ ?_ | fail)) <;> first | exact wk_i (by first | exact hp1 | exact hp1.symm | fail) | rfl | fail
   ·
    (repeat' (first | exact trivial | refine And.intro ?_ ?_ | (refine wk_cons ?_ ?_))) <;> first | exact ren_m8 (by first | exact hst | exact hst.symm | fail) | rfl | fail
  ·
   obtain rfl : j = 32 := by omega
   rw [fil_full, byF_all]
   have hbl : (byB m).length = 32 := rng_len
   conv => whnf
   first | refine brF (by rfl) ?_ | fail
   conv => whnf
   repeat (first | (refine Exists.intro _ (And.intro (sload_all rfl (by first | rfl | fail)) ?_); conv => whnf) | (refine Exists.intro _ (And.intro (sput_all rfl (by first | rfl | fail)) ?_); conv => whnf) | (refine And.intro (by first | omega | (simp; omega) | fail) ?_; conv => whnf) | fail)
   refine ⟨[], ?_, rfl, rfl, ?_, rfl⟩
   ·
    (repeat' (first | (refine wk_agg ?_) | (refine wk_cons ?_ ?_))) <;> first | rfl | fail
   ·
    (repeat' (first | exact trivial | fail)) <;> fail
end Go.Sh
namespace Go.Sh
open Go.Proofs
set_option maxHeartbeats 8000000
def hiL (x y : List UInt64) (i : Nat) : List UInt64 := [hi x y i 0, hi x y i 1, hi x y i 2, hi x y i 3, hi x y i 4]
def loL (x y : List UInt64) (i : Nat) : List UInt64 := [lo x y i 0, lo x y i 1, lo x y i 2, lo x y i 3, lo x y i 4]
def ouL (x y : List UInt64) (k : Nat) : List UInt64 := (List.range 5).map fun j => if j < k then oO x y j else 0
theorem hiL_s (x y : List UInt64) (i : Nat) : hiL x y (i + 1) = [hi x y i 0 + mhi (x.getD i 0) (yw y i 0) + cy (lo x y i 0) (x.getD i 0 * yw y i 0), hi x y i 1 + mhi (x.getD i 0) (yw y i 1) + cy (lo x y i 1) (x.getD i 0 * yw y i 1), hi x y i 2 + mhi (x.getD i 0) (yw y i 2) + cy (lo x y i 2) (x.getD i 0 * yw y i 2), hi x y i 3 + mhi (x.getD i 0) (yw y i 3) + cy (lo x y i 3) (x.getD i 0 * yw y i 3), hi x y i 4 + mhi (x.getD i 0) (yw y i 4) + cy (lo x y i 4) (x.getD i 0 * yw y i 4)] := rfl
theorem loL_s (x y : List UInt64) (i : Nat) : loL x y (i + 1) = [lo x y i 0 + x.getD i 0 * yw y i 0, lo x y i 1 + x.getD i 0 * yw y i 1, lo x y i 2 + x.getD i 0 * yw y i 2, lo x y i 3 + x.getD i 0 * yw y i 3, lo x y i 4 + x.getD i 0 * yw y i 4] := rfl
theorem mulL_eq (x y : List UInt64) : mulL x y = carL [oO x y 0 + 19 * cO x y 5, oO x y 1, oO x y 2, oO x y 3, oO x y 4] := rfl
theorem cO_s (x y : List UInt64) (k : Nat) : cO x y (k + 1) = shl64 (hi x y 5 k + cy (lo x y 5 k) (cO x y k)) 13 ||| shr64 (lo x y 5 k + cO x y k) 51 := rfl
theorem cO_z (x y : List UInt64) : cO x y 0 = 0 := rfl
theorem cM : UInt64.ofNat (Int.toNat 2251799813685247) = 2251799813685247 := by decide
theorem c19 : UInt64.ofNat (Int.toNat 19) = 19 := by decide
attribute [local irreducible] carL cO mhi cy
theorem f28 {x y : List UInt64} (hx : x.length = 5) (hy : y.length = 5) : SCall Try.prog 39 [.agg (x.map .u64), .agg (y.map .u64)] [] (.agg ((mulL x y).map .u64)) [] := by
 obtain ⟨a, b, c, d, e, rfl⟩ := ex5 hx
 obtain ⟨f, g, h, i, j, rfl⟩ := ex5 hy
 obtain ⟨X, hX⟩ : ∃ X, X = [a, b, c, d, e] := ⟨_, rfl⟩
 obtain ⟨Y, hY⟩ : ∃ Y, Y = [f, g, h, i, j] := ⟨_, rfl⟩
 refine scall_of ttOk (by kernel_rfl : Try.prog.funcs[39]? = some Try.f39) rfl rfl rfl ?_
 try simp only [List.length_cons, List.length_nil, Nat.zero_add, Nat.reduceAdd]
 refine sw_ok ttOk mixed (by kernel_rfl) ?_
 conv => whnf
 repeat (first | (refine Exists.intro _ (And.intro (sload_all rfl (by first | rfl | fail)) ?_); conv => whnf) | fail)
 refine loop_rule ttOk mixed (by kernel_rfl) (ι := { n : Nat // n ≤ 5 }) (fun n => [(2, .p 0 0), (3, .p 1 0), (4, .p 2 0), (5, .p 3 0), (6, .p 4 0), (22, .agg [.u64 a, .u64 b, .u64 c, .u64 d, .u64 e]), (23, .i (n.1 : Int))]) (fun n => [some (.box [.u64 a, .u64 b, .u64 c, .u64 d, .u64 e]), some (.box [.u64 f, .u64 g, .u64 h, .u64 i, .u64 j]), some (.box (List.replicate 5 (.u64 0))), some (.box ((hiL X Y n.1).map .u64)), some (.box ((loL X Y n.1).map .u64))]) (fun _ => 5) (fun n => 5 - n.1) ⟨0, by omega⟩ ?_ ?_
 ·
  refine Weak.sel [0, 1, 2, 3, 4] rfl rfl ?_ ?_ rfl rfl
  ·
   (repeat' (first | exact trivial | refine And.intro ?_ ?_ | (refine wk_agg ?_) | (refine wk_cons ?_ ?_))) <;> first | rfl | fail
  ·
   (repeat' (first | exact trivial | refine And.intro ?_ ?_ | (refine wk_cons ?_ ?_))) <;> first | rfl | fail
 ·
  rintro ⟨n, hn⟩
  have h6 : n = 0 ∨ n = 1 ∨ n = 2 ∨ n = 3 ∨ n = 4 ∨ n = 5 := by omega
  rcases h6 with rfl | rfl | rfl | rfl | rfl | rfl
  ·
   obtain ⟨H0, hH0⟩ : ∃ z, z = hi X Y 0 0 := ⟨_, rfl⟩
   obtain ⟨L0, hL0⟩ : ∃ z, z = lo X Y 0 0 := ⟨_, rfl⟩
   obtain ⟨H1, hH1⟩ : ∃ z, z = hi X Y 0 1 := ⟨_, rfl⟩
   obtain ⟨L1, hL1⟩ : ∃ z, z = lo X Y 0 1 := ⟨_, rfl⟩
   obtain ⟨H2, hH2⟩ : ∃ z, z = hi X Y 0 2 := ⟨_, rfl⟩
   obtain ⟨L2, hL2⟩ : ∃ z, z = lo X Y 0 2 := ⟨_, rfl⟩
   obtain ⟨H3, hH3⟩ : ∃ z, z = hi X Y 0 3 := ⟨_, rfl⟩
   obtain ⟨L3, hL3⟩ : ∃ z, z = lo X Y 0 3 := ⟨_, rfl⟩
   obtain ⟨H4, hH4⟩ : ∃ z, z = hi X Y 0 4 := ⟨_, rfl⟩
   obtain ⟨L4, hL4⟩ : ∃ z, z = lo X Y 0 4 := ⟨_, rfl⟩
   have s1 : hiL X Y 0 = [H0, H1, H2, H3, H4] := by rw [hH0, hH1, hH2, hH3, hH4]; rfl
   have s2 : loL X Y 0 = [L0, L1, L2, L3, L4] := by rw [hL0, hL1, hL2, hL3, hL4]; rfl
   have e1 : hiL X Y 1 = [H0 + mhi a f + cy L0 (a * f), H1 + mhi a g + cy L1 (a * g), H2 + mhi a h + cy L2 (a * h), H3 + mhi a i + cy L3 (a * i), H4 + mhi a j + cy L4 (a * j)] := by rw [hiL_s, ← hH0, ← hH1, ← hH2, ← hH3, ← hH4, ← hL0, ← hL1, ← hL2, ← hL3, ← hL4, hX, hY]; rfl
   have e2 : loL X Y 1 = [L0 + a * f, L1 + a * g, L2 + a * h, L3 + a * i, L4 + a * j] := by rw [loL_s, ← hL0, ← hL1, ← hL2, ← hL3, ← hL4, hX, hY]; rfl
   dsimp only
   rw [s1, s2]
   conv => whnf
   first | refine brT (by rfl) ?_ | fail
   conv => whnf
   repeat (first | (refine Exists.intro _ (And.intro (sload_all rfl (by first | rfl | fail)) ?_); conv => whnf) | (refine Exists.intro _ (And.intro rfl ?_); conv => whnf) | (refine And.intro (by first | omega | fail) ?_; conv => whnf) | fail)
   refine loop_rounds ttOk mixed (by kernel_rfl) 6 ?_
   conv => whnf
   repeat (first | (refine brT rfl ?_; conv => whnf) | (refine brF rfl ?_; conv => whnf) | (refine Exists.intro _ (And.intro rfl ?_); conv => whnf) | (refine And.intro (by first | omega | fail) ?_; conv => whnf) | fail)
   refine ok1_callF [] [] true (f86 _ _) rfl rfl ⟨⟨rfl, by first | rfl | fail⟩, trivial, by first | rfl | fail, by first | rfl | fail, ?_⟩
   conv => whnf
   repeat (first | (refine Exists.intro _ (And.intro rfl ?_); conv => whnf) | (refine And.intro (Nat.le_of_ble_eq_true rfl) ?_; conv => whnf) | fail)
   refine add0 _ _ rfl rfl ?_
   conv => whnf
   repeat (first | (refine Exists.intro _ (And.intro rfl ?_); conv => whnf) | (refine And.intro (Nat.le_of_ble_eq_true rfl) ?_; conv => whnf) | (refine And.intro ⟨rfl, Nat.le_of_ble_eq_true rfl⟩ ?_; conv => whnf) | fail)
   refine addc _ _ _ _ rfl rfl (fun z => ?_)
   conv => whnf
   repeat (first | (refine brT rfl ?_; conv => whnf) | (refine brF rfl ?_; conv => whnf) | (refine Exists.intro _ (And.intro rfl ?_); conv => whnf) | (refine And.intro (Nat.le_of_ble_eq_true rfl) ?_; conv => whnf) | (refine And.intro ⟨rfl, Nat.le_of_ble_eq_true rfl⟩ ?_; conv => whnf) | fail)
   refine ok1_callF [] [] true (f86 _ _) rfl rfl ⟨⟨rfl, by first | rfl | fail⟩, trivial, by first | rfl | fail, by first | rfl | fail, ?_⟩
   conv => whnf
   repeat (first | (refine Exists.intro _ (And.intro rfl ?_); conv => whnf) | (refine And.intro (Nat.le_of_ble_eq_true rfl) ?_; conv => whnf) | fail)
   refine add0 _ _ rfl rfl ?_
   conv => whnf
   repeat (first | (refine Exists.intro _ (And.intro rfl ?_); conv => whnf) | (refine And.intro (Nat.le_of_ble_eq_true rfl) ?_; conv => whnf) | (refine And.intro ⟨rfl, Nat.le_of_ble_eq_true rfl⟩ ?_; conv => whnf) | fail)
   refine addc _ _ _ _ rfl rfl (fun z => ?_)
   conv => whnf
   repeat (first | (refine brT rfl ?_; conv => whnf) | (refine brF rfl ?_; conv => whnf) | (refine Exists.intro _ (And.intro rfl ?_); conv => whnf) | (refine And.intro (Nat.le_of_ble_eq_true rfl) ?_; conv => whnf) | (refine And.intro ⟨rfl, Nat.le_of_ble_eq_true rfl⟩ ?_; conv => whnf) | fail)
   refine ok1_callF [] [] true (f86 _ _) rfl rfl ⟨⟨rfl, by first | rfl | fail⟩, trivial, by first | rfl | fail, by first | rfl | fail, ?_⟩
   conv => whnf
   repeat (first | (refine Exists.intro _ (And.intro rfl ?_); conv => whnf) | (refine And.intro (Nat.le_of_ble_eq_true rfl) ?_; conv => whnf) | fail)
   refine add0 _ _ rfl rfl ?_
   conv => whnf
   repeat (first | (refine Exists.intro _ (And.intro rfl ?_); conv => whnf) | (refine And.intro (Nat.le_of_ble_eq_true rfl) ?_; conv => whnf) | (refine And.intro ⟨rfl, Nat.le_of_ble_eq_true rfl⟩ ?_; conv => whnf) | fail)
   refine addc _ _ _ _ rfl rfl (fun z => ?_)
   conv => whnf
   repeat (first | (refine brT rfl ?_; conv => whnf) | (refine brF rfl ?_; conv => whnf) | (refine Exists.intro _ (And.intro rfl ?_); conv => whnf) | (refine And.intro (Nat.le_of_ble_eq_true rfl) ?_; conv => whnf) | (refine And.intro ⟨rfl, Nat.le_of_ble_eq_true rfl⟩ ?_; conv => whnf) | fail)
   refine ok1_callF [] [] true (f86 _ _) rfl rfl ⟨⟨rfl, by first | rfl | fail⟩, trivial, by first | rfl | fail, by first | rfl | fail, ?_⟩
   conv => whnf
   repeat (first | (refine Exists.intro _ (And.intro rfl ?_); conv => whnf) | (refine And.intro (Nat.le_of_ble_eq_true rfl) ?_; conv => whnf) | fail)
   refine add0 _ _ rfl rfl ?_
   conv => whnf
   repeat (first | (refine Exists.intro _ (And.intro rfl ?_); conv => whnf) | (refine And.intro (Nat.le_of_ble_eq_true rfl) ?_; conv => whnf) | (refine And.intro ⟨rfl, Nat.le_of_ble_eq_true rfl⟩ ?_; conv => whnf) | fail)
   refine addc _ _ _ _ rfl rfl (fun z => ?_)
   conv => whnf
   repeat (first | (refine brT rfl ?_; conv => whnf) | (refine brF rfl ?_; conv => whnf) | (refine Exists.intro _ (And.intro rfl ?_); conv => whnf) | (refine And.intro (Nat.le_of_ble_eq_true rfl) ?_; conv => whnf) | (refine And.intro ⟨rfl, Nat.le_of_ble_eq_true rfl⟩ ?_; conv => whnf) | fail)
   refine ok1_callF [] [] true (f86 _ _) rfl rfl ⟨⟨rfl, by first | rfl | fail⟩, trivial, by first | rfl | fail, by first | rfl | fail, ?_⟩
   conv => whnf
   repeat (first | (refine Exists.intro _ (And.intro rfl ?_); conv => whnf) | (refine And.intro (Nat.le_of_ble_eq_true rfl) ?_; conv => whnf) | fail)
   refine add0 _ _ rfl rfl ?_
   conv => whnf
   repeat (first | (refine Exists.intro _ (And.intro rfl ?_); conv => whnf) | (refine And.intro (Nat.le_of_ble_eq_true rfl) ?_; conv => whnf) | (refine And.intro ⟨rfl, Nat.le_of_ble_eq_true rfl⟩ ?_; conv => whnf) | fail)
   refine addc _ _ _ _ rfl rfl (fun z => ?_)
   conv => whnf
   repeat (first | (refine brF rfl ?_; conv => whnf) | (refine Exists.intro _ (And.intro rfl ?_); conv => whnf) | (refine And.intro (Nat.le_of_ble_eq_true rfl) ?_; conv => whnf) | (refine And.intro ⟨rfl, Nat.le_of_ble_eq_true rfl⟩ ?_; conv => whnf) | fail)
   refine ⟨⟨1, by omega⟩, by simp only; omega, ?_⟩
   dsimp only
   rw [e1, e2]
   refine Weak.sel [0, 1, 2, 3, 4] rfl rfl ?_ ?_ rfl rfl
   ·
    (repeat' (first | exact trivial | refine And.intro ?_ ?_ | (refine wk_agg ?_) | (refine wk_cons ?_ ?_))) <;> first | rfl | fail
   ·
    (repeat' (first | exact trivial | refine And.intro ?_ ?_ | (refine wk_cons ?_ ?_))) <;> first | rfl | fail
  ·
   obtain ⟨H0, hH0⟩ : ∃ z, z = hi X Y 1 0 := ⟨_, rfl⟩
   obtain ⟨L0, hL0⟩ : ∃ z, z = lo X Y 1 0 := ⟨_, rfl⟩
   obtain ⟨H1, hH1⟩ : ∃ z, z = hi X Y 1 1 := ⟨_, rfl⟩
   obtain ⟨L1, hL1⟩ : ∃ z, z = lo X Y 1 1 := ⟨_, rfl⟩
   obtain ⟨H2, hH2⟩ : ∃ z, z = hi X Y 1 2 := ⟨_, rfl⟩
   obtain ⟨L2, hL2⟩ : ∃ z, z = lo X Y 1 2 := ⟨_, rfl⟩
   obtain ⟨H3, hH3⟩ : ∃ z, z = hi X Y 1 3 := ⟨_, rfl⟩
   obtain ⟨L3, hL3⟩ : ∃ z, z = lo X Y 1 3 := ⟨_, rfl⟩
   obtain ⟨H4, hH4⟩ : ∃ z, z = hi X Y 1 4 := ⟨_, rfl⟩
   obtain ⟨L4, hL4⟩ : ∃ z, z = lo X Y 1 4 := ⟨_, rfl⟩
   have s1 : hiL X Y 1 = [H0, H1, H2, H3, H4] := by rw [hH0, hH1, hH2, hH3, hH4]; rfl
   have s2 : loL X Y 1 = [L0, L1, L2, L3, L4] := by rw [hL0, hL1, hL2, hL3, hL4]; rfl
   have e1 : hiL X Y 2 = [H0 + mhi b (j * UInt64.ofNat (Int.toNat 19)) + cy L0 (b * (j * UInt64.ofNat (Int.toNat 19))), H1 + mhi b f + cy L1 (b * f), H2 + mhi b g + cy L2 (b * g), H3 + mhi b h + cy L3 (b * h), H4 + mhi b i + cy L4 (b * i)] := by rw [hiL_s, ← hH0, ← hH1, ← hH2, ← hH3, ← hH4, ← hL0, ← hL1, ← hL2, ← hL3, ← hL4, hX, hY, c19]; rfl
   have e2 : loL X Y 2 = [L0 + b * (j * UInt64.ofNat (Int.toNat 19)), L1 + b * f, L2 + b * g, L3 + b * h, L4 + b * i] := by rw [loL_s, ← hL0, ← hL1, ← hL2, ← hL3, ← hL4, hX, hY, c19]; rfl
   dsimp only
   rw [s1, s2]
   conv => whnf
   first | refine brT (by rfl) ?_ | fail
   conv => whnf
   repeat (first | (refine Exists.intro _ (And.intro (sload_all rfl (by first | rfl | fail)) ?_); conv => whnf) | (refine Exists.intro _ (And.intro rfl ?_); conv => whnf) | (refine And.intro (by first | omega | fail) ?_; conv => whnf) | fail)
   refine loop_rounds ttOk mixed (by kernel_rfl) 6 ?_
   conv => whnf
   repeat (first | (refine brT rfl ?_; conv => whnf) | (refine brF rfl ?_; conv => whnf) | (refine Exists.intro _ (And.intro rfl ?_); conv => whnf) | (refine And.intro (by first | omega | fail) ?_; conv => whnf) | fail)
   refine ok1_callF [] [] true (f86 _ _) rfl rfl ⟨⟨rfl, by first | rfl | fail⟩, trivial, by first | rfl | fail, by first | rfl | fail, ?_⟩
   conv => whnf
   repeat (first | (refine Exists.intro _ (And.intro rfl ?_); conv => whnf) | (refine And.intro (Nat.le_of_ble_eq_true rfl) ?_; conv => whnf) | fail)
   refine add0 _ _ rfl rfl ?_
   conv => whnf
   repeat (first | (refine Exists.intro _ (And.intro rfl ?_); conv => whnf) | (refine And.intro (Nat.le_of_ble_eq_true rfl) ?_; conv => whnf) | (refine And.intro ⟨rfl, Nat.le_of_ble_eq_true rfl⟩ ?_; conv => whnf) | fail)
   refine addc _ _ _ _ rfl rfl (fun z => ?_)
   conv => whnf
   repeat (first | (refine brT rfl ?_; conv => whnf) | (refine brF rfl ?_; conv => whnf) | (refine Exists.intro _ (And.intro rfl ?_); conv => whnf) | (refine And.intro (Nat.le_of_ble_eq_true rfl) ?_; conv => whnf) | (refine And.intro ⟨rfl, Nat.le_of_ble_eq_true rfl⟩ ?_; conv => whnf) | fail)
   refine ok1_callF [] [] true (f86 _ _) rfl rfl ⟨⟨rfl, by first | rfl | fail⟩, trivial, by first | rfl | fail, by first | rfl | fail, ?_⟩
   conv => whnf
   repeat (first | (refine Exists.intro _ (And.intro rfl ?_); conv => whnf) | (refine And.intro (Nat.le_of_ble_eq_true rfl) ?_; conv => whnf) | fail)
   refine add0 _ _ rfl rfl ?_
   conv => whnf
   repeat (first | (refine Exists.intro _ (And.intro rfl ?_); conv => whnf) | (refine And.intro (Nat.le_of_ble_eq_true rfl) ?_; conv => whnf) | (refine And.intro ⟨rfl, Nat.le_of_ble_eq_true rfl⟩ ?_; conv => whnf) | fail)
   refine addc _ _ _ _ rfl rfl (fun z => ?_)
   conv => whnf
   repeat (first | (refine brT rfl ?_; conv => whnf) | (refine brF rfl ?_; conv => whnf) | (refine Exists.intro _ (And.intro rfl ?_); conv => whnf) | (refine And.intro (Nat.le_of_ble_eq_true rfl) ?_; conv => whnf) | (refine And.intro ⟨rfl, Nat.le_of_ble_eq_true rfl⟩ ?_; conv => whnf) | fail)
   refine ok1_callF [] [] true (f86 _ _) rfl rfl ⟨⟨rfl, by first | rfl | fail⟩, trivial, by first | rfl | fail, by first | rfl | fail, ?_⟩
   conv => whnf
   repeat (first | (refine Exists.intro _ (And.intro rfl ?_); conv => whnf) | (refine And.intro (Nat.le_of_ble_eq_true rfl) ?_; conv => whnf) | fail)
   refine add0 _ _ rfl rfl ?_
   conv => whnf
   repeat (first | (refine Exists.intro _ (And.intro rfl ?_); conv => whnf) | (refine And.intro (Nat.le_of_ble_eq_true rfl) ?_; conv => whnf) | (refine And.intro ⟨rfl, Nat.le_of_ble_eq_true rfl⟩ ?_; conv => whnf) | fail)
   refine addc _ _ _ _ rfl rfl (fun z => ?_)
   conv => whnf
   repeat (first | (refine brT rfl ?_; conv => whnf) | (refine brF rfl ?_; conv => whnf) | (refine Exists.intro _ (And.intro rfl ?_); conv => whnf) | (refine And.intro (Nat.le_of_ble_eq_true rfl) ?_; conv => whnf) | (refine And.intro ⟨rfl, Nat.le_of_ble_eq_true rfl⟩ ?_; conv => whnf) | fail)
   refine ok1_callF [] [] true (f86 _ _) rfl rfl ⟨⟨rfl, by first | rfl | fail⟩, trivial, by first | rfl | fail, by first | rfl | fail, ?_⟩
   conv => whnf
   repeat (first | (refine Exists.intro _ (And.intro rfl ?_); conv => whnf) | (refine And.intro (Nat.le_of_ble_eq_true rfl) ?_; conv => whnf) | fail)
   refine add0 _ _ rfl rfl ?_
   conv => whnf
   repeat (first | (refine Exists.intro _ (And.intro rfl ?_); conv => whnf) | (refine And.intro (Nat.le_of_ble_eq_true rfl) ?_; conv => whnf) | (refine And.intro ⟨rfl, Nat.le_of_ble_eq_true rfl⟩ ?_; conv => whnf) | fail)
   refine addc _ _ _ _ rfl rfl (fun z => ?_)
   conv => whnf
   repeat (first | (refine brT rfl ?_; conv => whnf) | (refine Exists.intro _ (And.intro rfl ?_); conv => whnf) | (refine And.intro (Nat.le_of_ble_eq_true rfl) ?_; conv => whnf) | (refine And.intro ⟨rfl, Nat.le_of_ble_eq_true rfl⟩ ?_; conv => whnf) | fail)
   refine ok1_callF [] [] true (f86 _ _) rfl rfl ⟨⟨rfl, by first | rfl | fail⟩, trivial, by first | rfl | fail, by first | rfl | fail, ?_⟩
   conv => whnf
   repeat (first | (refine Exists.intro _ (And.intro rfl ?_); conv => whnf) | (refine And.intro (Nat.le_of_ble_eq_true rfl) ?_; conv => whnf) | fail)
   refine add0 _ _ rfl rfl ?_
   conv => whnf
   repeat (first | (refine Exists.intro _ (And.intro rfl ?_); conv => whnf) | (refine And.intro (Nat.le_of_ble_eq_true rfl) ?_; conv => whnf) | (refine And.intro ⟨rfl, Nat.le_of_ble_eq_true rfl⟩ ?_; conv => whnf) | fail)
   refine addc _ _ _ _ rfl rfl (fun z => ?_)
   conv => whnf
   repeat (first | (refine brF rfl ?_; conv => whnf) | (refine Exists.intro _ (And.intro rfl ?_); conv => whnf) | (refine And.intro (Nat.le_of_ble_eq_true rfl) ?_; conv => whnf) | (refine And.intro ⟨rfl, Nat.le_of_ble_eq_true rfl⟩ ?_; conv => whnf) | fail)
   refine ⟨⟨2, by omega⟩, by simp only; omega, ?_⟩
   dsimp only
   rw [e1, e2]
   refine Weak.sel [0, 1, 2, 3, 4] rfl rfl ?_ ?_ rfl rfl
   ·
    (repeat' (first | exact trivial | refine And.intro ?_ ?_ | (refine wk_agg ?_) | (refine wk_cons ?_ ?_))) <;> first | rfl | fail
   ·
    (repeat' (first | exact trivial | refine And.intro ?_ ?_ | (refine wk_cons ?_ ?_))) <;> first | rfl | fail
  ·
   obtain ⟨H0, hH0⟩ : ∃ z, z = hi X Y 2 0 := ⟨_, rfl⟩
   obtain ⟨L0, hL0⟩ : ∃ z, z = lo X Y 2 0 := ⟨_, rfl⟩
   obtain ⟨H1, hH1⟩ : ∃ z, z = hi X Y 2 1 := ⟨_, rfl⟩
   obtain ⟨L1, hL1⟩ : ∃ z, z = lo X Y 2 1 := ⟨_, rfl⟩
   obtain ⟨H2, hH2⟩ : ∃ z, z = hi X Y 2 2 := ⟨_, rfl⟩
   obtain ⟨L2, hL2⟩ : ∃ z, z = lo X Y 2 2 := ⟨_, rfl⟩
   obtain ⟨H3, hH3⟩ : ∃ z, z = hi X Y 2 3 := ⟨_, rfl⟩
   obtain ⟨L3, hL3⟩ : ∃ z, z = lo X Y 2 3 := ⟨_, rfl⟩
   obtain ⟨H4, hH4⟩ : ∃ z, z = hi X Y 2 4 := ⟨_, rfl⟩
   obtain ⟨L4, hL4⟩ : ∃ z, z = lo X Y 2 4 := ⟨_, rfl⟩
   have s1 : hiL X Y 2 = [H0, H1, H2, H3, H4] := by rw [hH0, hH1, hH2, hH3, hH4]; rfl
   have s2 : loL X Y 2 = [L0, L1, L2, L3, L4] := by rw [hL0, hL1, hL2, hL3, hL4]; rfl
   have e1 : hiL X Y 3 = [H0 + mhi c (i * UInt64.ofNat (Int.toNat 19)) + cy L0 (c * (i * UInt64.ofNat (Int.toNat 19))), H1 + mhi c (j * UInt64.ofNat (Int.toNat 19)) + cy L1 (c * (j * UInt64.ofNat (Int.toNat 19))), H2 + mhi c f + cy L2 (c * f), H3 + mhi c g + cy L3 (c * g), H4 + mhi c h + cy L4 (c * h)] := by rw [hiL_s, ← hH0, ← hH1, ← hH2, ← hH3, ← hH4, ← hL0, ← hL1, ← hL2, ← hL3, ← hL4, hX, hY, c19]; rfl
   have e2 : loL X Y 3 = [L0 + c * (i * UInt64.ofNat (Int.toNat 19)), L1 + c * (j * UInt64.ofNat (Int.toNat 19)), L2 + c * f, L3 + c * g, L4 + c * h] := by rw [loL_s, ← hL0, ← hL1, ← hL2, ← hL3, ← hL4, hX, hY, c19]; rfl
   dsimp only
   rw [s1, s2]
   conv => whnf
   first | refine brT (by rfl) ?_ | fail
   conv => whnf
   repeat (first | (refine Exists.intro _ (And.intro (sload_all rfl (by first | rfl | fail)) ?_); conv => whnf) | (refine Exists.intro _ (And.intro rfl ?_); conv => whnf) | (refine And.intro (by first | omega | fail) ?_; conv => whnf) | fail)
   refine loop_rounds ttOk mixed (by kernel_rfl) 6 ?_
   conv => whnf
   repeat (first | (refine brT rfl ?_; conv => whnf) | (refine brF rfl ?_; conv => whnf) | (refine Exists.intro _ (And.intro rfl ?_); conv => whnf) | (refine And.intro (by first | omega | fail) ?_; conv => whnf) | fail)
   refine ok1_callF [] [] true (f86 _ _) rfl rfl ⟨⟨rfl, by first | rfl | fail⟩, trivial, by first | rfl | fail, by first | rfl | fail, ?_⟩
   conv => whnf
   repeat (first | (refine Exists.intro _ (And.intro rfl ?_); conv => whnf) | (refine And.intro (Nat.le_of_ble_eq_true rfl) ?_; conv => whnf) | fail)
   refine add0 _ _ rfl rfl ?_
   conv => whnf
   repeat (first | (refine Exists.intro _ (And.intro rfl ?_); conv => whnf) | (refine And.intro (Nat.le_of_ble_eq_true rfl) ?_; conv => whnf) | (refine And.intro ⟨rfl, Nat.le_of_ble_eq_true rfl⟩ ?_; conv => whnf) | fail)
   refine addc _ _ _ _ rfl rfl (fun z => ?_)
   conv => whnf
   repeat (first | (refine brT rfl ?_; conv => whnf) | (refine brF rfl ?_; conv => whnf) | (refine Exists.intro _ (And.intro rfl ?_); conv => whnf) | (refine And.intro (Nat.le_of_ble_eq_true rfl) ?_; conv => whnf) | (refine And.intro ⟨rfl, Nat.le_of_ble_eq_true rfl⟩ ?_; conv => whnf) | fail)
   refine ok1_callF [] [] true (f86 _ _) rfl rfl ⟨⟨rfl, by first | rfl | fail⟩, trivial, by first | rfl | fail, by first | rfl | fail, ?_⟩
   conv => whnf
   repeat (first | (refine Exists.intro _ (And.intro rfl ?_); conv => whnf) | (refine And.intro (Nat.le_of_ble_eq_true rfl) ?_; conv => whnf) | fail)
   refine add0 _ _ rfl rfl ?_
   conv => whnf
   repeat (first | (refine Exists.intro _ (And.intro rfl ?_); conv => whnf) | (refine And.intro (Nat.le_of_ble_eq_true rfl) ?_; conv => whnf) | (refine And.intro ⟨rfl, Nat.le_of_ble_eq_true rfl⟩ ?_; conv => whnf) | fail)
   refine addc _ _ _ _ rfl rfl (fun z => ?_)
   conv => whnf
   repeat (first | (refine brT rfl ?_; conv => whnf) | (refine brF rfl ?_; conv => whnf) | (refine Exists.intro _ (And.intro rfl ?_); conv => whnf) | (refine And.intro (Nat.le_of_ble_eq_true rfl) ?_; conv => whnf) | (refine And.intro ⟨rfl, Nat.le_of_ble_eq_true rfl⟩ ?_; conv => whnf) | fail)
   refine ok1_callF [] [] true (f86 _ _) rfl rfl ⟨⟨rfl, by first | rfl | fail⟩, trivial, by first | rfl | fail, by first | rfl | fail, ?_⟩
   conv => whnf
   repeat (first | (refine Exists.intro _ (And.intro rfl ?_); conv => whnf) | (refine And.intro (Nat.le_of_ble_eq_true rfl) ?_; conv => whnf) | fail)
   refine add0 _ _ rfl rfl ?_
   conv => whnf
   repeat (first | (refine Exists.intro _ (And.intro rfl ?_); conv => whnf) | (refine And.intro (Nat.le_of_ble_eq_true rfl) ?_; conv => whnf) | (refine And.intro ⟨rfl, Nat.le_of_ble_eq_true rfl⟩ ?_; conv => whnf) | fail)
   refine addc _ _ _ _ rfl rfl (fun z => ?_)
   conv => whnf
   repeat (first | (refine brT rfl ?_; conv => whnf) | (refine Exists.intro _ (And.intro rfl ?_); conv => whnf) | (refine And.intro (Nat.le_of_ble_eq_true rfl) ?_; conv => whnf) | (refine And.intro ⟨rfl, Nat.le_of_ble_eq_true rfl⟩ ?_; conv => whnf) | fail)
   refine ok1_callF [] [] true (f86 _ _) rfl rfl ⟨⟨rfl, by first | rfl | fail⟩, trivial, by first | rfl | fail, by first | rfl | fail, ?_⟩
   conv => whnf
   repeat (first | (refine Exists.intro _ (And.intro rfl ?_); conv => whnf) | (refine And.intro (Nat.le_of_ble_eq_true rfl) ?_; conv => whnf) | fail)
   refine add0 _ _ rfl rfl ?_
   conv => whnf
   repeat (first | (refine Exists.intro _ (And.intro rfl ?_); conv => whnf) | (refine And.intro (Nat.le_of_ble_eq_true rfl) ?_; conv => whnf) | (refine And.intro ⟨rfl, Nat.le_of_ble_eq_true rfl⟩ ?_; conv => whnf) | fail)
   refine addc _ _ _ _ rfl rfl (fun z => ?_)
   conv => whnf
   repeat (first | (refine brT rfl ?_; conv => whnf) | (refine Exists.intro _ (And.intro rfl ?_); conv => whnf) | (refine And.intro (Nat.le_of_ble_eq_true rfl) ?_; conv => whnf) | (refine And.intro ⟨rfl, Nat.le_of_ble_eq_true rfl⟩ ?_; conv => whnf) | fail)
   refine ok1_callF [] [] true (f86 _ _) rfl rfl ⟨⟨rfl, by first | rfl | fail⟩, trivial, by first | rfl | fail, by first | rfl | fail, ?_⟩
   conv => whnf
   repeat (first | (refine Exists.intro _ (And.intro rfl ?_); conv => whnf) | (refine And.intro (Nat.le_of_ble_eq_true rfl) ?_; conv => whnf) | fail)
   refine add0 _ _ rfl rfl ?_
   conv => whnf
   repeat (first | (refine Exists.intro _ (And.intro rfl ?_); conv => whnf) | (refine And.intro (Nat.le_of_ble_eq_true rfl) ?_; conv => whnf) | (refine And.intro ⟨rfl, Nat.le_of_ble_eq_true rfl⟩ ?_; conv => whnf) | fail)
   refine addc _ _ _ _ rfl rfl (fun z => ?_)
   conv => whnf
   repeat (first | (refine brF rfl ?_; conv => whnf) | (refine Exists.intro _ (And.intro rfl ?_); conv => whnf) | (refine And.intro (Nat.le_of_ble_eq_true rfl) ?_; conv => whnf) | (refine And.intro ⟨rfl, Nat.le_of_ble_eq_true rfl⟩ ?_; conv => whnf) | fail)
   refine ⟨⟨3, by omega⟩, by simp only; omega, ?_⟩
   dsimp only
   rw [e1, e2]
   refine Weak.sel [0, 1, 2, 3, 4] rfl rfl ?_ ?_ rfl rfl
   ·
    (repeat' (first | exact trivial | refine And.intro ?_ ?_ | (refine wk_agg ?_) | (refine wk_cons ?_ ?_))) <;> first | rfl | fail
   ·
    (repeat' (first | exact trivial | refine And.intro ?_ ?_ | (refine wk_cons ?_ ?_))) <;> first | rfl | fail
  ·
   obtain ⟨H0, hH0⟩ : ∃ z, z = hi X Y 3 0 := ⟨_, rfl⟩
   obtain ⟨L0, hL0⟩ : ∃ z, z = lo X Y 3 0 := ⟨_, rfl⟩
   obtain ⟨H1, hH1⟩ : ∃ z, z = hi X Y 3 1 := ⟨_, rfl⟩
   obtain ⟨L1, hL1⟩ : ∃ z, z = lo X Y 3 1 := ⟨_, rfl⟩
   obtain ⟨H2, hH2⟩ : ∃ z, z = hi X Y 3 2 := ⟨_, rfl⟩
   obtain ⟨L2, hL2⟩ : ∃ z, z = lo X Y 3 2 := ⟨_, rfl⟩
   obtain ⟨H3, hH3⟩ : ∃ z, z = hi X Y 3 3 := ⟨_, rfl⟩
   obtain ⟨L3, hL3⟩ : ∃ z, z = lo X Y 3 3 := ⟨_, rfl⟩
   obtain ⟨H4, hH4⟩ : ∃ z, z = hi X Y 3 4 := ⟨_, rfl⟩
   obtain ⟨L4, hL4⟩ : ∃ z, z = lo X Y 3 4 := ⟨_, rfl⟩
   have s1 : hiL X Y 3 = [H0, H1, H2, H3, H4] := by rw [hH0, hH1, hH2, hH3, hH4]; rfl
   have s2 : loL X Y 3 = [L0, L1, L2, L3, L4] := by rw [hL0, hL1, hL2, hL3, hL4]; rfl
   have e1 : hiL X Y 4 = [H0 + mhi d (h * UInt64.ofNat (Int.toNat 19)) + cy L0 (d * (h * UInt64.ofNat (Int.toNat 19))), H1 + mhi d (i * UInt64.ofNat (Int.toNat 19)) + cy L1 (d * (i * UInt64.ofNat (Int.toNat 19))), H2 + mhi d (j * UInt64.ofNat (Int.toNat 19)) + cy L2 (d * (j * UInt64.ofNat (Int.toNat 19))), H3 + mhi d f + cy L3 (d * f), H4 + mhi d g + cy L4 (d * g)] := by rw [hiL_s, ← hH0, ← hH1, ← hH2, ← hH3, ← hH4, ← hL0, ← hL1, ← hL2, ← hL3, ← hL4, hX, hY, c19]; rfl
   have e2 : loL X Y 4 = [L0 + d * (h * UInt64.ofNat (Int.toNat 19)), L1 + d * (i * UInt64.ofNat (Int.toNat 19)), L2 + d * (j * UInt64.ofNat (Int.toNat 19)), L3 + d * f, L4 + d * g] := by rw [loL_s, ← hL0, ← hL1, ← hL2, ← hL3, ← hL4, hX, hY, c19]; rfl
   dsimp only
   rw [s1, s2]
   conv => whnf
   first | refine brT (by rfl) ?_ | fail
   conv => whnf
   repeat (first | (refine Exists.intro _ (And.intro (sload_all rfl (by first | rfl | fail)) ?_); conv => whnf) | (refine Exists.intro _ (And.intro rfl ?_); conv => whnf) | (refine And.intro (by first | omega | fail) ?_; conv => whnf) | fail)
   refine loop_rounds ttOk mixed (by kernel_rfl) 6 ?_
   conv => whnf
   repeat (first | (refine brT rfl ?_; conv => whnf) | (refine brF rfl ?_; conv => whnf) | (refine Exists.intro _ (And.intro rfl ?_); conv => whnf) | (refine And.intro (by first | omega | fail) ?_; conv => whnf) | fail)
   refine ok1_callF [] [] true (f86 _ _) rfl rfl ⟨⟨rfl, by first | rfl | fail⟩, trivial, by first | rfl | fail, by first | rfl | fail, ?_⟩
   conv => whnf
   repeat (first | (refine Exists.intro _ (And.intro rfl ?_); conv => whnf) | (refine And.intro (Nat.le_of_ble_eq_true rfl) ?_; conv => whnf) | fail)
   refine add0 _ _ rfl rfl ?_
   conv => whnf
   repeat (first | (refine Exists.intro _ (And.intro rfl ?_); conv => whnf) | (refine And.intro (Nat.le_of_ble_eq_true rfl) ?_; conv => whnf) | (refine And.intro ⟨rfl, Nat.le_of_ble_eq_true rfl⟩ ?_; conv => whnf) | fail)
   refine addc _ _ _ _ rfl rfl (fun z => ?_)
   conv => whnf
   repeat (first | (refine brT rfl ?_; conv => whnf) | (refine brF rfl ?_; conv => whnf) | (refine Exists.intro _ (And.intro rfl ?_); conv => whnf) | (refine And.intro (Nat.le_of_ble_eq_true rfl) ?_; conv => whnf) | (refine And.intro ⟨rfl, Nat.le_of_ble_eq_true rfl⟩ ?_; conv => whnf) | fail)
   refine ok1_callF [] [] true (f86 _ _) rfl rfl ⟨⟨rfl, by first | rfl | fail⟩, trivial, by first | rfl | fail, by first | rfl | fail, ?_⟩
   conv => whnf
   repeat (first | (refine Exists.intro _ (And.intro rfl ?_); conv => whnf) | (refine And.intro (Nat.le_of_ble_eq_true rfl) ?_; conv => whnf) | fail)
   refine add0 _ _ rfl rfl ?_
   conv => whnf
   repeat (first | (refine Exists.intro _ (And.intro rfl ?_); conv => whnf) | (refine And.intro (Nat.le_of_ble_eq_true rfl) ?_; conv => whnf) | (refine And.intro ⟨rfl, Nat.le_of_ble_eq_true rfl⟩ ?_; conv => whnf) | fail)
   refine addc _ _ _ _ rfl rfl (fun z => ?_)
   conv => whnf
   repeat (first | (refine brT rfl ?_; conv => whnf) | (refine Exists.intro _ (And.intro rfl ?_); conv => whnf) | (refine And.intro (Nat.le_of_ble_eq_true rfl) ?_; conv => whnf) | (refine And.intro ⟨rfl, Nat.le_of_ble_eq_true rfl⟩ ?_; conv => whnf) | fail)
   refine ok1_callF [] [] true (f86 _ _) rfl rfl ⟨⟨rfl, by first | rfl | fail⟩, trivial, by first | rfl | fail, by first | rfl | fail, ?_⟩
   conv => whnf
   repeat (first | (refine Exists.intro _ (And.intro rfl ?_); conv => whnf) | (refine And.intro (Nat.le_of_ble_eq_true rfl) ?_; conv => whnf) | fail)
   refine add0 _ _ rfl rfl ?_
   conv => whnf
   repeat (first | (refine Exists.intro _ (And.intro rfl ?_); conv => whnf) | (refine And.intro (Nat.le_of_ble_eq_true rfl) ?_; conv => whnf) | (refine And.intro ⟨rfl, Nat.le_of_ble_eq_true rfl⟩ ?_; conv => whnf) | fail)
   refine addc _ _ _ _ rfl rfl (fun z => ?_)
   conv => whnf
   repeat (first | (refine brT rfl ?_; conv => whnf) | (refine Exists.intro _ (And.intro rfl ?_); conv => whnf) | (refine And.intro (Nat.le_of_ble_eq_true rfl) ?_; conv => whnf) | (refine And.intro ⟨rfl, Nat.le_of_ble_eq_true rfl⟩ ?_; conv => whnf) | fail)
   refine ok1_callF [] [] true (f86 _ _) rfl rfl ⟨⟨rfl, by first | rfl | fail⟩, trivial, by first | rfl | fail, by first | rfl | fail, ?_⟩
   conv => whnf
   repeat (first | (refine Exists.intro _ (And.intro rfl ?_); conv => whnf) | (refine And.intro (Nat.le_of_ble_eq_true rfl) ?_; conv => whnf) | fail)
   refine add0 _ _ rfl rfl ?_
   conv => whnf
   repeat (first | (refine Exists.intro _ (And.intro rfl ?_); conv => whnf) | (refine And.intro (Nat.le_of_ble_eq_true rfl) ?_; conv => whnf) | (refine And.intro ⟨rfl, Nat.le_of_ble_eq_true rfl⟩ ?_; conv => whnf) | fail)
   refine addc _ _ _ _ rfl rfl (fun z => ?_)
   conv => whnf
   repeat (first | (refine brT rfl ?_; conv => whnf) | (refine Exists.intro _ (And.intro rfl ?_); conv => whnf) | (refine And.intro (Nat.le_of_ble_eq_true rfl) ?_; conv => whnf) | (refine And.intro ⟨rfl, Nat.le_of_ble_eq_true rfl⟩ ?_; conv => whnf) | fail)
   refine ok1_callF [] [] true (f86 _ _) rfl rfl ⟨⟨rfl, by first | rfl | fail⟩, trivial, by first | rfl | fail, by first | rfl | fail, ?_⟩
   conv => whnf
   repeat (first | (refine Exists.intro _ (And.intro rfl ?_); conv => whnf) | (refine And.intro (Nat.le_of_ble_eq_true rfl) ?_; conv => whnf) | fail)
   refine add0 _ _ rfl rfl ?_
   conv => whnf
   repeat (first | (refine Exists.intro _ (And.intro rfl ?_); conv => whnf) | (refine And.intro (Nat.le_of_ble_eq_true rfl) ?_; conv => whnf) | (refine And.intro ⟨rfl, Nat.le_of_ble_eq_true rfl⟩ ?_; conv => whnf) | fail)
   refine addc _ _ _ _ rfl rfl (fun z => ?_)
   conv => whnf
   repeat (first | (refine brF rfl ?_; conv => whnf) | (refine Exists.intro _ (And.intro rfl ?_); conv => whnf) | (refine And.intro (Nat.le_of_ble_eq_true rfl) ?_; conv => whnf) | (refine And.intro ⟨rfl, Nat.le_of_ble_eq_true rfl⟩ ?_; conv => whnf) | fail)
   refine ⟨⟨4, by omega⟩, by simp only; omega, ?_⟩
   dsimp only
   rw [e1, e2]
   refine Weak.sel [0, 1, 2, 3, 4] rfl rfl ?_ ?_ rfl rfl
   ·
    (repeat' (first | exact trivial | refine And.intro ?_ ?_ | (refine wk_agg ?_) | (refine wk_cons ?_ ?_))) <;> first | rfl | fail
   ·
    (repeat' (first | exact trivial | refine And.intro ?_ ?_ | (refine wk_cons ?_ ?_))) <;> first | rfl | fail
  ·
   obtain ⟨H0, hH0⟩ : ∃ z, z = hi X Y 4 0 := ⟨_, rfl⟩
   obtain ⟨L0, hL0⟩ : ∃ z, z = lo X Y 4 0 := ⟨_, rfl⟩
   obtain ⟨H1, hH1⟩ : ∃ z, z = hi X Y 4 1 := ⟨_, rfl⟩
   obtain ⟨L1, hL1⟩ : ∃ z, z = lo X Y 4 1 := ⟨_, rfl⟩
   obtain ⟨H2, hH2⟩ : ∃ z, z = hi X Y 4 2 := ⟨_, rfl⟩
   obtain ⟨L2, hL2⟩ : ∃ z, z = lo X Y 4 2 := ⟨_, rfl⟩
   obtain ⟨H3, hH3⟩ : ∃ z, z = hi X Y 4 3 := ⟨_, rfl⟩
   obtain ⟨L3, hL3⟩ : ∃ z, z = lo X Y 4 3 := ⟨_, rfl⟩
   obtain ⟨H4, hH4⟩ : ∃ z, z = hi X Y 4 4 := ⟨_, rfl⟩
   obtain ⟨L4, hL4⟩ : ∃ z, z = lo X Y 4 4 := ⟨_, rfl⟩
   have s1 : hiL X Y 4 = [H0, H1, H2, H3, H4] := by rw [hH0, hH1, hH2, hH3, hH4]; rfl
   have s2 : loL X Y 4 = [L0, L1, L2, L3, L4] := by rw [hL0, hL1, hL2, hL3, hL4]; rfl
   have e1 : hiL X Y 5 = [H0 + mhi e (g * UInt64.ofNat (Int.toNat 19)) + cy L0 (e * (g * UInt64.ofNat (Int.toNat 19))), H1 + mhi e (h * UInt64.ofNat (Int.toNat 19)) + cy L1 (e * (h * UInt64.ofNat (Int.toNat 19))), H2 + mhi e (i * UInt64.ofNat (Int.toNat 19)) + cy L2 (e * (i * UInt64.ofNat (Int.toNat 19))), H3 + mhi e (j * UInt64.ofNat (Int.toNat 19)) + cy L3 (e * (j * UInt64.ofNat (Int.toNat 19))), H4 + mhi e f + cy L4 (e * f)] := by rw [hiL_s, ← hH0, ← hH1, ← hH2, ← hH3, ← hH4, ← hL0, ← hL1, ← hL2, ← hL3, ← hL4, hX, hY, c19]; rfl
   have e2 : loL X Y 5 = [L0 + e * (g * UInt64.ofNat (Int.toNat 19)), L1 + e * (h * UInt64.ofNat (Int.toNat 19)), L2 + e * (i * UInt64.ofNat (Int.toNat 19)), L3 + e * (j * UInt64.ofNat (Int.toNat 19)), L4 + e * f] := by rw [loL_s, ← hL0, ← hL1, ← hL2, ← hL3, ← hL4, hX, hY, c19]; rfl
   dsimp only
   rw [s1, s2]
   conv => whnf
   first | refine brT (by rfl) ?_ | fail
   conv => whnf
   repeat (first | (refine Exists.intro _ (And.intro (sload_all rfl (by first | rfl | fail)) ?_); conv => whnf) | (refine Exists.intro _ (And.intro rfl ?_); conv => whnf) | (refine And.intro (by first | omega | fail) ?_; conv => whnf) | fail)
   refine loop_rounds ttOk mixed (by kernel_rfl) 6 ?_
   conv => whnf
   repeat (first | (refine brT rfl ?_; conv => whnf) | (refine brF rfl ?_; conv => whnf) | (refine Exists.intro _ (And.intro rfl ?_); conv => whnf) | (refine And.intro (by first | omega | fail) ?_; conv => whnf) | fail)
   refine ok1_callF [] [] true (f86 _ _) rfl rfl ⟨⟨rfl, by first | rfl | fail⟩, trivial, by first | rfl | fail, by first | rfl | fail, ?_⟩
   conv => whnf
   repeat (first | (refine Exists.intro _ (And.intro rfl ?_); conv => whnf) | (refine And.intro (Nat.le_of_ble_eq_true rfl) ?_; conv => whnf) | fail)
   refine add0 _ _ rfl rfl ?_
   conv => whnf
   repeat (first | (refine Exists.intro _ (And.intro rfl ?_); conv => whnf) | (refine And.intro (Nat.le_of_ble_eq_true rfl) ?_; conv => whnf) | (refine And.intro ⟨rfl, Nat.le_of_ble_eq_true rfl⟩ ?_; conv => whnf) | fail)
   refine addc _ _ _ _ rfl rfl (fun z => ?_)
   conv => whnf
   repeat (first | (refine brT rfl ?_; conv => whnf) | (refine Exists.intro _ (And.intro rfl ?_); conv => whnf) | (refine And.intro (Nat.le_of_ble_eq_true rfl) ?_; conv => whnf) | (refine And.intro ⟨rfl, Nat.le_of_ble_eq_true rfl⟩ ?_; conv => whnf) | fail)
   refine ok1_callF [] [] true (f86 _ _) rfl rfl ⟨⟨rfl, by first | rfl | fail⟩, trivial, by first | rfl | fail, by first | rfl | fail, ?_⟩
   conv => whnf
   repeat (first | (refine Exists.intro _ (And.intro rfl ?_); conv => whnf) | (refine And.intro (Nat.le_of_ble_eq_true rfl) ?_; conv => whnf) | fail)
   refine add0 _ _ rfl rfl ?_
   conv => whnf
   repeat (first | (refine Exists.intro _ (And.intro rfl ?_); conv => whnf) | (refine And.intro (Nat.le_of_ble_eq_true rfl) ?_; conv => whnf) | (refine And.intro ⟨rfl, Nat.le_of_ble_eq_true rfl⟩ ?_; conv => whnf) | fail)
   refine addc _ _ _ _ rfl rfl (fun z => ?_)
   conv => whnf
   repeat (first | (refine brT rfl ?_; conv => whnf) | (refine Exists.intro _ (And.intro rfl ?_); conv => whnf) | (refine And.intro (Nat.le_of_ble_eq_true rfl) ?_; conv => whnf) | (refine And.intro ⟨rfl, Nat.le_of_ble_eq_true rfl⟩ ?_; conv => whnf) | fail)
   refine ok1_callF [] [] true (f86 _ _) rfl rfl ⟨⟨rfl, by first | rfl | fail⟩, trivial, by first | rfl | fail, by first | rfl | fail, ?_⟩
   conv => whnf
   repeat (first | (refine Exists.intro _ (And.intro rfl ?_); conv => whnf) | (refine And.intro (Nat.le_of_ble_eq_true rfl) ?_; conv => whnf) | fail)
   refine add0 _ _ rfl rfl ?_
   conv => whnf
   repeat (first | (refine Exists.intro _ (And.intro rfl ?_); conv => whnf) | (refine And.intro (Nat.le_of_ble_eq_true rfl) ?_; conv => whnf) | (refine And.intro ⟨rfl, Nat.le_of_ble_eq_true rfl⟩ ?_; conv => whnf) | fail)
   refine addc _ _ _ _ rfl rfl (fun z => ?_)
   conv => whnf
   repeat (first | (refine brT rfl ?_; conv => whnf) | (refine Exists.intro _ (And.intro rfl ?_); conv => whnf) | (refine And.intro (Nat.le_of_ble_eq_true rfl) ?_; conv => whnf) | (refine And.intro ⟨rfl, Nat.le_of_ble_eq_true rfl⟩ ?_; conv => whnf) | fail)
   refine ok1_callF [] [] true (f86 _ _) rfl rfl ⟨⟨rfl, by first | rfl | fail⟩, trivial, by first | rfl | fail, by first | rfl | fail, ?_⟩
   conv => whnf
   repeat (first | (refine Exists.intro _ (And.intro rfl ?_); conv => whnf) | (refine And.intro (Nat.le_of_ble_eq_true rfl) ?_; conv => whnf) | fail)
   refine add0 _ _ rfl rfl ?_
   conv => whnf
   repeat (first | (refine Exists.intro _ (And.intro rfl ?_); conv => whnf) | (refine And.intro (Nat.le_of_ble_eq_true rfl) ?_; conv => whnf) | (refine And.intro ⟨rfl, Nat.le_of_ble_eq_true rfl⟩ ?_; conv => whnf) | fail)
   refine addc _ _ _ _ rfl rfl (fun z => ?_)
   conv => whnf
   repeat (first | (refine brT rfl ?_; conv => whnf) | (refine Exists.intro _ (And.intro rfl ?_); conv => whnf) | (refine And.intro (Nat.le_of_ble_eq_true rfl) ?_; conv => whnf) | (refine And.intro ⟨rfl, Nat.le_of_ble_eq_true rfl⟩ ?_; conv => whnf) | fail)
   refine ok1_callF [] [] true (f86 _ _) rfl rfl ⟨⟨rfl, by first | rfl | fail⟩, trivial, by first | rfl | fail, by first | rfl | fail, ?_⟩
   conv => whnf
   repeat (first | (refine Exists.intro _ (And.intro rfl ?_); conv => whnf) | (refine And.intro (Nat.le_of_ble_eq_true rfl) ?_; conv => whnf) | fail)
   refine add0 _ _ rfl rfl ?_
   conv => whnf
   repeat (first | (refine Exists.intro _ (And.intro rfl ?_); conv => whnf) | (refine And.intro (Nat.le_of_ble_eq_true rfl) ?_; conv => whnf) | (refine And.intro ⟨rfl, Nat.le_of_ble_eq_true rfl⟩ ?_; conv => whnf) | fail)
   refine addc _ _ _ _ rfl rfl (fun z => ?_)
   conv => whnf
   repeat (first | (refine brF rfl ?_; conv => whnf) | (refine Exists.intro _ (And.intro rfl ?_); conv => whnf) | (refine And.intro (Nat.le_of_ble_eq_true rfl) ?_; conv => whnf) | (refine And.intro ⟨rfl, Nat.le_of_ble_eq_true rfl⟩ ?_; conv => whnf) | fail)
   refine ⟨⟨5, by omega⟩, by simp only; omega, ?_⟩
   dsimp only
   rw [e1, e2]
   refine Weak.sel [0, 1, 2, 3, 4] rfl rfl ?_ ?_ rfl rfl
   ·
    (repeat' (first | exact trivial | refine And.intro ?_ ?_ | (refine wk_agg ?_) | (refine wk_cons ?_ ?_))) <;> first | rfl | fail
   ·
    (repeat' (first | exact trivial | refine And.intro ?_ ?_ | (refine wk_cons ?_ ?_))) <;> first | rfl | fail
  ·
   obtain ⟨H0, hH0⟩ : ∃ z, z = hi X Y 5 0 := ⟨_, rfl⟩
   obtain ⟨H1, hH1⟩ : ∃ z, z = hi X Y 5 1 := ⟨_, rfl⟩
   obtain ⟨H2, hH2⟩ : ∃ z, z = hi X Y 5 2 := ⟨_, rfl⟩
   obtain ⟨H3, hH3⟩ : ∃ z, z = hi X Y 5 3 := ⟨_, rfl⟩
   obtain ⟨H4, hH4⟩ : ∃ z, z = hi X Y 5 4 := ⟨_, rfl⟩
   obtain ⟨L0, hL0⟩ : ∃ z, z = lo X Y 5 0 := ⟨_, rfl⟩
   obtain ⟨L1, hL1⟩ : ∃ z, z = lo X Y 5 1 := ⟨_, rfl⟩
   obtain ⟨L2, hL2⟩ : ∃ z, z = lo X Y 5 2 := ⟨_, rfl⟩
   obtain ⟨L3, hL3⟩ : ∃ z, z = lo X Y 5 3 := ⟨_, rfl⟩
   obtain ⟨L4, hL4⟩ : ∃ z, z = lo X Y 5 4 := ⟨_, rfl⟩
   have s1 : hiL X Y 5 = [H0, H1, H2, H3, H4] := by rw [hH0, hH1, hH2, hH3, hH4]; rfl
   have s2 : loL X Y 5 = [L0, L1, L2, L3, L4] := by rw [hL0, hL1, hL2, hL3, hL4]; rfl
   dsimp only
   rw [s1, s2]
   conv => whnf
   first | refine brF (by rfl) ?_ | fail
   conv => whnf
   repeat (fail)
   refine loop_rule ttOk mixed (by kernel_rfl) (ι := { k : Nat // k ≤ 5 }) (fun k => [(4, .p 2 0), (5, .p 3 0), (6, .p 4 0), (15, .p 5 0), (16, .u64 (cO X Y k.1)), (72, .i (k.1 : Int))]) (fun k => [none, none, some (.box (List.replicate 5 (.u64 0))), some (.box [.u64 H0, .u64 H1, .u64 H2, .u64 H3, .u64 H4]), some (.box [.u64 L0, .u64 L1, .u64 L2, .u64 L3, .u64 L4]), some (.box ((ouL X Y k.1).map .u64))]) (fun _ => 6) (fun k => 5 - k.1) ⟨0, by omega⟩ ?_ ?_
   ·
    have hz : ouL X Y 0 = [0, 0, 0, 0, 0] := rfl
    have hz2 : cO X Y 0 = 0 := cO_z X Y
    dsimp only
    rw [hz, hz2]
    refine Weak.sel [0, 1, 2, 3, 4, 5] rfl rfl ?_ ?_ rfl rfl
    ·
     (repeat' (first | exact trivial | refine And.intro ?_ ?_ | fail)) <;> first | rfl | fail
    ·
     (repeat' (first | exact trivial | refine And.intro ?_ ?_ | (refine wk_cons ?_ ?_))) <;> first | rfl | fail
   ·
    rintro ⟨k, hk⟩
    have h6 : k = 0 ∨ k = 1 ∨ k = 2 ∨ k = 3 ∨ k = 4 ∨ k = 5 := by omega
    rcases h6 with rfl | rfl | rfl | rfl | rfl | rfl
    ·
     obtain ⟨C, hC⟩ : ∃ z, z = cO X Y 0 := ⟨_, rfl⟩
     have t1 : ouL X Y 0 = [0, 0, 0, 0, 0] := by rfl
     have t2 : ouL X Y 1 = [(L0 + C) &&& UInt64.ofNat (Int.toNat 2251799813685247), 0, 0, 0, 0] := by rw [hC, hL0, cM]; rfl
     have t3 : cO X Y 1 = shl64 (H0 + cy L0 C) 13 ||| shr64 (L0 + C) 51 := by rw [cO_s, ← hC, ← hH0, ← hL0]
     dsimp only
     rw [t1, ← hC]
     conv => whnf
     first | refine brT (by rfl) ?_ | fail
     conv => whnf
     repeat (first | (refine Exists.intro _ (And.intro rfl ?_); conv => whnf) | (refine And.intro (by first | omega | fail) ?_; conv => whnf) | fail)
     refine add0 _ _ rfl rfl ?_
     conv => whnf
     repeat (first | (refine Exists.intro _ (And.intro rfl ?_); conv => whnf) | (refine And.intro (by first | omega | (simp; done) | fail) ?_; conv => whnf) | fail)
     refine ⟨⟨1, by omega⟩, by simp only; omega, ?_⟩
     dsimp only
     rw [t2, t3]
     refine Weak.sel [0, 1, 2, 3, 4, 5] rfl rfl ?_ ?_ rfl rfl
     ·
      (repeat' (first | exact trivial | refine And.intro ?_ ?_ | fail)) <;> first | rfl | fail
     ·
      (repeat' (first | exact trivial | refine And.intro ?_ ?_ | (refine wk_cons ?_ ?_))) <;> first | rfl | fail
    ·
     obtain ⟨C, hC⟩ : ∃ z, z = cO X Y 1 := ⟨_, rfl⟩
     obtain ⟨O0, hO0⟩ : ∃ z, z = oO X Y 0 := ⟨_, rfl⟩
     have t1 : ouL X Y 1 = [O0, 0, 0, 0, 0] := by rw [hO0]; rfl
     have t2 : ouL X Y 2 = [O0, (L1 + C) &&& UInt64.ofNat (Int.toNat 2251799813685247), 0, 0, 0] := by rw [hO0, hC, hL1, cM]; rfl
     have t3 : cO X Y 2 = shl64 (H1 + cy L1 C) 13 ||| shr64 (L1 + C) 51 := by rw [cO_s, ← hC, ← hH1, ← hL1]
     dsimp only
     rw [t1, ← hC]
     conv => whnf
     first | refine brT (by rfl) ?_ | fail
     conv => whnf
     repeat (first | (refine Exists.intro _ (And.intro rfl ?_); conv => whnf) | (refine And.intro (by first | omega | fail) ?_; conv => whnf) | fail)
     refine add0 _ _ rfl rfl ?_
     conv => whnf
     repeat (first | (refine Exists.intro _ (And.intro rfl ?_); conv => whnf) | (refine And.intro (by first | omega | (simp; done) | fail) ?_; conv => whnf) | fail)
     refine ⟨⟨2, by omega⟩, by simp only; omega, ?_⟩
     dsimp only
     rw [t2, t3]
     refine Weak.sel [0, 1, 2, 3, 4, 5] rfl rfl ?_ ?_ rfl rfl
     ·
      (repeat' (first | exact trivial | refine And.intro ?_ ?_ | fail)) <;> first | rfl | fail
     ·
      (repeat' (first | exact trivial | refine And.intro ?_ ?_ | (refine wk_cons ?_ ?_))) <;> first | rfl | fail
    ·
     obtain ⟨C, hC⟩ : ∃ z, z = cO X Y 2 := ⟨_, rfl⟩
     obtain ⟨O0, hO0⟩ : ∃ z, z = oO X Y 0 := ⟨_, rfl⟩
     obtain ⟨O1, hO1⟩ : ∃ z, z = oO X Y 1 := ⟨_, rfl⟩
     have t1 : ouL X Y 2 = [O0, O1, 0, 0, 0] := by rw [hO0, hO1]; rfl
     have t2 : ouL X Y 3 = [O0, O1, (L2 + C) &&& UInt64.ofNat (Int.toNat 2251799813685247), 0, 0] := by rw [hO0, hO1, hC, hL2, cM]; rfl
     have t3 : cO X Y 3 = shl64 (H2 + cy L2 C) 13 ||| shr64 (L2 + C) 51 := by rw [cO_s, ← hC, ← hH2, ← hL2]
     dsimp only
     rw [t1, ← hC]
     conv => whnf
     first | refine brT (by rfl) ?_ | fail
     conv => whnf
     repeat (first | (refine Exists.intro _ (And.intro rfl ?_); conv => whnf) | (refine And.intro (by first | omega | fail) ?_; conv => whnf) | fail)
     refine add0 _ _ rfl rfl ?_
     conv => whnf
     repeat (first | (refine Exists.intro _ (And.intro rfl ?_); conv => whnf) | (refine And.intro (by first | omega | (simp; done) | fail) ?_; conv => whnf) | fail)
     refine ⟨⟨3, by omega⟩, by simp only; omega, ?_⟩
     dsimp only
     rw [t2, t3]
     refine Weak.sel [0, 1, 2, 3, 4, 5] rfl rfl ?_ ?_ rfl rfl
     ·
      (repeat' (first | exact trivial | refine And.intro ?_ ?_ | fail)) <;> first | rfl | fail
     ·
      (repeat' (first | exact trivial | refine And.intro ?_ ?_ | (refine wk_cons ?_ ?_))) <;> first | rfl | fail
    ·
     obtain ⟨C, hC⟩ : ∃ z, z = cO X Y 3 := ⟨_, rfl⟩
     obtain ⟨O0, hO0⟩ : ∃ z, z = oO X Y 0 := ⟨_, rfl⟩
     obtain ⟨O1, hO1⟩ : ∃ z, z = oO X Y 1 := ⟨_, rfl⟩
     obtain ⟨O2, hO2⟩ : ∃ z, z = oO X Y 2 := ⟨_, rfl⟩
     have t1 : ouL X Y 3 = [O0, O1, O2, 0, 0] := by rw [hO0, hO1, hO2]; rfl
     have t2 : ouL X Y 4 = [O0, O1, O2, (L3 + C) &&& UInt64.ofNat (Int.toNat 2251799813685247), 0] := by rw [hO0, hO1, hO2, hC, hL3, cM]; rfl
     have t3 : cO X Y 4 = shl64 (H3 + cy L3 C) 13 ||| shr64 (L3 + C) 51 := by rw [cO_s, ← hC, ← hH3, ← hL3]
     dsimp only
     rw [t1, ← hC]
     conv => whnf
     first | refine brT (by rfl) ?_ | fail
     conv => whnf
     repeat (first | (refine Exists.intro _ (And.intro rfl ?_); conv => whnf) | (refine And.intro (by first | omega | fail) ?_; conv => whnf) | fail)
     refine add0 _ _ rfl rfl ?_
     conv => whnf
     repeat (first | (refine Exists.intro _ (And.intro rfl ?_); conv => whnf) | (refine And.intro (by first | omega | (simp; done) | fail) ?_; conv => whnf) | fail)
     refine ⟨⟨4, by omega⟩, by simp only; omega, ?_⟩
     dsimp only
     rw [t2, t3]
     refine Weak.sel [0, 1, 2, 3, 4, 5] rfl rfl ?_ ?_ rfl rfl
     ·
      (repeat' (first | exact trivial | refine And.intro ?_ ?_ | fail)) <;> first | rfl | fail
     ·
      (repeat' (first | exact trivial | refine And.intro ?_ ?_ | (refine wk_cons ?_ ?_))) <;> first | rfl | fail
    ·
     obtain ⟨C, hC⟩ : ∃ z, z = cO X Y 4 := ⟨_, rfl⟩
     obtain ⟨O0, hO0⟩ : ∃ z, z = oO X Y 0 := ⟨_, rfl⟩
     obtain ⟨O1, hO1⟩ : ∃ z, z = oO X Y 1 := ⟨_, rfl⟩
     obtain ⟨O2, hO2⟩ : ∃ z, z = oO X Y 2 := ⟨_, rfl⟩
     obtain ⟨O3, hO3⟩ : ∃ z, z = oO X Y 3 := ⟨_, rfl⟩
     have t1 : ouL X Y 4 = [O0, O1, O2, O3, 0] := by rw [hO0, hO1, hO2, hO3]; rfl
     have t2 : ouL X Y 5 = [O0, O1, O2, O3, (L4 + C) &&& UInt64.ofNat (Int.toNat 2251799813685247)] := by rw [hO0, hO1, hO2, hO3, hC, hL4, cM]; rfl
     have t3 : cO X Y 5 = shl64 (H4 + cy L4 C) 13 ||| shr64 (L4 + C) 51 := by rw [cO_s, ← hC, ← hH4, ← hL4]
     dsimp only
     rw [t1, ← hC]
     conv => whnf
     first | refine brT (by rfl) ?_ | fail
     conv => whnf
     repeat (first | (refine Exists.intro _ (And.intro rfl ?_); conv => whnf) | (refine And.intro (by first | omega | fail) ?_; conv => whnf) | fail)
     refine add0 _ _ rfl rfl ?_
     conv => whnf
     repeat (first | (refine Exists.intro _ (And.intro rfl ?_); conv => whnf) | (refine And.intro (by first | omega | (simp; done) | fail) ?_; conv => whnf) | fail)
     refine ⟨⟨5, by omega⟩, by simp only; omega, ?_⟩
     dsimp only
     rw [t2, t3]
     refine Weak.sel [0, 1, 2, 3, 4, 5] rfl rfl ?_ ?_ rfl rfl
     ·
      (repeat' (first | exact trivial | refine And.intro ?_ ?_ | fail)) <;> first | rfl | fail
     ·
      (repeat' (first | exact trivial | refine And.intro ?_ ?_ | (refine wk_cons ?_ ?_))) <;> first | rfl | fail
    ·
     obtain ⟨C, hC⟩ : ∃ z, z = cO X Y 5 := ⟨_, rfl⟩
     obtain ⟨O0, hO0⟩ : ∃ z, z = oO X Y 0 := ⟨_, rfl⟩
     obtain ⟨O1, hO1⟩ : ∃ z, z = oO X Y 1 := ⟨_, rfl⟩
     obtain ⟨O2, hO2⟩ : ∃ z, z = oO X Y 2 := ⟨_, rfl⟩
     obtain ⟨O3, hO3⟩ : ∃ z, z = oO X Y 3 := ⟨_, rfl⟩
     obtain ⟨O4, hO4⟩ : ∃ z, z = oO X Y 4 := ⟨_, rfl⟩
     have t1 : ouL X Y 5 = [O0, O1, O2, O3, O4] := by rw [hO0, hO1, hO2, hO3, hO4]; rfl
     have t2 : mulL [a, b, c, d, e] [f, g, h, i, j] = carL [O0 + UInt64.ofNat (Int.toNat 19) * C, O1, O2, O3, O4] := by rw [mulL_eq, ← hX, ← hY, hO0, hO1, hO2, hO3, hO4, hC, c19]
     have hcl := fun m0 m1 m2 m3 m4 => carL_len [m0, m1, m2, m3, m4]
     rw [t2]
     dsimp only
     rw [t1, ← hC]
     conv => whnf
     first | refine brF (by rfl) ?_ | fail
     conv => whnf
     repeat (first | (refine Exists.intro _ (And.intro (sload_all rfl (by first | rfl | fail)) ?_); conv => whnf) | (refine Exists.intro _ (And.intro rfl ?_); conv => whnf) | (refine And.intro (by first | omega | (simp; done) | fail) ?_; conv => whnf) | fail)
     refine ok1_callF [] [] true (f85x _ _ _ _ _) rfl rfl ⟨⟨rfl, by first | rfl | fail⟩, trivial, by first | rfl | fail, by first | simp [plainRf, plainR, plainT, plainW], ?_⟩
     conv => whnf
     repeat (first | (refine Exists.intro _ (And.intro (sload_all rfl (by first | rfl | (simp [hcl]; done) | fail)) ?_); conv => whnf) | (refine Exists.intro _ (And.intro (sput_all rfl (by first | rfl | (simp [hcl]; done) | fail)) ?_); conv => whnf) | (refine And.intro ⟨by first | (simp [hcl]; done) | fail, by first | (simp [hcl]; done) | fail⟩ ?_; conv => whnf) | fail)
     refine ⟨[], ?_, rfl, rfl, ?_, rfl⟩
     ·
      (repeat' (first | (refine wk_agg ?_) | fail)) <;> first | exact ren_eq (by first | (simp; done) | fail) (by first | rfl | fail) | fail
     ·
      (repeat' (first | exact trivial | fail)) <;> fail
end Go.Sh
namespace Go.Sh
open Go.Proofs
set_option maxHeartbeats 8000000
theorem eqcs_u8 : ∀ (l m : List UInt8), eqcs (l.map SV.u8) (m.map SV.u8) = true → l.length = m.length → l = m
 | [], [], _, _ => rfl
 | a :: l, b :: m, h, hl => by
  simp only [List.map_cons, eqcs, eqc, Bool.and_eq_true, beq_iff_eq] at h
  rw [h.1, eqcs_u8 l m h.2 (by simpa using hl)]
theorem eqcs_refl : ∀ (l : List UInt8), eqcs (l.map SV.u8) (l.map SV.u8) = true
 | [] => rfl
 | a :: l => by simp only [List.map_cons, eqcs, eqc, beq_self_eq_true, Bool.true_and]; exact eqcs_refl l
theorem eqcs_dec (l m : List UInt8) (h : l.length = m.length) : eqcs (l.map SV.u8) (m.map SV.u8) = decide (l = m) := by
 by_cases hlm : l = m
 ·
  subst hlm; simp [eqcs_refl]
 ·
  rw [decide_eq_false hlm]
  cases hc : eqcs (l.map SV.u8) (m.map SV.u8) with
  | false => rfl
  | true => exact absurd (eqcs_u8 l m hc h) hlm
theorem kd_u8n {n : Nat} (l : List UInt8) (h : l.length = n) : List.map kd (List.map SV.u8 l) = List.map some (List.replicate n 1) := by
 subst h
 induction l with
 | nil => rfl
 | cons a l ih => simp only [List.map_cons, List.length_cons, List.replicate_succ, ih]; rfl
def iwL (x : List UInt64) : Nat → List UInt64
 | 0 => smallL 1
 | k + 1 => if k = 250 ∨ k = 252 then mulL (iwL x k) (iwL x k) else mulL (mulL (iwL x k) (iwL x k)) x
def invL (x : List UInt64) : List UInt64 := iwL x 255
theorem Nm_small (n : UInt32) : Nm (smallL n) ∧ nr (smallL n) = n.toNat := by
 have h := UInt32.toNat_lt n
 have e : n.toUInt64.toNat = n.toNat := UInt32.toNat_toUInt64 n
 refine ⟨⟨rfl, ?_⟩, ?_⟩
 ·
  unfold smallL
  simp only [List.mem_cons, List.not_mem_nil, or_false, forall_eq_or_imp, forall_eq, e]
  refine ⟨by omega, by decide, by decide, by decide, by decide⟩
 ·
  unfold nr smallL
  rw [nv_5, e, Nat.mod_eq_of_lt]
  ·
   show n.toNat + 2251799813685248 * 0 + 5070602400912917605986812821504 * 0 + 11417981541647679048466287755595961091061972992 * 0 + 25711008708143844408671393477458601640355247900524685364822016 * 0 = _
   omega
  ·
   show n.toNat + 2251799813685248 * 0 + 5070602400912917605986812821504 * 0 + 11417981541647679048466287755595961091061972992 * 0 + 25711008708143844408671393477458601640355247900524685364822016 * 0 < P25519
   have : 4294967296 < P25519 := by decide
   omega
theorem iwL_ok {x : List UInt64} (hx : Nm x) : ∀ k, Nm (iwL x k) ∧ nr (iwL x k) = pw (nr x) k
 | 0 => ⟨(Nm_small 1).1, (Nm_small 1).2⟩
 | k + 1 => by
  obtain ⟨h1, h2⟩ := iwL_ok hx k
  obtain ⟨m1, m2⟩ := mulL_ok h1 h1
  show Nm (if k = 250 ∨ k = 252 then _ else _) ∧ nr (if k = 250 ∨ k = 252 then _ else _) = if k = 250 ∨ k = 252 then _ else _
  by_cases hk : k = 250 ∨ k = 252
  ·
   rw [if_pos hk, if_pos hk, m2, h2]
   exact ⟨m1, rfl⟩
  ·
   obtain ⟨n1, n2⟩ := mulL_ok m1 hx
   rw [if_neg hk, if_neg hk, n2, m2, h2]
   exact ⟨n1, rfl⟩
theorem iwL_z (x : List UInt64) : iwL x 0 = smallL 1 := rfl
theorem iwL_s (x : List UInt64) (k : Nat) : iwL x (k + 1) = if k = 250 ∨ k = 252 then mulL (iwL x k) (iwL x k) else mulL (mulL (iwL x k) (iwL x k)) x := rfl
theorem mulL_len (x y : List UInt64) : (mulL x y).length = 5 := rfl
theorem iwL_len (x : List UInt64) : ∀ k, (iwL x k).length = 5
 | 0 => rfl
 | k + 1 => by rw [iwL_s]; split <;> exact mulL_len ..
theorem invL_ok {x : List UInt64} (hx : Nm x) : Nm (invL x) ∧ nr (invL x) = invN (nr x) := iwL_ok hx 255
theorem f88 : SCall Try.prog 49 [] [] (.fn 54 []) [] := by
 refine scall_of ttOk (by kernel_rfl : Try.prog.funcs[49]? = some Try.f49) rfl rfl rfl ?_
 try simp only [List.length_cons, List.length_nil, Nat.zero_add, Nat.reduceAdd]
 refine sw_ok ttOk mixed (by kernel_rfl) ?_
 conv => whnf
 repeat (fail)
 refine ⟨[], ?_, rfl, rfl, ?_, rfl⟩
 ·
  (repeat' (fail)) <;> first | rfl | fail
 ·
  (repeat' (first | exact trivial | fail)) <;> fail
attribute [local irreducible] mulL iwL
theorem f29 {x : List UInt64} (hx : x.length = 5) : SCall Try.prog 40 [.agg (x.map .u64)] [] (.agg ((invL x).map .u64)) [] := by
 have h22 := f22 1
 refine scall_of ttOk (by kernel_rfl : Try.prog.funcs[40]? = some Try.f40) rfl rfl rfl ?_
 try simp only [List.length_cons, List.length_nil, Nat.zero_add, Nat.reduceAdd]
 refine sw_ok ttOk mixed (by kernel_rfl) ?_
 conv => whnf
 repeat (fail)
 refine ok1_callF [] [] true (h22) rfl rfl ⟨⟨rfl, by first | rfl | fail⟩, trivial, by first | rfl | fail, by first | rfl | fail, ?_⟩
 conv => whnf
 repeat (first | (refine Exists.intro _ (And.intro (sput_all rfl (by first | rfl | fail)) ?_); conv => whnf) | (refine And.intro ⟨rfl, Nat.le_of_ble_eq_true rfl⟩ ?_; conv => whnf) | fail)
 refine ok1_callF [] [] false (f88) rfl rfl ⟨⟨rfl, by first | rfl | fail⟩, trivial, by first | rfl | fail, by first | rfl | fail, ?_⟩
 conv => whnf
 repeat (fail)
 refine SWp.weak (R0 := [(1, .p 0 0), (2, .p 1 0), (3, .p 2 0), (6, .fn 54 [])]) (H0 := [some (.box (x.map .u64)), some (.box (List.replicate 5 (.u64 0))), some (.box ((iwL x 0).map .u64))]) (L0 := 3) ?_ ?_
 ·
  have hz : iwL x 0 = smallL 1 := iwL_z x
  rw [hz]
  refine Weak.sel [0, 1, 2] rfl rfl ?_ ?_ rfl rfl
  ·
   (repeat' (first | exact trivial | refine And.intro ?_ ?_ | fail)) <;> first | rfl | fail
  ·
   (repeat' (first | exact trivial | refine And.intro ?_ ?_ | (refine wk_cons ?_ ?_))) <;> first | rfl | exact ren_eq (by first | (simp; done) | fail) (by first | rfl | fail) | fail
 refine range_named rfl rfl rfl (by kernel_rfl : Try.prog.funcs[54]? = some Try.f54) rfl rfl rfl rfl ?_
 intro asq bdq hasq hbdq
 refine sw_ok ttOk mixed (by kernel_rfl) ?_
 conv => whnf
 repeat (fail)
 refine loop_rule ttOk mixed (by kernel_rfl) (ι := { m : Nat // m ≤ 255 }) (fun m => [(0, .yld 3), (2, .i ((m.1 : Int) - 1))]) (fun m => [some (.box (x.map .u64)), some (.box (List.replicate 5 (.u64 0))), some (.box ((iwL x (255 - m.1)).map .u64)), some (.obj (.loop [(1, .p 0 0), (3, .p 2 0)] Try.f40.ntmps [7] asq bdq))]) (fun _ => 4) (fun m => m.1) ⟨255, by omega⟩ ?_ ?_
 ·
  refine Weak.sel [0, 1, 2, 3] rfl rfl ?_ ?_ rfl rfl
  ·
   (repeat' (first | exact trivial | refine And.intro ?_ ?_ | fail)) <;> first | rfl | fail
  ·
   (repeat' (first | exact trivial | refine And.intro ?_ ?_ | (refine wk_cons ?_ ?_))) <;> first | rfl | exact ren_eq (by first | (simp; done) | fail) (by first | rfl | fail) | fail
 ·
  rintro ⟨m, hm⟩
  dsimp only
  by_cases hm0 : 0 < m
  ·
   obtain ⟨k, rfl⟩ : ∃ k, m = k + 1 := ⟨m - 1, by omega⟩
   have hlt : decide ((((k + 1 : Nat) : Int) - 1) ≥ 0) = true := by simp
   have hp1 : w64 (((k + 1 : Nat) : Int) - 1 - 1) = (k : Int) - 1 := by simp only [w64_eq]; omega
   obtain ⟨A, hA⟩ : ∃ A, A = iwL x (255 - (k + 1)) := ⟨_, rfl⟩
   have hs := iwL_s x (255 - (k + 1))
   rw [show 255 - (k + 1) + 1 = 255 - k by omega, ← hA] at hs
   rw [← hA]
   have hAl : A.length = 5 := by rw [hA]; exact iwL_len ..
   by_cases h4 : k = 4 ∨ k = 2
   ·
    rw [if_pos (by omega)] at hs
    have h28a := f28 hAl hAl
    have hml := mulL_len A A
    rcases h4 with rfl | rfl
    ·
     have hlt : decide ((((4 + 1 : Nat) : Int) - 1) ≥ 0) = true := by simp
     conv => whnf
     first | refine brT (by rfl) ?_ | fail
     conv => whnf
     repeat (first | (refine brF rfl ?_; conv => whnf) | (refine Exists.intro _ (And.intro rfl ?_); conv => whnf) | fail)
     refine ok1_yield 3 [0, 2] [false, true, true] (syield_of (ps := [7]) (N := Try.f40.ntmps) (R0 := [(1, .p 1 0), (3, .p 2 0)]) (args0 := [.b (false)]) (ex := .normal) (H0t := [some (.box (x.map .u64)), some (.box (A.map .u64))]) (H1t := [some (.box (x.map .u64)), some (.box ((mulL A A).map .u64))]) (.inl rfl) rfl rfl rfl ?_) rfl rfl ⟨⟨rfl, by first | rfl | fail⟩, by (repeat' (first | exact trivial | refine And.intro ?_ ?_)) <;> first | rfl | exact ren_eq (by first | (simp; done) | fail) (by first | rfl | fail), by first | (simp [plainHf, plainB]; done) | fail, ?_⟩
     ·
      subst hasq
      subst hbdq
      refine sw_ok ttOk mixed (by kernel_rfl) ?_
      conv => whnf
      repeat (first | (refine And.intro (by first | omega | (simp; done) | fail) ?_; conv => whnf) | (refine And.intro (by kernel_rfl) ?_; conv => whnf) | fail)
      refine sw_ok ttOk mixed (by kernel_rfl) ?_
      conv => whnf
      repeat (first | (refine Exists.intro _ (And.intro (sload_all rfl (by first | rfl | (simp [hAl]; done) | fail)) ?_); conv => whnf) | fail)
      refine ok1_callF [] [] true (h28a) rfl rfl ⟨⟨rfl, by first | ((repeat' (first | exact wk_nil | exact ren_m64 rfl | (refine wk_agg ?_) | (refine wk_cons ?_ ?_))); done) | fail⟩, trivial, by first | rfl | fail, by first | simp [plainRf, plainR, plainT, plainW], ?_⟩
      conv => whnf
      repeat (first | (refine brF rfl ?_; conv => whnf) | (refine Exists.intro _ (And.intro (sput_all rfl (by first | rfl | (simp [hAl, hml]; done) | fail)) ?_); conv => whnf) | (refine And.intro (by first | omega | (simp; done) | (simp; omega) | fail) ?_; conv => whnf) | (refine And.intro (by kernel_rfl) ?_; conv => whnf) | fail)
      exact ⟨[0, 1, 2], rfl, rfl, by (repeat' (first | exact trivial | refine And.intro ?_ ?_)) <;> first | exact ren_eq (by first | (simp; done) | fail) (by first | rfl | fail) | fail, rfl⟩
     ·
      conv => whnf
      repeat (first | (refine brF rfl ?_; conv => whnf) | fail)
      refine ⟨⟨_, Nat.le_of_succ_le hm⟩, Nat.lt_succ_self _, ?_⟩
      dsimp only
      rw [hs]
      refine Weak.sel [0, 1, 2, 3] rfl rfl ?_ ?_ rfl rfl
      ·
       (repeat' (first | exact trivial | refine And.intro ?_ ?_ | fail)) <;> first | exact wk_i (by first | exact hp1 | fail) | rfl | fail
      ·
       (repeat' (first | exact trivial | refine And.intro ?_ ?_ | (refine wk_cons ?_ ?_))) <;> first | rfl | exact ren_eq (by first | (simp; done) | fail) (by first | rfl | fail) | fail
    ·
     have hlt : decide ((((4 + 1 : Nat) : Int) - 1) ≥ 0) = true := by simp
     conv => whnf
     first | refine brT (by rfl) ?_ | fail
     conv => whnf
     repeat (first | (refine brT rfl ?_; conv => whnf) | (refine Exists.intro _ (And.intro rfl ?_); conv => whnf) | fail)
     refine ok1_yield 3 [0, 2] [false, true, true] (syield_of (ps := [7]) (N := Try.f40.ntmps) (R0 := [(1, .p 1 0), (3, .p 2 0)]) (args0 := [.b ((((2 + 1 : Nat) : Int) - 1 != 2))]) (ex := .normal) (H0t := [some (.box (x.map .u64)), some (.box (A.map .u64))]) (H1t := [some (.box (x.map .u64)), some (.box ((mulL A A).map .u64))]) (.inl rfl) rfl rfl rfl ?_) rfl rfl ⟨⟨rfl, by first | rfl | fail⟩, by (repeat' (first | exact trivial | refine And.intro ?_ ?_)) <;> first | rfl | exact ren_eq (by first | (simp; done) | fail) (by first | rfl | fail), by first | (simp [plainHf, plainB]; done) | fail, ?_⟩
     ·
      subst hasq
      subst hbdq
      refine sw_ok ttOk mixed (by kernel_rfl) ?_
      conv => whnf
      repeat (first | (refine And.intro (by first | omega | (simp; done) | fail) ?_; conv => whnf) | (refine And.intro (by kernel_rfl) ?_; conv => whnf) | fail)
      refine sw_ok ttOk mixed (by kernel_rfl) ?_
      conv => whnf
      repeat (first | (refine Exists.intro _ (And.intro (sload_all rfl (by first | rfl | (simp [hAl]; done) | fail)) ?_); conv => whnf) | fail)
      refine ok1_callF [] [] true (h28a) rfl rfl ⟨⟨rfl, by first | ((repeat' (first | exact wk_nil | exact ren_m64 rfl | (refine wk_agg ?_) | (refine wk_cons ?_ ?_))); done) | fail⟩, trivial, by first | rfl | fail, by first | simp [plainRf, plainR, plainT, plainW], ?_⟩
      conv => whnf
      repeat (first | (refine brF rfl ?_; conv => whnf) | (refine Exists.intro _ (And.intro (sput_all rfl (by first | rfl | (simp [hAl, hml]; done) | fail)) ?_); conv => whnf) | (refine And.intro (by first | omega | (simp; done) | (simp; omega) | fail) ?_; conv => whnf) | (refine And.intro (by kernel_rfl) ?_; conv => whnf) | fail)
      exact ⟨[0, 1, 2], rfl, rfl, by (repeat' (first | exact trivial | refine And.intro ?_ ?_)) <;> first | exact ren_eq (by first | (simp; done) | fail) (by first | rfl | fail) | fail, rfl⟩
     ·
      conv => whnf
      repeat (first | (refine brF rfl ?_; conv => whnf) | fail)
      refine ⟨⟨_, Nat.le_of_succ_le hm⟩, Nat.lt_succ_self _, ?_⟩
      dsimp only
      rw [hs]
      refine Weak.sel [0, 1, 2, 3] rfl rfl ?_ ?_ rfl rfl
      ·
       (repeat' (first | exact trivial | refine And.intro ?_ ?_ | fail)) <;> first | exact wk_i (by first | exact hp1 | fail) | rfl | fail
      ·
       (repeat' (first | exact trivial | refine And.intro ?_ ?_ | (refine wk_cons ?_ ?_))) <;> first | rfl | exact ren_eq (by first | (simp; done) | fail) (by first | rfl | fail) | fail
   ·
    rw [if_neg (by omega)] at hs
    have g4 : (((k + 1 : Nat) : Int) - 1 != 4) = true := by simp; omega
    have g2 : (((k + 1 : Nat) : Int) - 1 != 2) = true := by simp; omega
    have h28a := f28 hAl hAl
    have h28b := f28 (mulL_len A A) hx
    have hml := mulL_len A A
    have hml2 := mulL_len (mulL A A) x
    conv => whnf
    first | refine brT (by exact hlt) ?_ | fail
    conv => whnf
    repeat (first | (refine gdT g4 ?_; conv => whnf) | (refine pkT g4 ?_; conv => whnf) | fail)
    refine ok1_yield 3 [0, 2] [false, true, true] (syield_of (ps := [7]) (N := Try.f40.ntmps) (R0 := [(1, .p 1 0), (3, .p 2 0)]) (args0 := [.b (((k + 1 : Nat) : Int) - 1 != 2)]) (ex := .normal) (H0t := [some (.box (x.map .u64)), some (.box (A.map .u64))]) (H1t := [some (.box (x.map .u64)), some (.box ((mulL (mulL A A) x).map .u64))]) (.inl rfl) rfl rfl rfl ?_) rfl rfl ⟨⟨rfl, by first | rfl | fail⟩, by (repeat' (first | exact trivial | refine And.intro ?_ ?_)) <;> first | rfl | exact ren_eq (by first | (simp; done) | fail) (by first | rfl | fail), by first | (simp [plainHf, plainB]; done) | fail, ?_⟩
    ·
     subst hasq
     subst hbdq
     refine sw_ok ttOk mixed (by kernel_rfl) ?_
     conv => whnf
     repeat (first | (refine And.intro (by first | omega | (simp; done) | fail) ?_; conv => whnf) | (refine And.intro (by kernel_rfl) ?_; conv => whnf) | fail)
     refine sw_ok ttOk mixed (by kernel_rfl) ?_
     conv => whnf
     repeat (first | (refine Exists.intro _ (And.intro (sload_all rfl (by first | rfl | (simp [hAl]; done) | fail)) ?_); conv => whnf) | fail)
     refine ok1_callF [] [] true (h28a) rfl rfl ⟨⟨rfl, by first | ((repeat' (first | exact wk_nil | exact ren_m64 rfl | (refine wk_agg ?_) | (refine wk_cons ?_ ?_))); done) | fail⟩, trivial, by first | rfl | fail, by first | simp [plainRf, plainR, plainT, plainW], ?_⟩
     conv => whnf
     repeat (first | (refine Exists.intro _ (And.intro (sload_all rfl (by first | rfl | (simp [hAl, hml, hx]; done) | fail)) ?_); conv => whnf) | (refine Exists.intro _ (And.intro (sput_all rfl (by first | rfl | (simp [hAl, hml, hx]; done) | fail)) ?_); conv => whnf) | (refine gdT g2 ?_; conv => whnf) | (refine And.intro (by first | omega | (simp; omega) | fail) ?_; conv => whnf) | fail)
     refine ok1_callF [] [] true (h28b) rfl rfl ⟨⟨rfl, by first | ((repeat' (first | exact wk_nil | exact ren_m64 rfl | (refine wk_agg ?_) | (refine wk_cons ?_ ?_))); done) | fail⟩, trivial, by first | rfl | fail, by first | simp [plainRf, plainR, plainT, plainW], ?_⟩
     conv => whnf
     repeat (first | (refine Exists.intro _ (And.intro (sput_all rfl (by first | rfl | (simp [hAl, hml, hml2]; done) | fail)) ?_); conv => whnf) | (refine And.intro (by first | omega | (simp; done) | (simp; omega) | fail) ?_; conv => whnf) | (refine And.intro (by kernel_rfl) ?_; conv => whnf) | fail)
     exact ⟨[0, 1, 2], rfl, rfl, by (repeat' (first | exact trivial | refine And.intro ?_ ?_)) <;> first | exact ren_eq (by first | (simp; done) | fail) (by first | rfl | fail) | fail, rfl⟩
    ·
     conv => whnf
     repeat (first | (refine brF rfl ?_; conv => whnf) | fail)
     refine ⟨⟨k, by omega⟩, by simp only; omega, ?_⟩
     dsimp only
     rw [hs]
     refine Weak.sel [0, 1, 2, 3] rfl rfl ?_ ?_ rfl rfl
     ·
      (repeat' (first | exact trivial | refine And.intro ?_ ?_ | fail)) <;> first | exact wk_i (by first | exact hp1 | exact hp1.symm | fail) | rfl | fail
     ·
      (repeat' (first | exact trivial | refine And.intro ?_ ?_ | (refine wk_cons ?_ ?_))) <;> first | rfl | exact ren_eq (by first | (simp; done) | fail) (by first | rfl | fail) | fail
  ·
   obtain rfl : m = 0 := by omega
   have hfin : iwL x (255 - 0) = invL x := rfl
   have hil : (invL x).length = 5 := iwL_len x 255
   rw [hfin]
   conv => whnf
   first | refine brF (by rfl) ?_ | fail
   conv => whnf
   repeat (first | (refine Exists.intro _ (And.intro (sload_all rfl (by first | rfl | (simp [hil]; done) | fail)) ?_); conv => whnf) | (refine Exists.intro _ (And.intro (sput_all rfl (by first | rfl | (simp [hil]; done) | fail)) ?_); conv => whnf) | (refine And.intro (by first | omega | (simp; omega) | fail) ?_; conv => whnf) | fail)
   refine ⟨[], ?_, rfl, rfl, ?_, rfl⟩
   ·
    (repeat' (first | (refine wk_agg ?_) | fail)) <;> first | exact ren_eq (by first | (simp; done) | fail) (by first | rfl | fail) | fail
   ·
    (repeat' (first | exact trivial | fail)) <;> fail
end Go.Sh
namespace Go.Sh
open Go.Proofs
set_option maxHeartbeats 8000000
def swX (n x y : UInt64) : UInt64 := x ^^^ ((x ^^^ y) &&& (0 - n))
def swY (n x y : UInt64) : UInt64 := y ^^^ ((x ^^^ y) &&& (0 - n))
theorem swX_0 (x y : UInt64) : swX 0 x y = x := by unfold swX; simp
theorem swY_0 (x y : UInt64) : swY 0 x y = y := by unfold swY; simp
theorem and_ones (x : UInt64) : x &&& (0 - 1) = x := by
 apply UInt64.toNat_inj.mp
 rw [UInt64.toNat_and, show (0 - 1 : UInt64).toNat = 2 ^ 64 - 1 from rfl, Nat.and_two_pow_sub_one_eq_mod, Nat.mod_eq_of_lt (UInt64.toNat_lt x)]
theorem swX_1 (x y : UInt64) : swX 1 x y = y := by
 unfold swX; rw [and_ones, ← UInt64.xor_assoc, UInt64.xor_self, UInt64.zero_xor]
theorem swY_1 (x y : UInt64) : swY 1 x y = x := by
 unfold swY; rw [and_ones, UInt64.xor_comm x y, ← UInt64.xor_assoc, UInt64.xor_self, UInt64.zero_xor]
theorem f37x (n a b c d e f g h i j p0 p1 p2 p3 p4 q0 q1 q2 q3 q4 : UInt64) : SCall Try.prog 36 [.u64 n, .p 0 0, .p 1 0] [some (.box [.u64 a, .u64 b, .u64 c, .u64 d, .u64 e, .u64 p0, .u64 p1, .u64 p2, .u64 p3, .u64 p4]), some (.box [.u64 f, .u64 g, .u64 h, .u64 i, .u64 j, .u64 q0, .u64 q1, .u64 q2, .u64 q3, .u64 q4])] (.tup [])
  [some (.box [.u64 (swX n a f), .u64 (swX n b g), .u64 (swX n c h), .u64 (swX n d i), .u64 (swX n e j), .u64 p0, .u64 p1, .u64 p2, .u64 p3, .u64 p4]), some (.box [.u64 (swY n a f), .u64 (swY n b g), .u64 (swY n c h), .u64 (swY n d i), .u64 (swY n e j), .u64 q0, .u64 q1, .u64 q2, .u64 q3, .u64 q4])] := by
 refine scall_of ttOk (by kernel_rfl : Try.prog.funcs[36]? = some Try.f36) rfl rfl rfl ?_
 try simp only [List.length_cons, List.length_nil, Nat.zero_add, Nat.reduceAdd]
 refine sw_ok ttOk mixed (by kernel_rfl) ?_
 conv => whnf
 repeat (first | (refine brF rfl ?_; conv => whnf) | (refine gdT rfl ?_; conv => whnf) | (refine Exists.intro _ (And.intro rfl ?_); conv => whnf) | (refine And.intro (by kernel_rfl) ?_; conv => whnf) | fail)
 refine loop_rounds ttOk mixed (by kernel_rfl) 6 ?_
 conv => whnf
 repeat (first | (refine brT rfl ?_; conv => whnf) | (refine brF rfl ?_; conv => whnf) | (refine Exists.intro _ (And.intro rfl ?_); conv => whnf) | (refine And.intro (by first | omega | (simp; done) | fail) ?_; conv => whnf) | (refine And.intro (Nat.le_of_ble_eq_true rfl) ?_; conv => whnf) | (refine And.intro ⟨rfl, Nat.le_of_ble_eq_true rfl⟩ ?_; conv => whnf) | (refine And.intro (by kernel_rfl) ?_; conv => whnf) | fail)
 refine ⟨[0, 1], ?_, rfl, rfl, ?_, rfl⟩
 ·
  (repeat' (first | (refine wk_tup ?_) | fail)) <;> first | rfl | fail
 ·
  (repeat' (first | exact trivial | refine And.intro ?_ ?_ | (refine wk_cons ?_ ?_))) <;> first | rfl | fail
theorem f37z (n a b c d e f g h i j p0 p1 p2 p3 p4 q0 q1 q2 q3 q4 : UInt64) : SCall Try.prog 36 [.u64 n, .p 0 5, .p 1 5] [some (.box [.u64 p0, .u64 p1, .u64 p2, .u64 p3, .u64 p4, .u64 a, .u64 b, .u64 c, .u64 d, .u64 e]), some (.box [.u64 q0, .u64 q1, .u64 q2, .u64 q3, .u64 q4, .u64 f, .u64 g, .u64 h, .u64 i, .u64 j])] (.tup [])
  [some (.box [.u64 p0, .u64 p1, .u64 p2, .u64 p3, .u64 p4, .u64 (swX n a f), .u64 (swX n b g), .u64 (swX n c h), .u64 (swX n d i), .u64 (swX n e j)]), some (.box [.u64 q0, .u64 q1, .u64 q2, .u64 q3, .u64 q4, .u64 (swY n a f), .u64 (swY n b g), .u64 (swY n c h), .u64 (swY n d i), .u64 (swY n e j)])] := by
 refine scall_of ttOk (by kernel_rfl : Try.prog.funcs[36]? = some Try.f36) rfl rfl rfl ?_
 try simp only [List.length_cons, List.length_nil, Nat.zero_add, Nat.reduceAdd]
 refine sw_ok ttOk mixed (by kernel_rfl) ?_
 conv => whnf
 repeat (first | (refine brF rfl ?_; conv => whnf) | (refine gdT rfl ?_; conv => whnf) | (refine Exists.intro _ (And.intro rfl ?_); conv => whnf) | (refine And.intro (by kernel_rfl) ?_; conv => whnf) | fail)
 refine loop_rounds ttOk mixed (by kernel_rfl) 6 ?_
 conv => whnf
 repeat (first | (refine brT rfl ?_; conv => whnf) | (refine brF rfl ?_; conv => whnf) | (refine Exists.intro _ (And.intro rfl ?_); conv => whnf) | (refine And.intro (by first | omega | (simp; done) | fail) ?_; conv => whnf) | (refine And.intro (Nat.le_of_ble_eq_true rfl) ?_; conv => whnf) | (refine And.intro ⟨rfl, Nat.le_of_ble_eq_true rfl⟩ ?_; conv => whnf) | (refine And.intro (by kernel_rfl) ?_; conv => whnf) | fail)
 refine ⟨[0, 1], ?_, rfl, rfl, ?_, rfl⟩
 ·
  (repeat' (first | (refine wk_tup ?_) | fail)) <;> first | rfl | fail
 ·
  (repeat' (first | exact trivial | refine And.intro ?_ ?_ | (refine wk_cons ?_ ?_))) <;> first | rfl | fail
end Go.Sh
namespace Go.Sh
open Go.Proofs
set_option maxHeartbeats 8000000
def ofN (f m l : UInt8) : List UInt8 := f :: (List.replicate 30 m ++ [l])
theorem k1 : le32 (nr (subL (smallL 2) (smallL 3))) = ofN 236 255 127 := by
 rw [(subL_ok (Nm_small 2).1 (Nm_small 3).1).2, (Nm_small 2).2, (Nm_small 3).2]
 decide +kernel
theorem k2 : le32 (nr (ofB (ofN 237 255 127))) = List.replicate 32 0 := by rw [nr_of]; decide +kernel
theorem k3 : le32 (nr (ofB (ofN 255 255 255))) = 18 :: List.replicate 31 0 := by rw [nr_of]; decide +kernel
theorem k4 : le32 (nr (invL (smallL 2))) = ofN 247 255 63 := by
 rw [(invL_ok (Nm_small 2).1).2, (Nm_small 2).2]
 decide +kernel
theorem smallL_len (n : UInt32) : (smallL n).length = 5 := rfl
theorem subL_len (x y : List UInt64) : (subL x y).length = 5 := rfl
theorem addL_len (x y : List UInt64) : (addL x y).length = 5 := rfl
theorem invL_len (x : List UInt64) : (invL x).length = 5 := iwL_len x 255
attribute [local irreducible] smallL subL invL ofB
end Go.Sh
namespace Go.Sh
open Go.Proofs
set_option maxHeartbeats 8000000
def bo (x y : List UInt64) : Nat → UInt64
 | 0 => 0
 | i + 1 => if 65536 + x.getD i 0 + pp.getD i 0 - y.getD i 0 - bo x y i < 65536 then 1 else 0
def bd (x y : List UInt64) (i : Nat) : UInt64 := 65536 + x.getD i 0 + pp.getD i 0 - y.getD i 0 - bo x y i
theorem sub1 {x p y b : UInt64} (hx : x.toNat < 65536) (hp : p.toNat < 65536) (hy : y.toNat < 65536) (hb : b.toNat ≤ 1) : (65536 + x + p - y - b).toNat = 65536 + x.toNat + p.toNat - y.toNat - b.toNat := by
 have h1 : (65536 + x).toNat = 65536 + x.toNat := add_n 65536 x (by show 65536 + _ < _; omega)
 have h2 : (65536 + x + p).toNat = 65536 + x.toNat + p.toNat := by rw [add_n _ _ (by omega), h1]
 have h3 : (65536 + x + p - y).toNat = 65536 + x.toNat + p.toNat - y.toNat := by rw [sub_n _ _ (by omega), h2]
 rw [sub_n _ _ (by omega), h3]
attribute [local irreducible] dg bo bd pp pw
end Go.Sh
namespace Go.Sh
open Go.Proofs
set_option maxHeartbeats 8000000
def b2 (v i : Nat) : List UInt8 := [((dg v).getD i 0 % 256).toUInt8, ((dg v).getD i 0 / 256).toUInt8]
end Go.Sh
namespace Go.Sh
open Go.Proofs
set_option maxHeartbeats 8000000
attribute [local irreducible] dg le32 b2
theorem t2 (i : Nat) (h : i < 32) : (i : Int).tmod 2 = ((i % 2 : Nat) : Int) ∧ w64 ((i : Int).tdiv 2) = ((i / 2 : Nat) : Int) := by
 have : ∀ i : Nat, i < 32 → (i : Int).tmod 2 = ((i % 2 : Nat) : Int) ∧ w64 ((i : Int).tdiv 2) = ((i / 2 : Nat) : Int) := by decide +kernel
 exact this i h
end Go.Sh
namespace Go.Sh
open Go.Proofs
set_option maxHeartbeats 8000000
def lad (u x2 z2 x3 z3 : Nat) : Nat × Nat × Nat × Nat :=
 let A := (x2 + z2) % P25519
 let B := (x2 + (P25519 - z2)) % P25519
 let D := (x3 + (P25519 - z3)) % P25519
 let DA := D * A % P25519
 let C := (x3 + z3) % P25519
 let CB := C * B % P25519
 let AA := A * A % P25519
 let BB := B * B % P25519
 let E := (AA + (P25519 - BB)) % P25519
 let T := (DA + CB) % P25519
 let S := (DA + (P25519 - CB)) % P25519
 let EK := E * 121665 % P25519
 let F := (AA + EK) % P25519
 let SS := S * S % P25519
 (AA * BB % P25519, E * F % P25519, T * T % P25519, u * SS % P25519)
attribute [local irreducible] dg
end Go.Sh
namespace Go.Sh
open Go.Proofs
set_option maxHeartbeats 8000000
def ladL (u x2 z2 x3 z3 : List UInt64) : List UInt64 × List UInt64 × List UInt64 × List UInt64 :=
 let A := addL x2 z2
 let B := subL x2 z2
 let C := addL x3 z3
 let D := subL x3 z3
 let AA := mulL A A
 let BB := mulL B B
 let DA := mulL D A
 let CB := mulL C B
 let E := subL AA BB
 let T := addL DA CB
 let S := subL DA CB
 let SS := mulL S S
 let K := smallL 121665
 let EK := mulL E K
 let F := addL AA EK
 (mulL AA BB, mulL E F, mulL T T, mulL u SS)
theorem ladL_ok {u x2 z2 x3 z3 : List UInt64} (hu : Nm u) (h2 : Nm x2) (k2 : Nm z2) (h3 : Nm x3) (k3 : Nm z3) : Nm (ladL u x2 z2 x3 z3).1 ∧ Nm (ladL u x2 z2 x3 z3).2.1 ∧ Nm (ladL u x2 z2 x3 z3).2.2.1 ∧ Nm (ladL u x2 z2 x3 z3).2.2.2 ∧
  lad (nr u) (nr x2) (nr z2) (nr x3) (nr z3) = (nr (ladL u x2 z2 x3 z3).1, nr (ladL u x2 z2 x3 z3).2.1, nr (ladL u x2 z2 x3 z3).2.2.1, nr (ladL u x2 z2 x3 z3).2.2.2) := by
 obtain ⟨nA, vA⟩ := addL_ok h2 k2
 obtain ⟨A, eA⟩ : ∃ A, A = addL x2 z2 := ⟨_, rfl⟩
 rw [← eA] at nA vA
 obtain ⟨nB, vB⟩ := subL_ok h2 k2
 obtain ⟨B, eB⟩ : ∃ B, B = subL x2 z2 := ⟨_, rfl⟩
 rw [← eB] at nB vB
 obtain ⟨nC, vC⟩ := addL_ok h3 k3
 obtain ⟨C, eC⟩ : ∃ C, C = addL x3 z3 := ⟨_, rfl⟩
 rw [← eC] at nC vC
 obtain ⟨nD, vD⟩ := subL_ok h3 k3
 obtain ⟨D, eD⟩ : ∃ D, D = subL x3 z3 := ⟨_, rfl⟩
 rw [← eD] at nD vD
 obtain ⟨nAA, vAA⟩ := mulL_ok nA nA
 obtain ⟨AA, eAA⟩ : ∃ AA, AA = mulL A A := ⟨_, rfl⟩
 rw [← eAA] at nAA vAA
 obtain ⟨nBB, vBB⟩ := mulL_ok nB nB
 obtain ⟨BB, eBB⟩ : ∃ BB, BB = mulL B B := ⟨_, rfl⟩
 rw [← eBB] at nBB vBB
 obtain ⟨nDA, vDA⟩ := mulL_ok nD nA
 obtain ⟨DA, eDA⟩ : ∃ DA, DA = mulL D A := ⟨_, rfl⟩
 rw [← eDA] at nDA vDA
 obtain ⟨nCB, vCB⟩ := mulL_ok nC nB
 obtain ⟨CB, eCB⟩ : ∃ CB, CB = mulL C B := ⟨_, rfl⟩
 rw [← eCB] at nCB vCB
 obtain ⟨nE, vE⟩ := subL_ok nAA nBB
 obtain ⟨E, eE⟩ : ∃ E, E = subL AA BB := ⟨_, rfl⟩
 rw [← eE] at nE vE
 obtain ⟨nT, vT⟩ := addL_ok nDA nCB
 obtain ⟨T, eT⟩ : ∃ T, T = addL DA CB := ⟨_, rfl⟩
 rw [← eT] at nT vT
 obtain ⟨nS, vS⟩ := subL_ok nDA nCB
 obtain ⟨S, eS⟩ : ∃ S, S = subL DA CB := ⟨_, rfl⟩
 rw [← eS] at nS vS
 obtain ⟨nR3, vR3⟩ := mulL_ok nT nT
 obtain ⟨R3, eR3⟩ : ∃ R3, R3 = mulL T T := ⟨_, rfl⟩
 rw [← eR3] at nR3 vR3
 obtain ⟨nSS, vSS⟩ := mulL_ok nS nS
 obtain ⟨SS, eSS⟩ : ∃ SS, SS = mulL S S := ⟨_, rfl⟩
 rw [← eSS] at nSS vSS
 obtain ⟨nR4, vR4⟩ := mulL_ok hu nSS
 obtain ⟨R4, eR4⟩ : ∃ R4, R4 = mulL u SS := ⟨_, rfl⟩
 rw [← eR4] at nR4 vR4
 obtain ⟨nR1, vR1⟩ := mulL_ok nAA nBB
 obtain ⟨R1, eR1⟩ : ∃ R1, R1 = mulL AA BB := ⟨_, rfl⟩
 rw [← eR1] at nR1 vR1
 obtain ⟨nK, vK⟩ := Nm_small 121665
 have eK : (121665 : UInt32).toNat = 121665 := rfl
 rw [eK] at vK
 obtain ⟨K, eK2⟩ : ∃ K, K = smallL 121665 := ⟨_, rfl⟩
 rw [← eK2] at nK vK
 obtain ⟨nEK, vEK⟩ := mulL_ok nE nK
 obtain ⟨EK, eEK⟩ : ∃ EK, EK = mulL E K := ⟨_, rfl⟩
 rw [← eEK] at nEK vEK
 obtain ⟨nF, vF⟩ := addL_ok nAA nEK
 obtain ⟨F, eF⟩ : ∃ F, F = addL AA EK := ⟨_, rfl⟩
 rw [← eF] at nF vF
 obtain ⟨nR2, vR2⟩ := mulL_ok nE nF
 obtain ⟨R2, eR2⟩ : ∃ R2, R2 = mulL E F := ⟨_, rfl⟩
 rw [← eR2] at nR2 vR2
 have hl : ladL u x2 z2 x3 z3 = (R1, R2, R3, R4) := by
  subst eR2
  subst eF
  subst eEK
  subst eK2
  subst eR1
  subst eR4
  subst eSS
  subst eR3
  subst eS
  subst eT
  subst eE
  subst eCB
  subst eDA
  subst eBB
  subst eAA
  subst eD
  subst eC
  subst eB
  subst eA
  rfl
 rw [hl]
 refine ⟨nR1, nR2, nR3, nR4, ?_⟩
 dsimp only
 rw [vR1, vR2, vR3, vR4, vSS, vF, vEK, vK, vS, vT, vE, vBB, vAA, vCB, vC, vDA, vD, vB, vA]
 rfl
theorem fill2 {X Y : List UInt64} (hX : X.length = 5) (hY : Y.length = 5) : sfill (fun i => (List.map (fun f => (f.fst, f.snd.snd)) [(0, 28, 5), (5, 28, 5)])[i]?) (SV.agg (List.replicate 10 (SV.u64 0))).cells [(0, SV.agg (X.map .u64)), (1, SV.agg (Y.map .u64))] = some (X.map .u64 ++ Y.map .u64) := by
 obtain ⟨a0, a1, a2, a3, a4, rfl⟩ := ex5 hX
 obtain ⟨b0, b1, b2, b3, b4, rfl⟩ := ex5 hY
 rfl
attribute [local irreducible] addL subL mulL smallL
theorem f130 {u x2 z2 x3 z3 : List UInt64} (hu : u.length = 5) (h2 : x2.length = 5) (k2 : z2.length = 5) (h3 : x3.length = 5) (k3 : z3.length = 5) : SCall Try.prog 38 [.agg (u.map .u64), .p 0 0, .p 1 0] [some (.box (x2.map .u64 ++ z2.map .u64)), some (.box (x3.map .u64 ++ z3.map .u64))] (.tup []) [some (.box ((ladL u x2 z2 x3 z3).1.map .u64 ++ (ladL u x2 z2 x3 z3).2.1.map .u64)), some (.box ((ladL u x2 z2 x3 z3).2.2.1.map .u64 ++ (ladL u x2 z2 x3 z3).2.2.2.map .u64))] := by
 have qA := f26 h2 k2
 have lA := addL_len x2 z2
 obtain ⟨A, eA⟩ : ∃ A, A = addL x2 z2 := ⟨_, rfl⟩
 rw [← eA] at qA lA
 have qB := f27 h2 k2
 have lB := subL_len x2 z2
 obtain ⟨B, eB⟩ : ∃ B, B = subL x2 z2 := ⟨_, rfl⟩
 rw [← eB] at qB lB
 have qC := f26 h3 k3
 have lC := addL_len x3 z3
 obtain ⟨C, eC⟩ : ∃ C, C = addL x3 z3 := ⟨_, rfl⟩
 rw [← eC] at qC lC
 have qD := f27 h3 k3
 have lD := subL_len x3 z3
 obtain ⟨D, eD⟩ : ∃ D, D = subL x3 z3 := ⟨_, rfl⟩
 rw [← eD] at qD lD
 have qAA := f28 lA lA
 have lAA := mulL_len A A
 obtain ⟨AA, eAA⟩ : ∃ AA, AA = mulL A A := ⟨_, rfl⟩
 rw [← eAA] at qAA lAA
 have qBB := f28 lB lB
 have lBB := mulL_len B B
 obtain ⟨BB, eBB⟩ : ∃ BB, BB = mulL B B := ⟨_, rfl⟩
 rw [← eBB] at qBB lBB
 have qDA := f28 lD lA
 have lDA := mulL_len D A
 obtain ⟨DA, eDA⟩ : ∃ DA, DA = mulL D A := ⟨_, rfl⟩
 rw [← eDA] at qDA lDA
 have qCB := f28 lC lB
 have lCB := mulL_len C B
 obtain ⟨CB, eCB⟩ : ∃ CB, CB = mulL C B := ⟨_, rfl⟩
 rw [← eCB] at qCB lCB
 have qE := f27 lAA lBB
 have lE := subL_len AA BB
 obtain ⟨E, eE⟩ : ∃ E, E = subL AA BB := ⟨_, rfl⟩
 rw [← eE] at qE lE
 have qT := f26 lDA lCB
 have lT := addL_len DA CB
 obtain ⟨T, eT⟩ : ∃ T, T = addL DA CB := ⟨_, rfl⟩
 rw [← eT] at qT lT
 have qS := f27 lDA lCB
 have lS := subL_len DA CB
 obtain ⟨S, eS⟩ : ∃ S, S = subL DA CB := ⟨_, rfl⟩
 rw [← eS] at qS lS
 have qR3 := f28 lT lT
 have lR3 := mulL_len T T
 obtain ⟨R3, eR3⟩ : ∃ R3, R3 = mulL T T := ⟨_, rfl⟩
 rw [← eR3] at qR3 lR3
 have qSS := f28 lS lS
 have lSS := mulL_len S S
 obtain ⟨SS, eSS⟩ : ∃ SS, SS = mulL S S := ⟨_, rfl⟩
 rw [← eSS] at qSS lSS
 have qR4 := f28 hu lSS
 have lR4 := mulL_len u SS
 obtain ⟨R4, eR4⟩ : ∃ R4, R4 = mulL u SS := ⟨_, rfl⟩
 rw [← eR4] at qR4 lR4
 have qR1 := f28 lAA lBB
 have lR1 := mulL_len AA BB
 obtain ⟨R1, eR1⟩ : ∃ R1, R1 = mulL AA BB := ⟨_, rfl⟩
 rw [← eR1] at qR1 lR1
 have qK := f22 121665
 have lK := smallL_len 121665
 obtain ⟨K, eK2⟩ : ∃ K, K = smallL 121665 := ⟨_, rfl⟩
 rw [← eK2] at qK lK
 have qEK := f28 lE lK
 have lEK := mulL_len E K
 obtain ⟨EK, eEK⟩ : ∃ EK, EK = mulL E K := ⟨_, rfl⟩
 rw [← eEK] at qEK lEK
 have qF := f26 lAA lEK
 have lF := addL_len AA EK
 obtain ⟨F, eF⟩ : ∃ F, F = addL AA EK := ⟨_, rfl⟩
 rw [← eF] at qF lF
 have qR2 := f28 lE lF
 have lR2 := mulL_len E F
 obtain ⟨R2, eR2⟩ : ∃ R2, R2 = mulL E F := ⟨_, rfl⟩
 rw [← eR2] at qR2 lR2
 have hl : ladL u x2 z2 x3 z3 = (R1, R2, R3, R4) := by
  subst eR2
  subst eF
  subst eEK
  subst eK2
  subst eR1
  subst eR4
  subst eSS
  subst eR3
  subst eS
  subst eT
  subst eE
  subst eCB
  subst eDA
  subst eBB
  subst eAA
  subst eD
  subst eC
  subst eB
  subst eA
  rfl
 rw [hl]
 dsimp only
 clear hl eR2 eF eEK eK2 eR1 eR4 eSS eR3 eS eT eE eCB eDA eBB eAA eD eC eB eA
 obtain ⟨a0, a1, a2, a3, a4, rfl⟩ := ex5 h2
 obtain ⟨b0, b1, b2, b3, b4, rfl⟩ := ex5 k2
 obtain ⟨c0, c1, c2, c3, c4, rfl⟩ := ex5 h3
 obtain ⟨d0, d1, d2, d3, d4, rfl⟩ := ex5 k3
 refine scall_of ttOk (by kernel_rfl : Try.prog.funcs[38]? = some Try.f38) rfl rfl rfl ?_
 try simp only [List.length_cons, List.length_nil, Nat.zero_add, Nat.reduceAdd]
 refine sw_ok ttOk mixed (by kernel_rfl) ?_
 conv => whnf
 repeat (first | (refine Exists.intro _ (And.intro rfl ?_); conv => whnf) | fail)
 refine ok1_callF [] [] true (qA) rfl rfl ⟨⟨rfl, by first | rfl | fail⟩, trivial, by first | rfl | fail, by first | simp [plainRf, plainR, plainT, plainW], ?_⟩
 conv => whnf
 repeat (first | (refine Exists.intro _ (And.intro rfl ?_); conv => whnf) | fail)
 refine ok1_callF [] [] true (qB) rfl rfl ⟨⟨rfl, by first | rfl | fail⟩, trivial, by first | rfl | fail, by first | simp [plainRf, plainR, plainT, plainW], ?_⟩
 conv => whnf
 repeat (first | (refine Exists.intro _ (And.intro rfl ?_); conv => whnf) | fail)
 refine ok1_callF [] [] true (qC) rfl rfl ⟨⟨rfl, by first | rfl | fail⟩, trivial, by first | rfl | fail, by first | simp [plainRf, plainR, plainT, plainW], ?_⟩
 conv => whnf
 repeat (first | (refine Exists.intro _ (And.intro rfl ?_); conv => whnf) | fail)
 refine ok1_callF [] [] true (qD) rfl rfl ⟨⟨rfl, by first | rfl | fail⟩, trivial, by first | rfl | fail, by first | simp [plainRf, plainR, plainT, plainW], ?_⟩
 conv => whnf
 repeat (first | (refine Exists.intro _ (And.intro (sload_all rfl (by first | rfl | (simp [hu, lA, lB, lC, lD]; done) | fail)) ?_); conv => whnf) | (refine Exists.intro _ (And.intro (sput_all rfl (by first | rfl | (simp [hu, lA, lB, lC, lD]; done) | fail)) ?_); conv => whnf) | (refine And.intro (by first | omega | (simp; omega) | fail) ?_; conv => whnf) | (refine And.intro (by kernel_rfl) ?_; conv => whnf) | fail)
 refine ok1_callF [] [] true (qAA) rfl rfl ⟨⟨rfl, by first | ((repeat' (first | exact wk_nil | exact ren_m64 rfl | (refine wk_agg ?_) | (refine wk_cons ?_ ?_))); done) | fail⟩, trivial, by first | rfl | fail, by first | simp [plainRf, plainR, plainT, plainW], ?_⟩
 conv => whnf
 repeat (first | (refine Exists.intro _ (And.intro (sload_all rfl (by first | rfl | (simp [hu, lA, lB, lC, lD, lAA]; done) | fail)) ?_); conv => whnf) | fail)
 refine ok1_callF [] [] true (qBB) rfl rfl ⟨⟨rfl, by first | ((repeat' (first | exact wk_nil | exact ren_m64 rfl | (refine wk_agg ?_) | (refine wk_cons ?_ ?_))); done) | fail⟩, trivial, by first | rfl | fail, by first | simp [plainRf, plainR, plainT, plainW], ?_⟩
 conv => whnf
 repeat (first | (refine Exists.intro _ (And.intro (sload_all rfl (by first | rfl | (simp [hu, lA, lB, lC, lD, lAA, lBB]; done) | fail)) ?_); conv => whnf) | fail)
 refine ok1_callF [] [] true (qDA) rfl rfl ⟨⟨rfl, by first | ((repeat' (first | exact wk_nil | exact ren_m64 rfl | (refine wk_agg ?_) | (refine wk_cons ?_ ?_))); done) | fail⟩, trivial, by first | rfl | fail, by first | simp [plainRf, plainR, plainT, plainW], ?_⟩
 conv => whnf
 repeat (first | (refine Exists.intro _ (And.intro (sload_all rfl (by first | rfl | (simp [hu, lA, lB, lC, lD, lAA, lBB, lDA]; done) | fail)) ?_); conv => whnf) | fail)
 refine ok1_callF [] [] true (qCB) rfl rfl ⟨⟨rfl, by first | ((repeat' (first | exact wk_nil | exact ren_m64 rfl | (refine wk_agg ?_) | (refine wk_cons ?_ ?_))); done) | fail⟩, trivial, by first | rfl | fail, by first | simp [plainRf, plainR, plainT, plainW], ?_⟩
 conv => whnf
 repeat (first | (refine Exists.intro _ (And.intro (sload_all rfl (by first | rfl | (simp [hu, lA, lB, lC, lD, lAA, lBB, lDA, lCB]; done) | fail)) ?_); conv => whnf) | (refine Exists.intro _ (And.intro (sput_all rfl (by first | rfl | (simp [hu, lA, lB, lC, lD, lAA, lBB, lDA, lCB]; done) | fail)) ?_); conv => whnf) | (refine And.intro (by first | omega | (simp; omega) | fail) ?_; conv => whnf) | (refine And.intro (by kernel_rfl) ?_; conv => whnf) | fail)
 refine ok1_callF [] [] true (qE) rfl rfl ⟨⟨rfl, by first | ((repeat' (first | exact wk_nil | exact ren_m64 rfl | (refine wk_agg ?_) | (refine wk_cons ?_ ?_))); done) | fail⟩, trivial, by first | rfl | fail, by first | simp [plainRf, plainR, plainT, plainW], ?_⟩
 conv => whnf
 repeat (first | (refine Exists.intro _ (And.intro (sload_all rfl (by first | rfl | (simp [hu, lA, lB, lC, lD, lAA, lBB, lDA, lCB, lE]; done) | fail)) ?_); conv => whnf) | (refine Exists.intro _ (And.intro (sput_all rfl (by first | rfl | (simp [hu, lA, lB, lC, lD, lAA, lBB, lDA, lCB, lE]; done) | fail)) ?_); conv => whnf) | (refine And.intro (by first | omega | (simp; omega) | fail) ?_; conv => whnf) | fail)
 refine ok1_callF [] [] true (qT) rfl rfl ⟨⟨rfl, by first | ((repeat' (first | exact wk_nil | exact ren_m64 rfl | (refine wk_agg ?_) | (refine wk_cons ?_ ?_))); done) | fail⟩, trivial, by first | rfl | fail, by first | simp [plainRf, plainR, plainT, plainW], ?_⟩
 conv => whnf
 repeat (first | (refine Exists.intro _ (And.intro (sload_all rfl (by first | rfl | (simp [hu, lA, lB, lC, lD, lAA, lBB, lDA, lCB, lE, lT]; done) | fail)) ?_); conv => whnf) | fail)
 refine ok1_callF [] [] true (qS) rfl rfl ⟨⟨rfl, by first | ((repeat' (first | exact wk_nil | exact ren_m64 rfl | (refine wk_agg ?_) | (refine wk_cons ?_ ?_))); done) | fail⟩, trivial, by first | rfl | fail, by first | simp [plainRf, plainR, plainT, plainW], ?_⟩
 conv => whnf
 repeat (first | (refine Exists.intro _ (And.intro (sload_all rfl (by first | rfl | (simp [hu, lA, lB, lC, lD, lAA, lBB, lDA, lCB, lE, lT, lS]; done) | fail)) ?_); conv => whnf) | (refine Exists.intro _ (And.intro (sput_all rfl (by first | rfl | (simp [hu, lA, lB, lC, lD, lAA, lBB, lDA, lCB, lE, lT, lS]; done) | fail)) ?_); conv => whnf) | (refine And.intro (by first | omega | (simp; omega) | fail) ?_; conv => whnf) | (refine And.intro (by kernel_rfl) ?_; conv => whnf) | fail)
 refine ok1_callF [] [] true (qR3) rfl rfl ⟨⟨rfl, by first | ((repeat' (first | exact wk_nil | exact ren_m64 rfl | (refine wk_agg ?_) | (refine wk_cons ?_ ?_))); done) | fail⟩, trivial, by first | rfl | fail, by first | simp [plainRf, plainR, plainT, plainW], ?_⟩
 conv => whnf
 repeat (first | (refine Exists.intro _ (And.intro (sload_all rfl (by first | rfl | (simp [hu, lA, lB, lC, lD, lAA, lBB, lDA, lCB, lE, lT, lS, lR3]; done) | fail)) ?_); conv => whnf) | fail)
 refine ok1_callF [] [] true (qSS) rfl rfl ⟨⟨rfl, by first | ((repeat' (first | exact wk_nil | exact ren_m64 rfl | (refine wk_agg ?_) | (refine wk_cons ?_ ?_))); done) | fail⟩, trivial, by first | rfl | fail, by first | simp [plainRf, plainR, plainT, plainW], ?_⟩
 conv => whnf
 repeat (fail)
 refine ok1_callF [] [] true (qR4) rfl rfl ⟨⟨rfl, by first | ((repeat' (first | exact wk_nil | exact ren_m64 rfl | (refine wk_agg ?_) | (refine wk_cons ?_ ?_))); done) | fail⟩, trivial, by first | rfl | fail, by first | simp [plainRf, plainR, plainT, plainW], ?_⟩
 conv => whnf
 repeat (fail)
 refine ⟨_, fill2 lR3 lR4, ?_⟩
 conv => whnf
 repeat (first | (refine Exists.intro _ (And.intro (sload_all rfl (by first | rfl | (simp [hu, lA, lB, lC, lD, lAA, lBB, lDA, lCB, lE, lT, lS, lR3, lSS, lR4]; done) | fail)) ?_); conv => whnf) | (refine Exists.intro _ (And.intro (sput_all rfl (by first | rfl | (simp [hu, lA, lB, lC, lD, lAA, lBB, lDA, lCB, lE, lT, lS, lR3, lSS, lR4]; done) | fail)) ?_); conv => whnf) | (refine And.intro (by first | omega | (simp; omega) | fail) ?_; conv => whnf) | (refine And.intro (by kernel_rfl) ?_; conv => whnf) | fail)
 refine ok1_callF [] [] true (qR1) rfl rfl ⟨⟨rfl, by first | ((repeat' (first | exact wk_nil | exact ren_m64 rfl | (refine wk_agg ?_) | (refine wk_cons ?_ ?_))); done) | fail⟩, trivial, by first | rfl | fail, by first | simp [plainRf, plainR, plainT, plainW], ?_⟩
 conv => whnf
 repeat (first | (refine Exists.intro _ (And.intro (sload_all rfl (by first | rfl | (simp [hu, lA, lB, lC, lD, lAA, lBB, lDA, lCB, lE, lT, lS, lR3, lSS, lR4, lR1]; done) | fail)) ?_); conv => whnf) | fail)
 refine ok1_callF [] [] true (qK) rfl rfl ⟨⟨rfl, by first | rfl | fail⟩, trivial, by first | rfl | fail, by first | simp [plainRf, plainR, plainT, plainW], ?_⟩
 conv => whnf
 repeat (fail)
 refine ok1_callF [] [] true (qEK) rfl rfl ⟨⟨rfl, by first | ((repeat' (first | exact wk_nil | exact ren_m64 rfl | (refine wk_agg ?_) | (refine wk_cons ?_ ?_))); done) | fail⟩, trivial, by first | rfl | fail, by first | simp [plainRf, plainR, plainT, plainW], ?_⟩
 conv => whnf
 repeat (fail)
 refine ok1_callF [] [] true (qF) rfl rfl ⟨⟨rfl, by first | ((repeat' (first | exact wk_nil | exact ren_m64 rfl | (refine wk_agg ?_) | (refine wk_cons ?_ ?_))); done) | fail⟩, trivial, by first | rfl | fail, by first | simp [plainRf, plainR, plainT, plainW], ?_⟩
 conv => whnf
 repeat (fail)
 refine ok1_callF [] [] true (qR2) rfl rfl ⟨⟨rfl, by first | ((repeat' (first | exact wk_nil | exact ren_m64 rfl | (refine wk_agg ?_) | (refine wk_cons ?_ ?_))); done) | fail⟩, trivial, by first | rfl | fail, by first | simp [plainRf, plainR, plainT, plainW], ?_⟩
 conv => whnf
 repeat (fail)
 refine ⟨_, fill2 lR1 lR2, ?_⟩
 conv => whnf
 repeat (first | (refine Exists.intro _ (And.intro (sput_all rfl (by first | rfl | (simp [hu, lA, lB, lC, lD, lAA, lBB, lDA, lCB, lE, lT, lS, lR3, lSS, lR4, lR1, lK, lEK, lF, lR2]; done) | fail)) ?_); conv => whnf) | (refine And.intro (by first | omega | (simp; omega) | fail) ?_; conv => whnf) | (refine And.intro (by kernel_rfl) ?_; conv => whnf) | fail)
 refine ⟨[0, 1], ?_, rfl, rfl, ?_, rfl⟩
 ·
  (repeat' (first | (refine wk_tup ?_) | fail)) <;> first | rfl | fail
 ·
  (repeat' (first | exact trivial | refine And.intro ?_ ?_ | fail)) <;> first | exact ren_eq (by first | (simp; done) | fail) (by first | rfl | fail) | fail
end Go.Sh
namespace Go.Sh
open Go.Proofs
set_option maxHeartbeats 8000000
def bitN (b : List UInt8) (i : Nat) : Nat := (b.getD (i / 8) 0).toNat / 2 ^ (i % 8) % 2
theorem t8 (i : Nat) (h : i < 256) : (i : Int).tmod 8 = ((i % 8 : Nat) : Int) ∧ w64 ((i : Int).tdiv 8) = ((i / 8 : Nat) : Int) ∧ (i : Int).tmod 2 = ((i % 2 : Nat) : Int) ∧ w64 ((i : Int).tdiv 2) = ((i / 2 : Nat) : Int) := by
 have : ∀ i : Nat, i < 256 → (i : Int).tmod 8 = ((i % 8 : Nat) : Int) ∧ w64 ((i : Int).tdiv 8) = ((i / 8 : Nat) : Int) ∧ (i : Int).tmod 2 = ((i % 2 : Nat) : Int) ∧ w64 ((i : Int).tdiv 2) = ((i / 2 : Nat) : Int) := by decide +kernel
 exact this i h
end Go.Sh
namespace Go.Sh
open Go.Proofs
set_option maxHeartbeats 8000000
def clampL (b : List UInt8) : List UInt8 := (b.set 0 (b.getD 0 0 &&& 248)).set 31 ((b.getD 31 0 &&& 127) ||| 64)
theorem clamp_len (b : List UInt8) : (clampL b).length = b.length := by unfold clampL; simp
theorem clamp_p (b : List UInt8) : clampL b = (b.set 0 (b.getD 0 0 &&& 248)).set 31 ((b.set 0 (b.getD 0 0 &&& 248)).getD 31 0 &&& 127 ||| 64) := by
 have hg : (b.set 0 (b.getD 0 0 &&& 248)).getD 31 0 = b.getD 31 0 := by simp
 rw [hg]; rfl
theorem f39 (b : List UInt8) (hb : b.length = 32) : SCall Try.prog 27 [.agg (b.map .u8)] [] (.agg ((clampL b).map .u8)) [] := by
 have hl : (b.set 0 (b.getD 0 0 &&& 248)).length = 32 := by simp [hb]
 rw [clamp_p]
 refine scall_of ttOk (by kernel_rfl : Try.prog.funcs[27]? = some Try.f27) rfl rfl rfl ?_
 try simp only [List.length_cons, List.length_nil, Nat.zero_add, Nat.reduceAdd]
 refine sw_ok ttOk mixed (by kernel_rfl) ?_
 conv => whnf
 repeat (first | (refine Exists.intro _ (And.intro (sload_all rfl (by first | rfl | (simp [hb, hl]; done) | fail)) ?_); conv => whnf) | (refine Exists.intro _ (And.intro (sput_all rfl (by first | rfl | (simp [hb, hl]; done) | fail)) ?_); conv => whnf) | (refine Exists.intro _ (And.intro (sput_m8 (i := 0) (by first | rfl | fail)) ?_); conv => whnf) | (refine Exists.intro _ (And.intro (sload_u8 (i := 0) (by first | rfl | fail) (by first | omega | fail)) ?_); conv => whnf) | (refine Exists.intro _ (And.intro (idx_i (m := 0) (by first | rfl | fail)) ?_); conv => whnf) | (refine Exists.intro _ (And.intro (sput_m8 (i := 31) (by first | rfl | fail)) ?_); conv => whnf) | (refine Exists.intro _ (And.intro (sload_u8 (i := 31) (by first | rfl | fail) (by first | (simp [hb, hl]; done) | fail)) ?_); conv => whnf) | (refine Exists.intro _ (And.intro (idx_i (m := 31) (by first | rfl | fail)) ?_); conv => whnf) | (refine And.intro (by first | omega | (simp; omega) | fail) ?_; conv => whnf) | fail)
 refine ⟨[], ?_, rfl, rfl, ?_, rfl⟩
 ·
  (repeat' (first | (refine wk_agg ?_) | fail)) <;> first | exact ren_m8 (by first | rfl | fail) | fail
 ·
  (repeat' (first | exact trivial | fail)) <;> fail
end Go.Sh
namespace Go.Sh
open Go.Proofs
set_option maxHeartbeats 8000000
theorem f128_0 {x2 z2 x3 z3 : List UInt64} (h2 : x2.length = 5) (k2 : z2.length = 5) (h3 : x3.length = 5) (k3 : z3.length = 5) : SCall Try.prog 35 [.u64 0, .p 0 0, .p 1 0] [some (.box (x2.map .u64 ++ z2.map .u64)), some (.box (x3.map .u64 ++ z3.map .u64))] (.tup []) [some (.box (x2.map .u64 ++ z2.map .u64)), some (.box (x3.map .u64 ++ z3.map .u64))] := by
 obtain ⟨a0, a1, a2, a3, a4, rfl⟩ := ex5 h2
 obtain ⟨b0, b1, b2, b3, b4, rfl⟩ := ex5 k2
 obtain ⟨c0, c1, c2, c3, c4, rfl⟩ := ex5 h3
 obtain ⟨d0, d1, d2, d3, d4, rfl⟩ := ex5 k3
 have q1 := f37x 0 a0 a1 a2 a3 a4 c0 c1 c2 c3 c4 b0 b1 b2 b3 b4 d0 d1 d2 d3 d4
 have q2 := f37z 0 b0 b1 b2 b3 b4 d0 d1 d2 d3 d4 a0 a1 a2 a3 a4 c0 c1 c2 c3 c4
 simp only [swX_0, swY_0] at q1 q2
 refine scall_of ttOk (by kernel_rfl : Try.prog.funcs[35]? = some Try.f35) rfl rfl rfl ?_
 try simp only [List.length_cons, List.length_nil, Nat.zero_add, Nat.reduceAdd]
 refine sw_ok ttOk mixed (by kernel_rfl) ?_
 conv => whnf
 repeat (fail)
 refine ok1_callF [0, 1] [true, true] true (q1) rfl rfl ⟨⟨rfl, by first | rfl | fail⟩, by (repeat' (first | exact trivial | refine And.intro ?_ ?_)) <;> first | rfl | fail, by first | rfl | fail, by first | rfl | fail, ?_⟩
 conv => whnf
 repeat (fail)
 refine ok1_callF [0, 1] [true, true] true (q2) rfl rfl ⟨⟨rfl, by first | rfl | fail⟩, by (repeat' (first | exact trivial | refine And.intro ?_ ?_)) <;> first | rfl | fail, by first | rfl | fail, by first | rfl | fail, ?_⟩
 conv => whnf
 repeat (fail)
 refine ⟨[0, 1], ?_, rfl, rfl, ?_, rfl⟩
 ·
  (repeat' (first | (refine wk_tup ?_) | fail)) <;> first | rfl | fail
 ·
  (repeat' (first | exact trivial | refine And.intro ?_ ?_ | (refine wk_cons ?_ ?_))) <;> first | rfl | fail
theorem f128_1 {x2 z2 x3 z3 : List UInt64} (h2 : x2.length = 5) (k2 : z2.length = 5) (h3 : x3.length = 5) (k3 : z3.length = 5) : SCall Try.prog 35 [.u64 1, .p 0 0, .p 1 0] [some (.box (x2.map .u64 ++ z2.map .u64)), some (.box (x3.map .u64 ++ z3.map .u64))] (.tup []) [some (.box (x3.map .u64 ++ z3.map .u64)), some (.box (x2.map .u64 ++ z2.map .u64))] := by
 obtain ⟨a0, a1, a2, a3, a4, rfl⟩ := ex5 h2
 obtain ⟨b0, b1, b2, b3, b4, rfl⟩ := ex5 k2
 obtain ⟨c0, c1, c2, c3, c4, rfl⟩ := ex5 h3
 obtain ⟨d0, d1, d2, d3, d4, rfl⟩ := ex5 k3
 have q1 := f37x 1 a0 a1 a2 a3 a4 c0 c1 c2 c3 c4 b0 b1 b2 b3 b4 d0 d1 d2 d3 d4
 have q2 := f37z 1 b0 b1 b2 b3 b4 d0 d1 d2 d3 d4 c0 c1 c2 c3 c4 a0 a1 a2 a3 a4
 simp only [swX_1, swY_1] at q1 q2
 refine scall_of ttOk (by kernel_rfl : Try.prog.funcs[35]? = some Try.f35) rfl rfl rfl ?_
 try simp only [List.length_cons, List.length_nil, Nat.zero_add, Nat.reduceAdd]
 refine sw_ok ttOk mixed (by kernel_rfl) ?_
 conv => whnf
 repeat (fail)
 refine ok1_callF [0, 1] [true, true] true (q1) rfl rfl ⟨⟨rfl, by first | rfl | fail⟩, by (repeat' (first | exact trivial | refine And.intro ?_ ?_)) <;> first | rfl | fail, by first | rfl | fail, by first | rfl | fail, ?_⟩
 conv => whnf
 repeat (fail)
 refine ok1_callF [0, 1] [true, true] true (q2) rfl rfl ⟨⟨rfl, by first | rfl | fail⟩, by (repeat' (first | exact trivial | refine And.intro ?_ ?_)) <;> first | rfl | fail, by first | rfl | fail, by first | rfl | fail, ?_⟩
 conv => whnf
 repeat (fail)
 refine ⟨[0, 1], ?_, rfl, rfl, ?_, rfl⟩
 ·
  (repeat' (first | (refine wk_tup ?_) | fail)) <;> first | rfl | fail
 ·
  (repeat' (first | exact trivial | refine And.intro ?_ ?_ | (refine wk_cons ?_ ?_))) <;> first | rfl | fail
end Go.Sh
namespace Go.Sh
open Go.Proofs
set_option maxHeartbeats 8000000
def sw4 {α : Type} (c : Nat) (s : α × α × α × α) : α × α × α × α := if c = 1 then (s.2.2.1, s.2.2.2, s.1, s.2.1) else s
theorem sw4_sw4 {α : Type} (c : Nat) (s : α × α × α × α) : sw4 c (sw4 c s) = s := by
 unfold sw4; by_cases h : c = 1 <;> simp [h]
def lad4 (u : Nat) (s : Nat × Nat × Nat × Nat) : Nat × Nat × Nat × Nat := lad u s.1 s.2.1 s.2.2.1 s.2.2.2
def lad4L (u : List UInt64) (s : List UInt64 × List UInt64 × List UInt64 × List UInt64) : List UInt64 × List UInt64 × List UInt64 × List UInt64 := ladL u s.1 s.2.1 s.2.2.1 s.2.2.2
def ldr (b : List UInt8) (u : Nat) : Nat → Nat × Nat × Nat × Nat
 | 0 => (1, 0, u, 1)
 | t + 1 => sw4 (bitN b (254 - t)) (lad4 u (sw4 (bitN b (254 - t)) (ldr b u t)))
def ldrL (b : List UInt8) (u : List UInt64) : Nat → List UInt64 × List UInt64 × List UInt64 × List UInt64
 | 0 => (smallL 1, smallL 0, u, smallL 1)
 | t + 1 => sw4 (bitN b (254 - t)) (lad4L u (sw4 (bitN b (254 - t)) (ldrL b u t)))
def Nm4 (s : List UInt64 × List UInt64 × List UInt64 × List UInt64) : Prop := Nm s.1 ∧ Nm s.2.1 ∧ Nm s.2.2.1 ∧ Nm s.2.2.2
def nr4 (s : List UInt64 × List UInt64 × List UInt64 × List UInt64) : Nat × Nat × Nat × Nat := (nr s.1, nr s.2.1, nr s.2.2.1, nr s.2.2.2)
theorem Nm4_sw {c : Nat} {s : List UInt64 × List UInt64 × List UInt64 × List UInt64} (h : Nm4 s) : Nm4 (sw4 c s) := by
 unfold sw4; split
 ·
  exact ⟨h.2.2.1, h.2.2.2, h.1, h.2.1⟩
 ·
  exact h
theorem nr4_sw (c : Nat) (s : List UInt64 × List UInt64 × List UInt64 × List UInt64) : nr4 (sw4 c s) = sw4 c (nr4 s) := by
 unfold sw4; split <;> rfl
theorem lad4L_ok {u : List UInt64} {s : List UInt64 × List UInt64 × List UInt64 × List UInt64} (hu : Nm u) (h : Nm4 s) : Nm4 (lad4L u s) ∧ nr4 (lad4L u s) = lad4 (nr u) (nr4 s) := by
 obtain ⟨g1, g2, g3, g4, g⟩ := ladL_ok hu h.1 h.2.1 h.2.2.1 h.2.2.2
 exact ⟨⟨g1, g2, g3, g4⟩, g.symm⟩
theorem ldrL_ok {b : List UInt8} {u : List UInt64} (hu : Nm u) : ∀ t, Nm4 (ldrL b u t) ∧ nr4 (ldrL b u t) = ldr b (nr u) t
 | 0 => by
  obtain ⟨n1, v1⟩ := Nm_small 1
  obtain ⟨n0, v0⟩ := Nm_small 0
  refine ⟨⟨n1, n0, hu, n1⟩, ?_⟩
  show (nr (smallL 1), nr (smallL 0), nr u, nr (smallL 1)) = (1, 0, nr u, 1)
  rw [v1, v0]; rfl
 | t + 1 => by
  obtain ⟨h, e⟩ := ldrL_ok (b := b) hu t
  obtain ⟨h2, e2⟩ := lad4L_ok hu (Nm4_sw (c := bitN b (254 - t)) h)
  refine ⟨Nm4_sw h2, ?_⟩
  show nr4 (sw4 _ (lad4L u (sw4 _ (ldrL b u t)))) = sw4 _ (lad4 (nr u) (sw4 _ (ldr b (nr u) t)))
  rw [nr4_sw, e2, nr4_sw, e]
def timesN (b : List UInt8) (u : Nat) : Nat := (ldr b u 255).1 * invN (ldr b u 255).2.1 % P25519
def timesL (b : List UInt8) (u : List UInt64) : List UInt64 := mulL (ldrL b u 255).1 (invL (ldrL b u 255).2.1)
theorem timesL_ok {b : List UInt8} {u : List UInt64} (hu : Nm u) : Nm (timesL b u) ∧ nr (timesL b u) = timesN b (nr u) := by
 obtain ⟨h, e⟩ := ldrL_ok (b := b) hu 255
 obtain ⟨n1, v1⟩ := invL_ok h.2.1
 obtain ⟨n2, v2⟩ := mulL_ok h.1 n1
 refine ⟨n2, ?_⟩
 unfold timesL timesN
 rw [v2, v1, ← e]; rfl
end Go.Sh
namespace Go.Sh
open Go.Proofs
set_option maxHeartbeats 8000000
theorem u8_all {p : UInt8 → Prop} (h : ∀ n : Fin 256, p (UInt8.ofNat n.1)) (x : UInt8) : p x := by
 have := h ⟨x.toNat, UInt8.toNat_lt x⟩
 simpa using this
end Go.Sh
namespace Go.Sh
open Go.Proofs
set_option maxHeartbeats 8000000
theorem f129 (b : List UInt8) (hb : b.length = 32) : SCall Try.prog 37 [.agg (b.map .u8)] [] (.fn 44 [.p 0 0]) [some (.box (b.map .u8))] := by
 refine scall_of ttOk (by kernel_rfl : Try.prog.funcs[37]? = some Try.f37) rfl rfl rfl ?_
 try simp only [List.length_cons, List.length_nil, Nat.zero_add, Nat.reduceAdd]
 refine sw_ok ttOk mixed (by kernel_rfl) ?_
 conv => whnf
 repeat (fail)
 refine ⟨[0], ?_, rfl, rfl, ?_, rfl⟩
 ·
  (repeat' (fail)) <;> first | rfl | fail
 ·
  (repeat' (first | exact trivial | refine And.intro ?_ ?_ | fail)) <;> first | exact ren_eq (by first | (simp; done) | fail) (by first | rfl | fail) | fail
end Go.Sh
namespace Go.Sh
open Go.Proofs
set_option maxHeartbeats 8000000
def lastB (b : List UInt8) : Nat → Nat
 | 0 => 0
 | t + 1 => bitN b (254 - t)
theorem bitN_lt (b : List UInt8) (i : Nat) : bitN b i < 2 := by unfold bitN; exact Nat.mod_lt _ (by decide)
theorem lastB_lt (b : List UInt8) : ∀ t, lastB b t < 2
 | 0 => by show 0 < 2; decide
 | t + 1 => bitN_lt b _
def ladS (b : List UInt8) (u : List UInt64) (t : Nat) : List UInt64 × List UInt64 × List UInt64 × List UInt64 := sw4 (lastB b t) (ldrL b u t)
def len4 (s : List UInt64 × List UInt64 × List UInt64 × List UInt64) : Prop := s.1.length = 5 ∧ s.2.1.length = 5 ∧ s.2.2.1.length = 5 ∧ s.2.2.2.length = 5
theorem len4_sw {c : Nat} {s : List UInt64 × List UInt64 × List UInt64 × List UInt64} (h : len4 s) : len4 (sw4 c s) := by
 unfold sw4; split
 ·
  exact ⟨h.2.2.1, h.2.2.2, h.1, h.2.1⟩
 ·
  exact h
theorem len4_lad (u : List UInt64) (s : List UInt64 × List UInt64 × List UInt64 × List UInt64) : len4 (lad4L u s) := ⟨rfl, rfl, rfl, rfl⟩
theorem len4_ldr (b : List UInt8) {u : List UInt64} (hu : u.length = 5) : ∀ t, len4 (ldrL b u t)
 | 0 => ⟨rfl, rfl, hu, rfl⟩
 | t + 1 => len4_sw (len4_lad _ _)
theorem len4_ladS (b : List UInt8) {u : List UInt64} (hu : u.length = 5) (t : Nat) : len4 (ladS b u t) := len4_sw (len4_ldr b hu t)
theorem ladS_z (b : List UInt8) (u : List UInt64) : ladS b u 0 = (smallL 1, smallL 0, u, smallL 1) := rfl
theorem ladS_s (b : List UInt8) (u : List UInt64) (t : Nat) : ladS b u (t + 1) = lad4L u (sw4 (lastB b (t + 1)) (sw4 (lastB b t) (ladS b u t))) := by
 unfold ladS
 rw [sw4_sw4 (lastB b t)]
 show sw4 (bitN b (254 - t)) (sw4 (bitN b (254 - t)) _) = _
 rw [sw4_sw4]; rfl
theorem ladS_e (b : List UInt8) (u : List UInt64) : sw4 0 (sw4 (lastB b 255) (ladS b u 255)) = ldrL b u 255 := by
 unfold ladS; rw [sw4_sw4]; rfl
theorem f128_c {c d : Nat} (hc : c < 2) (hd : d < 2) (s : List UInt64 × List UInt64 × List UInt64 × List UInt64) (hs : len4 s) : SCall Try.prog 35 [.u64 (UInt64.ofNat c ^^^ UInt64.ofNat d), .p 0 0, .p 1 0] [some (.box (s.1.map .u64 ++ s.2.1.map .u64)), some (.box (s.2.2.1.map .u64 ++ s.2.2.2.map .u64))] (.tup []) [some (.box ((sw4 d (sw4 c s)).1.map .u64 ++ (sw4 d (sw4 c s)).2.1.map .u64)), some (.box ((sw4 d (sw4 c s)).2.2.1.map .u64 ++ (sw4 d (sw4 c s)).2.2.2.map .u64))] := by
 obtain ⟨h1, h2, h3, h4⟩ := hs
 have g0 := f128_0 h1 h2 h3 h4
 have g1 := f128_1 h1 h2 h3 h4
 have hc' : c = 0 ∨ c = 1 := by omega
 have hd' : d = 0 ∨ d = 1 := by omega
 rcases hc' with rfl | rfl <;> rcases hd' with rfl | rfl
 ·
  exact g0
 ·
  exact g1
 ·
  exact g1
 ·
  exact g0
theorem f128_z {c : Nat} (hc : c < 2) (s : List UInt64 × List UInt64 × List UInt64 × List UInt64) (hs : len4 s) : SCall Try.prog 35 [.u64 (UInt64.ofNat c), .p 0 0, .p 1 0] [some (.box (s.1.map .u64 ++ s.2.1.map .u64)), some (.box (s.2.2.1.map .u64 ++ s.2.2.2.map .u64))] (.tup []) [some (.box ((sw4 0 (sw4 c s)).1.map .u64 ++ (sw4 0 (sw4 c s)).2.1.map .u64)), some (.box ((sw4 0 (sw4 c s)).2.2.1.map .u64 ++ (sw4 0 (sw4 c s)).2.2.2.map .u64))] := by
 have h := f128_c hc (d := 0) (by decide) s hs
 have e : UInt64.ofNat c ^^^ UInt64.ofNat 0 = UInt64.ofNat c := by
  have hc' : c = 0 ∨ c = 1 := by omega
  rcases hc' with rfl | rfl <;> rfl
 rwa [e] at h
end Go.Sh
namespace Go.Sh
open Go.Proofs
set_option maxHeartbeats 8000000
theorem bit_p (x : UInt8) (n : Nat) (hn : n < 8) : (shr8 x n &&& 1).toUInt64 = UInt64.ofNat (x.toNat / 2 ^ n % 2) := by
 have : ∀ (m : Fin 256) (n : Fin 8), (shr8 (UInt8.ofNat m.1) n.1 &&& 1).toUInt64 = UInt64.ofNat ((UInt8.ofNat m.1).toNat / 2 ^ n.1 % 2) := by decide +kernel
 have h := this ⟨x.toNat, UInt8.toNat_lt x⟩ ⟨n, hn⟩
 simpa using h
attribute [local irreducible] mulL ladL invL smallL ldrL ladS lad4L
theorem f91 (b : List UInt8) (hb : b.length = 32) (u : List UInt64) (hu : u.length = 5) : SCall Try.prog 26 [.agg (b.map .u8), .agg (u.map .u64)] [] (.agg ((timesL b u).map .u64)) [] := by
 have q1 := f22 1
 have q0 := f22 0
 have h129 := f129 b hb
 have l1 : (smallL 1).length = 5 := by unfold smallL; rfl
 have l0 : (smallL 0).length = 5 := by unfold smallL; rfl
 refine scall_of ttOk (by kernel_rfl : Try.prog.funcs[26]? = some Try.f26) rfl rfl rfl ?_
 try simp only [List.length_cons, List.length_nil, Nat.zero_add, Nat.reduceAdd]
 refine sw_ok ttOk mixed (by kernel_rfl) ?_
 conv => whnf
 repeat (fail)
 refine ok1_callF [] [] true (q1) rfl rfl ⟨⟨rfl, by first | rfl | fail⟩, trivial, by first | rfl | fail, by first | simp [plainRf, plainR, plainT, plainW], ?_⟩
 conv => whnf
 repeat (fail)
 refine ok1_callF [] [] true (q0) rfl rfl ⟨⟨rfl, by first | rfl | fail⟩, trivial, by first | rfl | fail, by first | simp [plainRf, plainR, plainT, plainW], ?_⟩
 conv => whnf
 refine ⟨_, fill2 l1 l0, ?_⟩
 conv => whnf
 repeat (first | (refine Exists.intro _ (And.intro (sload_all rfl (by first | rfl | (simp [hb, hu, l1, l0]; done) | fail)) ?_); conv => whnf) | fail)
 refine ok1_callF [] [] true (q1) rfl rfl ⟨⟨rfl, by first | rfl | fail⟩, trivial, by first | rfl | fail, by first | simp [plainRf, plainR, plainT, plainW], ?_⟩
 conv => whnf
 refine ⟨_, fill2 hu l1, ?_⟩
 conv => whnf
 repeat (first | (refine Exists.intro _ (And.intro (sload_all rfl (by first | rfl | (simp [hb, hu, l1, l0]; done) | fail)) ?_); conv => whnf) | (refine Exists.intro _ (And.intro (sput_all rfl (by first | rfl | (simp [hb, hu, l1, l0]; done) | fail)) ?_); conv => whnf) | (refine Exists.intro _ (And.intro rfl ?_); conv => whnf) | (refine And.intro (by first | omega | (simp; done) | (simp; omega) | fail) ?_; conv => whnf) | (refine And.intro ⟨rfl, Nat.le_of_ble_eq_true rfl⟩ ?_; conv => whnf) | (refine And.intro (by kernel_rfl) ?_; conv => whnf) | fail)
 refine ok1_callF [] [true] false (h129) rfl rfl ⟨⟨rfl, by first | ((repeat' (first | exact wk_nil | exact ren_m8 rfl | (refine wk_agg ?_) | (refine wk_cons ?_ ?_))); done) | fail⟩, trivial, by first | simp [plainHf, plainB], by first | rfl | fail, ?_⟩
 conv => whnf
 repeat (fail)
 refine SWp.weak (R0 := [(3, .p 1 0), (4, .p 2 0), (5, .p 3 0), (6, .p 4 0), (7, .p 5 0), (8, .p 6 0), (18, .fn 44 [.p 7 0])]) (H0 := [some (.box (b.map .u8)), some (.box (u.map .u64)), some (.box (List.replicate 5 (.u64 0))), some (.box ((ladS b u 0).1.map .u64 ++ (ladS b u 0).2.1.map .u64)), some (.box ((ladS b u 0).2.2.1.map .u64 ++ (ladS b u 0).2.2.2.map .u64)), some (.box [.u64 (UInt64.ofNat (lastB b 0))]), some (.box [.fn 35 [.p 3 0, .p 4 0]]), some (.box (b.map .u8))]) (L0 := 8) ?_ ?_
 ·
  have hz := ladS_z b u
  rw [hz]
  refine Weak.sel [0, 1, 2, 3, 4, 5, 6, 7] rfl rfl ?_ ?_ rfl rfl
  ·
   (repeat' (first | exact trivial | refine And.intro ?_ ?_ | fail)) <;> first | rfl | fail
  ·
   (repeat' (first | exact trivial | refine And.intro ?_ ?_ | (refine wk_cons ?_ ?_))) <;> first | rfl | exact ren_eq (by first | (simp; done) | fail) (by first | rfl | fail) | fail
 refine range_named rfl rfl rfl (by kernel_rfl : Try.prog.funcs[44]? = some Try.f44) rfl rfl rfl rfl ?_
 intro asq bdq hasq hbdq
 refine sw_ok ttOk mixed (by kernel_rfl) ?_
 conv => whnf
 repeat (fail)
 refine loop_rule ttOk mixed (by kernel_rfl) (ι := { m : Nat // m ≤ 255 }) (fun m => [(0, .yld 8), (1, .p 7 0), (3, .i ((m.1 : Int) - 1))]) (fun m => [some (.box (b.map .u8)), some (.box (u.map .u64)), some (.box (List.replicate 5 (.u64 0))), some (.box ((ladS b u (255 - m.1)).1.map .u64 ++ (ladS b u (255 - m.1)).2.1.map .u64)), some (.box ((ladS b u (255 - m.1)).2.2.1.map .u64 ++ (ladS b u (255 - m.1)).2.2.2.map .u64)), some (.box [.u64 (UInt64.ofNat (lastB b (255 - m.1)))]), some (.box [.fn 35 [.p 3 0, .p 4 0]]), some (.box (b.map .u8)), some (.obj (.loop [(3, .p 1 0), (4, .p 2 0), (5, .p 3 0), (6, .p 4 0), (7, .p 5 0), (8, .p 6 0)] Try.f26.ntmps [19] asq bdq))]) (fun _ => 9) (fun m => m.1) ⟨255, by omega⟩ ?_ ?_
 ·
  refine Weak.sel [0, 1, 2, 3, 4, 5, 6, 7, 8] rfl rfl ?_ ?_ rfl rfl
  ·
   (repeat' (first | exact trivial | refine And.intro ?_ ?_ | fail)) <;> first | rfl | fail
  ·
   (repeat' (first | exact trivial | refine And.intro ?_ ?_ | (refine wk_cons ?_ ?_))) <;> first | rfl | exact ren_eq (by first | (simp; done) | fail) (by first | rfl | fail) | fail
 ·
  rintro ⟨m, hm⟩
  dsimp only
  by_cases hm0 : 0 < m
  ·
   obtain ⟨k, rfl⟩ : ∃ k, m = k + 1 := ⟨m - 1, by omega⟩
   have he : ((k + 1 : Nat) : Int) - 1 = (k : Int) := by omega
   rw [he]
   have hlt : decide ((k : Int) ≥ 0) = true := by simp
   obtain ⟨h1, h2, -, -⟩ := t8 k (by omega)
   have hs := ladS_s b u (255 - (k + 1))
   have hk8 : k / 8 < 32 := by omega
   have hbv : (shr8 (b.getD (k / 8) 0) ((k : Int).tmod 8).toNat &&& UInt8.ofNat (Int.toNat 1)).toUInt64 = UInt64.ofNat (bitN b k) := by
    rw [h1, Int.toNat_natCast]; exact bit_p _ _ (Nat.mod_lt _ (by decide))
   have hlb : lastB b (255 - (k + 1) + 1) = bitN b k := by
    show bitN b (254 - (255 - (k + 1))) = _
    rw [show 254 - (255 - (k + 1)) = k by omega]
   rw [hlb, show 255 - (k + 1) + 1 = 255 - k by omega] at hs
   have hlb2 : lastB b (255 - k) = bitN b k := by rw [show 255 - k = 255 - (k + 1) + 1 by omega]; exact hlb
   have hc := lastB_lt b (255 - (k + 1))
   have hd := bitN_lt b k
   have hS := len4_ladS b hu (255 - (k + 1))
   obtain ⟨S, eS⟩ : ∃ S, S = ladS b u (255 - (k + 1)) := ⟨_, rfl⟩
   obtain ⟨c, ec⟩ : ∃ c, c = lastB b (255 - (k + 1)) := ⟨_, rfl⟩
   obtain ⟨d, ed⟩ : ∃ d, d = bitN b k := ⟨_, rfl⟩
   rw [← eS, ← ec, ← ed] at hs
   rw [← ed] at hbv hlb2
   rw [← ec] at hc
   rw [← ed] at hd
   rw [← eS] at hS
   rw [← eS, ← ec]
   have q128 := f128_c hc hd S hS
   obtain ⟨T, eT⟩ : ∃ T, T = sw4 d (sw4 c S) := ⟨_, rfl⟩
   have hT : len4 T := by rw [eT]; exact len4_sw (len4_sw hS)
   rw [← eT] at q128 hs
   obtain ⟨hT1, hT2, hT3, hT4⟩ := hT
   have q130 := f130 hu hT1 hT2 hT3 hT4
   have hq : ladL u T.1 T.2.1 T.2.2.1 T.2.2.2 = ladS b u (255 - k) := by rw [hs]; unfold lad4L; rfl
   rw [hq] at q130
   conv => whnf
   first | refine brT (by exact hlt) ?_ | fail
   conv => whnf
   repeat (first | (refine Exists.intro _ (And.intro (sload_u8 (i := k / 8) (by first | rfl | (simp; done) | fail) (by first | omega | fail)) ?_); conv => whnf) | (refine Exists.intro _ (And.intro (idx_i (m := k / 8) (by first | rfl | omega | fail)) ?_); conv => whnf) | (refine Exists.intro _ (And.intro rfl ?_); conv => whnf) | (refine And.intro (by first | omega | fail) ?_; conv => whnf) | fail)
   rw [hbv]
   refine ok1_yield 8 [1, 2, 3, 4, 5, 6] [false, true, true, true, true, true, false] (syield_of (ps := [19]) (N := Try.f26.ntmps) (R0 := [(3, .p 1 0), (4, .p 2 0), (5, .p 3 0), (6, .p 4 0), (7, .p 5 0), (8, .p 6 0)]) (args0 := [.u64 (UInt64.ofNat d)]) (ex := .normal) (H0t := [some (.box (u.map .u64)), some (.box (List.replicate 5 (.u64 0))), some (.box (S.1.map .u64 ++ S.2.1.map .u64)), some (.box (S.2.2.1.map .u64 ++ S.2.2.2.map .u64)), some (.box [.u64 (UInt64.ofNat c)]), some (.box [.fn 35 [.p 3 0, .p 4 0]])]) (H1t := [some (.box (u.map .u64)), some (.box (List.replicate 5 (.u64 0))), some (.box ((ladS b u (255 - k)).1.map .u64 ++ (ladS b u (255 - k)).2.1.map .u64)), some (.box ((ladS b u (255 - k)).2.2.1.map .u64 ++ (ladS b u (255 - k)).2.2.2.map .u64)), some (.box [.u64 (UInt64.ofNat d)]), some (.box [.fn 35 [.p 3 0, .p 4 0]])]) (.inl rfl) rfl rfl rfl ?_) rfl rfl ⟨⟨rfl, by first | rfl | fail⟩, by (repeat' (first | exact trivial | refine And.intro ?_ ?_)) <;> first | rfl | exact ren_eq (by first | (simp; done) | fail) (by first | rfl | fail), by first | (simp [plainHf, plainB]; done) | fail, ?_⟩
   ·
    subst hasq
    subst hbdq
    refine sw_ok ttOk mixed (by kernel_rfl) ?_
    conv => whnf
    repeat (first | (refine And.intro (by first | omega | (simp; done) | fail) ?_; conv => whnf) | (refine And.intro (by kernel_rfl) ?_; conv => whnf) | fail)
    refine sw_ok ttOk mixed (by kernel_rfl) ?_
    conv => whnf
    repeat (first | (refine Exists.intro _ (And.intro rfl ?_); conv => whnf) | fail)
    refine ok1_callF [3, 4] [true, true] true (q128) rfl rfl ⟨⟨rfl, by first | rfl | fail⟩, by (repeat' (first | exact trivial | refine And.intro ?_ ?_)) <;> first | exact ren_eq (by first | (simp; done) | fail) (by first | rfl | fail) | fail, by first | simp [plainHf, plainB], by first | rfl | fail, ?_⟩
    conv => whnf
    repeat (first | (refine Exists.intro _ (And.intro (sload_all rfl (by first | rfl | (simp [hu]; done) | fail)) ?_); conv => whnf) | (refine Exists.intro _ (And.intro rfl ?_); conv => whnf) | (refine And.intro (by first | omega | (simp; done) | fail) ?_; conv => whnf) | fail)
    refine ok1_callF [3, 4] [true, true] true (q130) rfl rfl ⟨⟨rfl, by first | ((repeat' (first | exact ren_m64 rfl | exact rfl | (refine wk_agg ?_) | (refine wk_cons ?_ ?_))); done) | fail⟩, by (repeat' (first | exact trivial | refine And.intro ?_ ?_)) <;> first | exact ren_eq (by first | (simp; done) | fail) (by first | rfl | fail) | fail, by first | simp [plainHf, plainB], by first | rfl | fail, ?_⟩
    conv => whnf
    repeat (first | (refine And.intro (by first | omega | (simp; done) | fail) ?_; conv => whnf) | (refine And.intro (by kernel_rfl) ?_; conv => whnf) | fail)
    exact ⟨[0, 1, 2, 3, 4, 5, 6], rfl, rfl, by (repeat' (first | exact trivial | refine And.intro ?_ ?_)) <;> first | rfl | exact ren_eq (by first | (simp; done) | fail) (by first | rfl | fail) | fail, rfl⟩
   ·
    conv => whnf
    repeat (first | (refine brF rfl ?_; conv => whnf) | fail)
    refine ⟨⟨k, by omega⟩, by simp only; omega, ?_⟩
    dsimp only
    rw [hlb2]
    have hp1 : w64 ((k : Int) - 1) = (k : Int) - 1 := by simp only [w64_eq]; omega
    refine Weak.sel [0, 1, 2, 3, 4, 5, 6, 7, 8] rfl rfl ?_ ?_ rfl rfl
    ·
     (repeat' (first | exact trivial | refine And.intro ?_ ?_ | fail)) <;> first | exact wk_i (by first | exact hp1 | exact hp1.symm | fail) | rfl | fail
    ·
     (repeat' (first | exact trivial | refine And.intro ?_ ?_ | (refine wk_cons ?_ ?_))) <;> first | rfl | exact ren_eq (by first | (simp; done) | fail) (by first | rfl | fail) | fail
  ·
   obtain rfl : m = 0 := by omega
   have hc := lastB_lt b 255
   have hS := len4_ladS b hu 255
   have hE := ladS_e b u
   have hL := len4_ldr b hu 255
   have q128 := f128_z hc _ hS
   rw [hE] at q128
   obtain ⟨⟨L1, L2, L3, L4⟩, eL⟩ : ∃ L, L = ldrL b u 255 := ⟨_, rfl⟩
   have hfin : timesL b u = mulL L1 (invL L2) := by unfold timesL; rw [← eL]
   rw [← eL] at q128 hL
   obtain ⟨hL1, hL2, hL3, hL4⟩ := hL
   dsimp only at hL1 hL2 hL3 hL4 q128
   have q29 := f29 hL2
   have hil := invL_len L2
   have q28 := f28 hL1 hil
   rw [← hfin] at q28
   have htl : (timesL b u).length = 5 := by rw [hfin]; exact mulL_len ..
   clear eL hfin hE
   obtain ⟨a0, a1, a2, a3, a4, rfl⟩ := ex5 hL1
   obtain ⟨b0, b1, b2, b3, b4, rfl⟩ := ex5 hL2
   rw [show 255 - 0 = 255 from rfl]
   obtain ⟨S, eS⟩ : ∃ S, S = ladS b u 255 := ⟨_, rfl⟩
   obtain ⟨c, ec⟩ : ∃ c, c = lastB b 255 := ⟨_, rfl⟩
   rw [← eS, ← ec] at q128 ⊢
   rw [← eS] at hS
   conv => whnf
   first | refine brF (by rfl) ?_ | fail
   conv => whnf
   repeat (first | (refine Exists.intro _ (And.intro rfl ?_); conv => whnf) | fail)
   refine ok1_callF [3, 4] [true, true] true (q128) rfl rfl ⟨⟨rfl, by first | rfl | fail⟩, by (repeat' (first | exact trivial | refine And.intro ?_ ?_)) <;> first | exact ren_eq (by first | (simp; done) | fail) (by first | rfl | fail) | fail, by first | simp [plainHf, plainB], by first | rfl | fail, ?_⟩
   conv => whnf
   repeat (first | (refine Exists.intro _ (And.intro rfl ?_); conv => whnf) | fail)
   refine ok1_callF [] [] true (q29) rfl rfl ⟨⟨rfl, by first | rfl | fail⟩, trivial, by first | rfl | fail, by first | simp [plainRf, plainR, plainT, plainW], ?_⟩
   conv => whnf
   repeat (fail)
   refine ok1_callF [] [] true (q28) rfl rfl ⟨⟨rfl, by first | ((repeat' (first | exact wk_nil | exact ren_m64 rfl | exact rfl | (refine wk_agg ?_) | (refine wk_cons ?_ ?_))); done) | fail⟩, trivial, by first | rfl | fail, by first | simp [plainRf, plainR, plainT, plainW], ?_⟩
   conv => whnf
   repeat (first | (refine Exists.intro _ (And.intro (sload_all rfl (by first | rfl | (simp [hil, htl]; done) | fail)) ?_); conv => whnf) | (refine Exists.intro _ (And.intro (sput_all rfl (by first | rfl | (simp [hil, htl]; done) | fail)) ?_); conv => whnf) | (refine And.intro (by first | omega | (simp; omega) | fail) ?_; conv => whnf) | (refine And.intro (by kernel_rfl) ?_; conv => whnf) | fail)
   refine ⟨[], ?_, rfl, rfl, ?_, rfl⟩
   ·
    (repeat' (first | (refine wk_agg ?_) | fail)) <;> first | exact ren_eq (by first | (simp; done) | fail) (by first | rfl | fail) | fail
   ·
    (repeat' (first | exact trivial | fail)) <;> fail
end Go.Sh
namespace Go.Sh
open Go.Proofs
set_option maxHeartbeats 8000000
def shN (k p : List UInt8) : List UInt8 := le32 (timesN (clampL k) (br p))
def pubN (k : List UInt8) : List UInt8 := le32 (timesN (clampL k) 9)
def zer : List UInt8 := List.replicate 32 0
theorem shN_len (k p : List UInt8) : (shN k p).length = 32 := le32_len _
theorem pubN_len (k : List UInt8) : (pubN k).length = 32 := le32_len _
attribute [local irreducible] timesL timesN ofB le32 clampL smallL shN pubN
theorem f40 (k p : List UInt8) (hk : k.length = 32) (hp : p.length = 32) : SCall Try.prog 22 [.agg (k.map .u8), .agg (p.map .u8)] [] (.tup [.agg ((shN k p).map .u8), .i (if shN k p = zer then 70 else 0)]) [] := by
 have hcl : (clampL k).length = 32 := by rw [clamp_len]; exact hk
 have q39 := f39 k hk
 have q21 := f21 p hp
 have hol : (ofB p).length = 5 := by unfold ofB; rfl
 have q91 := f91 (clampL k) hcl (ofB p) hol
 have hok := timesL_ok (b := clampL k) (ofB_ok p).1
 have q25 := f25 hok.1
 rw [hok.2, nr_of, show le32 (timesN (clampL k) (br p)) = shN k p by unfold shN; rfl] at q25
 have htl : (timesL (clampL k) (ofB p)).length = 5 := by unfold timesL; exact mulL_len ..
 have hsl := shN_len k p
 have hdec : eqcs ((shN k p).map SV.u8) (zer.map SV.u8) = decide (shN k p = zer) := eqcs_dec _ _ (by rw [hsl]; rfl)
 obtain ⟨W, eW⟩ : ∃ W, W = shN k p := ⟨_, rfl⟩
 rw [← eW] at q25 hsl hdec ⊢
 refine scall_of ttOk (by kernel_rfl : Try.prog.funcs[22]? = some Try.f22) rfl rfl rfl ?_
 try simp only [List.length_cons, List.length_nil, Nat.zero_add, Nat.reduceAdd]
 refine sw_ok ttOk mixed (by kernel_rfl) ?_
 conv => whnf
 repeat (first | (refine Exists.intro _ (And.intro (sload_all rfl (by first | rfl | (simp [hk, hp]; done) | fail)) ?_); conv => whnf) | fail)
 refine ok1_callF [] [] true (q39) rfl rfl ⟨⟨rfl, by first | ((repeat' (first | exact wk_nil | exact ren_m8 rfl | (refine wk_agg ?_) | (refine wk_cons ?_ ?_))); done) | fail⟩, trivial, by first | rfl | fail, by first | simp [plainRf, plainR, plainT, plainW], ?_⟩
 conv => whnf
 repeat (first | (refine Exists.intro _ (And.intro (sload_all rfl (by first | rfl | (simp [hk, hp, hcl]; done) | fail)) ?_); conv => whnf) | fail)
 refine ok1_callF [] [] true (q21) rfl rfl ⟨⟨rfl, by first | ((repeat' (first | exact wk_nil | exact ren_m8 rfl | (refine wk_agg ?_) | (refine wk_cons ?_ ?_))); done) | fail⟩, trivial, by first | rfl | fail, by first | simp [plainRf, plainR, plainT, plainW], ?_⟩
 conv => whnf
 repeat (fail)
 refine ok1_callF [] [] true (q91) rfl rfl ⟨⟨rfl, by first | ((repeat' (first | exact wk_nil | exact ren_m8 rfl | exact ren_m64 rfl | (refine wk_agg ?_) | (refine wk_cons ?_ ?_))); done) | fail⟩, trivial, by first | rfl | fail, by first | simp [plainRf, plainR, plainT, plainW], ?_⟩
 conv => whnf
 repeat (fail)
 refine ok1_callF [] [] true (q25) rfl rfl ⟨⟨rfl, by first | ((repeat' (first | exact wk_nil | exact ren_m64 rfl | (refine wk_agg ?_) | (refine wk_cons ?_ ?_))); done) | fail⟩, trivial, by first | rfl | fail, by first | simp [plainRf, plainR, plainT, plainW], ?_⟩
 conv => whnf
 repeat (first | (refine Exists.intro _ (And.intro (sload_all rfl (by first | rfl | (simp [hk, hp, hcl, hol, htl, hsl]; done) | fail)) ?_); conv => whnf) | (refine Exists.intro _ (And.intro (sput_all rfl (by first | rfl | (simp [hk, hp, hcl, hol, htl, hsl]; done) | fail)) ?_); conv => whnf) | (refine Exists.intro _ (And.intro rfl ?_); conv => whnf) | (refine And.intro (by first | (simp; omega) | fail) ?_; conv => whnf) | (refine And.intro (by kernel_rfl) ?_; conv => whnf) | fail)
 refine And.intro ⟨kd_u8n W hsl, kd_u8n zer rfl⟩ ?_
 conv => whnf
 by_cases hz : W = zer
 ·
  rw [if_pos hz]
  rw [decide_eq_true hz] at hdec
  first | refine brT (by exact hdec) ?_ | fail
  conv => whnf
  repeat (first | (refine Exists.intro _ (And.intro (sload_all rfl (by first | rfl | (simp [hsl]; done) | fail)) ?_); conv => whnf) | (refine Exists.intro _ (And.intro (sput_all rfl (by first | rfl | (simp [hsl]; done) | fail)) ?_); conv => whnf) | (refine And.intro (by first | omega | (simp; omega) | fail) ?_; conv => whnf) | fail)
  refine ⟨[], ?_, rfl, rfl, ?_, rfl⟩
  ·
   (repeat' (first | (refine wk_tup ?_) | (refine wk_agg ?_) | (refine wk_cons ?_ ?_))) <;> first | rfl | exact ren_eq (by first | (simp; done) | fail) (by first | rfl | fail) | fail
  ·
   (repeat' (first | exact trivial | fail)) <;> fail
 ·
  rw [if_neg hz]
  rw [decide_eq_false hz] at hdec
  first | refine brF (by exact hdec) ?_ | fail
  conv => whnf
  repeat (first | (refine Exists.intro _ (And.intro (sload_all rfl (by first | rfl | (simp [hsl]; done) | fail)) ?_); conv => whnf) | (refine Exists.intro _ (And.intro (sput_all rfl (by first | rfl | (simp [hsl]; done) | fail)) ?_); conv => whnf) | (refine And.intro (by first | omega | (simp; omega) | fail) ?_; conv => whnf) | fail)
  refine ⟨[], ?_, rfl, rfl, ?_, rfl⟩
  ·
   (repeat' (first | (refine wk_tup ?_) | (refine wk_agg ?_) | (refine wk_cons ?_ ?_))) <;> first | rfl | exact ren_eq (by first | (simp; done) | fail) (by first | rfl | fail) | fail
  ·
   (repeat' (first | exact trivial | fail)) <;> fail
theorem f41 (k : List UInt8) (hk : k.length = 32) : SCall Try.prog 16 [.agg (k.map .u8)] [] (.agg ((pubN k).map .u8)) [] := by
 have hcl : (clampL k).length = 32 := by rw [clamp_len]; exact hk
 have q39 := f39 k hk
 have q22 := f22 9
 have hol : (smallL 9).length = 5 := by unfold smallL; rfl
 have q91 := f91 (clampL k) hcl (smallL 9) hol
 have hok := timesL_ok (b := clampL k) (Nm_small 9).1
 have q25 := f25 hok.1
 rw [hok.2, (Nm_small 9).2, show le32 (timesN (clampL k) (9 : UInt32).toNat) = pubN k by unfold pubN; rfl] at q25
 have htl : (timesL (clampL k) (smallL 9)).length = 5 := by unfold timesL; exact mulL_len ..
 have hsl := pubN_len k
 obtain ⟨W, eW⟩ : ∃ W, W = pubN k := ⟨_, rfl⟩
 rw [← eW] at q25 hsl ⊢
 refine scall_of ttOk (by kernel_rfl : Try.prog.funcs[16]? = some Try.f16) rfl rfl rfl ?_
 try simp only [List.length_cons, List.length_nil, Nat.zero_add, Nat.reduceAdd]
 refine sw_ok ttOk mixed (by kernel_rfl) ?_
 conv => whnf
 repeat (first | (refine Exists.intro _ (And.intro (sload_all rfl (by first | rfl | (simp [hk]; done) | fail)) ?_); conv => whnf) | fail)
 refine ok1_callF [] [] true (q39) rfl rfl ⟨⟨rfl, by first | ((repeat' (first | exact wk_nil | exact ren_m8 rfl | (refine wk_agg ?_) | (refine wk_cons ?_ ?_))); done) | fail⟩, trivial, by first | rfl | fail, by first | simp [plainRf, plainR, plainT, plainW], ?_⟩
 conv => whnf
 repeat (fail)
 refine ok1_callF [] [] true (q22) rfl rfl ⟨⟨rfl, by first | rfl | fail⟩, trivial, by first | rfl | fail, by first | simp [plainRf, plainR, plainT, plainW], ?_⟩
 conv => whnf
 repeat (fail)
 refine ok1_callF [] [] true (q91) rfl rfl ⟨⟨rfl, by first | ((repeat' (first | exact wk_nil | exact ren_m8 rfl | exact ren_m64 rfl | (refine wk_agg ?_) | (refine wk_cons ?_ ?_))); done) | fail⟩, trivial, by first | rfl | fail, by first | simp [plainRf, plainR, plainT, plainW], ?_⟩
 conv => whnf
 repeat (fail)
 refine ok1_callF [] [] true (q25) rfl rfl ⟨⟨rfl, by first | ((repeat' (first | exact wk_nil | exact ren_m64 rfl | (refine wk_agg ?_) | (refine wk_cons ?_ ?_))); done) | fail⟩, trivial, by first | rfl | fail, by first | simp [plainRf, plainR, plainT, plainW], ?_⟩
 conv => whnf
 repeat (first | (refine Exists.intro _ (And.intro (sload_all rfl (by first | rfl | (simp [hk, hcl, hol, htl, hsl]; done) | fail)) ?_); conv => whnf) | (refine Exists.intro _ (And.intro (sput_all rfl (by first | rfl | (simp [hk, hcl, hol, htl, hsl]; done) | fail)) ?_); conv => whnf) | (refine And.intro (by first | omega | (simp; omega) | fail) ?_; conv => whnf) | fail)
 refine ⟨[], ?_, rfl, rfl, ?_, rfl⟩
 ·
  (repeat' (first | (refine wk_agg ?_) | fail)) <;> first | exact ren_eq (by first | (simp; done) | fail) (by first | rfl | fail) | fail
 ·
  (repeat' (first | exact trivial | fail)) <;> fail
end Go.Sh
namespace Go.Sh
theorem rels_same {ρ : Ren} {xs : List SV} {vs : List Value} {k : Nat} {x y : SV} (h : Rels ρ xs vs) (hk : xs[k]? = some x) (hy : ∀ v, Rel ρ x v → Rel ρ y v) : Rels ρ (xs.set k y) vs := by
 obtain ⟨v, hv, hr⟩ := h.get hk
 have h2 := h.set (k := k) (hy v hr)
 have e : vs.set k v = vs := by
  apply List.ext_getElem?
  intro j
  rw [List.getElem?_set]
  by_cases hj : k = j
  ·
   subst hj
   obtain ⟨hlt, e⟩ := List.getElem?_eq_some_iff.1 hv
   rw [if_pos rfl, if_pos hlt, hv]
  ·
   rw [if_neg hj]
 rwa [e] at h2
theorem atoms_set {xs : List SV} {k : Nat} {x : SV} (h : atoms xs = true) (hx : x.atom = true) : atoms (xs.set k x) = true := by
 unfold atoms at *
 rw [List.all_eq_true] at *
 intro y hy
 rcases List.mem_or_eq_of_mem_set hy with h2 | h2
 ·
  exact h y h2
 ·
  rw [h2]; exact hx
theorem Weak.cell {A : Nat} {R : RL} {H : HL} {L : Nat} (q k : Nat) (x y : SV) {l : List SV} (hq : hk H q = some (.box l)) (hx : l[k]? = some x) (ha : y.atom = true) (hL : H.length ≤ L)
  (hy : ∀ ρ w, HRel ρ (hg H) w → ∀ v, Rel ρ x v → Rel ρ y v) : Weak A R H L R (hupd H [(q, some (.box (l.set k y)))]) L := by
 intro N B ρ a w hs hl
 have hq0 := hq
 rw [hk_eq] at hq
 have hg2 : ∀ id, hg (hupd H [(q, some (.box (l.set k y)))]) id = if id = q then some (.box (l.set k y)) else hg H id := fun id => by
  rw [hg_hupd]
  by_cases h : id = q
  ·
   subst h; simp [updW]
  ·
   have : (id == q) = false := by simpa using h
   simp [updW, List.lookup_cons, this, h]
 have hf : ∀ rb kk o, foot rb (.box (l.set k y)) kk o ↔ foot rb (.box l) kk o := fun rb kk o => by simp only [foot, List.length_set]
 have hown : ∀ kk o, Owned ρ (hg (hupd H [(q, some (.box (l.set k y)))])) kk o → Owned ρ (hg H) kk o := by
  rintro kk o ⟨id, b, rb, h1, h2, h3, h4⟩
  rw [hg2] at h1
  by_cases h : id = q
  ·
   rw [if_pos h] at h1; cases h1; subst h; exact ⟨id, _, rb, hq, h2, rfl, (hf _ _ _).1 h4⟩
  ·
   rw [if_neg h] at h1; exact ⟨id, b, rb, h1, h2, h3, h4⟩
 refine ⟨ρ, ⟨hs.size, hs.regs, ?_, ?_, hs.fresh, hs.dfr⟩, ?_, ⟨fun id _ rb h => h, Fr.refl _ _, fun kk o h => .inl (hown kk o h)⟩⟩
 ·
  intro id b hb
  rw [hg2] at hb
  by_cases h : id = q
  ·
   rw [if_pos h] at hb; cases hb; subst h
   obtain ⟨rb, h1, ⟨c, t, fz, g1, g2, g3, g4, g5⟩, g6, g7⟩ := hs.heap id _ hq
   refine ⟨rb, h1, ⟨c, t, fz, g1, atoms_set g2 ha, ?_, g4, by rw [List.length_set]; exact g5⟩, by rw [List.length_set]; exact g6, g7⟩
   rw [List.length_set]
   exact rels_same g3 hx (hy ρ w hs.heap)
  ·
   rw [if_neg h] at hb; exact hs.heap id b hb
 ·
  intro i j bi bj ri rj hne hi hj hri hrj hb kk o ⟨hfi, hfj⟩
  rw [hg2] at hi hj
  by_cases h1 : i = q
  ·
   rw [if_pos h1] at hi; cases hi
   rw [if_neg (fun e => hne (by rw [h1, e]))] at hj
   subst h1
   exact hs.sep i j _ bj ri rj hne hq hj hri hrj rfl kk o ⟨(hf _ _ _).1 hfi, hfj⟩
  ·
   rw [if_neg h1] at hi
   by_cases h2 : j = q
   ·
    rw [if_pos h2] at hj; cases hj
    subst h2
    exact hs.sep i j bi _ ri rj hne hi hq hri hrj hb kk o ⟨hfi, (hf _ _ _).1 hfj⟩
   ·
    rw [if_neg h2] at hj
    exact hs.sep i j bi bj ri rj hne hi hj hri hrj hb kk o ⟨hfi, hfj⟩
 ·
  have := hk_lt hl hq0
  exact hupd_le hL (fun id ob hm => by simp at hm; omega)
end Go.Sh
namespace Go.Sh
theorem Weak.short {A : Nat} {R : RL} {H : HL} {L : Nat} (q k : Nat) {t : Nat} {l : List SV} (hq : hk H q = some (.row t l)) (hL : Nat.ble H.length L = true) : Weak A R H L R (hupd H [(q, some (.row t (l.take k)))]) L := by
 intro N B ρ a w hs hl
 have hq0 := hq
 rw [hk_eq] at hq
 have hg2 : ∀ id, hg (hupd H [(q, some (.row t (l.take k)))]) id = if id = q then some (.row t (l.take k)) else hg H id := fun id => by
  rw [hg_hupd]
  by_cases h : id = q
  ·
   subst h; simp [updW]
  ·
   have : (id == q) = false := by simpa using h
   simp [updW, List.lookup_cons, this, h]
 have hf : ∀ rb kk o, foot rb (.row t (l.take k)) kk o ↔ foot rb (.row t l) kk o := fun rb kk o => Iff.rfl
 have hown : ∀ kk o, Owned ρ (hg (hupd H [(q, some (.row t (l.take k)))])) kk o → Owned ρ (hg H) kk o := by
  rintro kk o ⟨id, b, rb, h1, h2, h3, h4⟩
  rw [hg2] at h1
  by_cases h : id = q
  ·
   rw [if_pos h] at h1; cases h1; subst h; exact ⟨id, _, rb, hq, h2, rfl, (hf _ _ _).1 h4⟩
  ·
   rw [if_neg h] at h1; exact ⟨id, b, rb, h1, h2, h3, h4⟩
 refine ⟨ρ, ⟨hs.size, hs.regs, ?_, ?_, hs.fresh, hs.dfr⟩, ?_, ⟨fun id _ rb h => h, Fr.refl _ _, fun kk o h => .inl (hown kk o h)⟩⟩
 ·
  intro id b hb
  rw [hg2] at hb
  by_cases h : id = q
  ·
   rw [if_pos h] at hb; cases hb; subst h
   obtain ⟨rb, h1, h2⟩ := hs.heap id _ hq
   refine ⟨rb, h1, ?_⟩
   rcases h2 with ⟨g1, g2⟩ | ⟨g0, c, fz, g1, g2, g3, g4, g5, g6⟩
   ·
    exact .inl ⟨g1, by rw [g2]; simp⟩
   ·
    refine .inr ⟨g0, c, fz, g1, g2, g3, ?_, ?_, ?_⟩
    ·
     unfold atoms at g4 ⊢
     rw [List.all_eq_true] at g4 ⊢
     exact fun x hx => g4 x (List.mem_of_mem_take hx)
    ·
     have := g5.take k
     rw [List.take_take] at this
     rw [List.length_take]; exact this
    ·
     rw [List.length_take]; omega
  ·
   rw [if_neg h] at hb; exact hs.heap id b hb
 ·
  intro i j bi bj ri rj hne hi hj hri hrj hb kk o ⟨hfi, hfj⟩
  rw [hg2] at hi hj
  by_cases h1 : i = q
  ·
   rw [if_pos h1] at hi; cases hi
   rw [if_neg (fun e => hne (by rw [h1, e]))] at hj
   subst h1
   exact hs.sep i j _ bj ri rj hne hq hj hri hrj rfl kk o ⟨(hf _ _ _).1 hfi, hfj⟩
  ·
   rw [if_neg h1] at hi
   by_cases h2 : j = q
   ·
    rw [if_pos h2] at hj; cases hj
    subst h2
    exact hs.sep i j bi _ ri rj hne hi hq hri hrj hb kk o ⟨hfi, (hf _ _ _).1 hfj⟩
   ·
    rw [if_neg h2] at hj
    exact hs.sep i j bi bj ri rj hne hi hj hri hrj hb kk o ⟨hfi, hfj⟩
 ·
  have := hk_lt hl hq0
  exact hupd_le (Nat.le_of_ble_eq_true hL) (fun id ob hm => by simp at hm; omega)
end Go.Sh
namespace Go.Sh
open Go.Proofs
set_option maxHeartbeats 4000000
def oc (x : UInt32 × List UInt8) : List SV := .u32 x.1 :: x.2.map .u8
def ocs (K : List (UInt32 × List UInt8)) : List SV := K.flatMap oc
def OcOk (K : List (UInt32 × List UInt8)) : Prop := ∀ x ∈ K, x.2.length = 32
theorem OcOk.get {K : List (UInt32 × List UInt8)} (h : OcOk K) {i : Nat} (hi : i < K.length) : (K[i]).2.length = 32 := h _ (List.getElem_mem hi)
theorem oc_len {x : UInt32 × List UInt8} (h : x.2.length = 32) : (oc x).length = 33 := by simp [oc, h]
theorem ocs_len : ∀ {K : List (UInt32 × List UInt8)}, OcOk K → (ocs K).length = K.length * 33
 | [], _ => rfl
 | x :: K, h => by
  have h1 := ocs_len (K := K) fun y hy => h y (List.mem_cons_of_mem _ hy)
  show (oc x ++ ocs K).length = _
  rw [List.length_append, h1, oc_len (h x (List.mem_cons_self ..)), List.length_cons]; omega
theorem ocs_drop : ∀ {K : List (UInt32 × List UInt8)}, OcOk K → ∀ i, (ocs K).drop (i * 33) = ocs (K.drop i)
 | K, _, 0 => by rw [Nat.zero_mul, List.drop_zero, List.drop_zero]
 | [], _, _ + 1 => by rw [List.drop_nil]; exact List.drop_nil
 | x :: K, h, i + 1 => by
  have h1 := ocs_drop (K := K) (fun y hy => h y (List.mem_cons_of_mem _ hy)) i
  show (oc x ++ ocs K).drop _ = _
  have h2 := oc_len (h x (List.mem_cons_self ..))
  rw [show (i + 1) * 33 = (oc x).length + i * 33 by omega, List.drop_append]
  simp only [List.drop_eq_nil_of_le (Nat.le_add_right _ _), List.nil_append, Nat.add_sub_cancel_left, List.drop_succ_cons]
  exact h1
theorem ocs_at {K : List (UInt32 × List UInt8)} (h : OcOk K) {i : Nat} (hi : i < K.length) : ((ocs K).drop (0 + i * 33)).take 33 = oc K[i] := by
 rw [Nat.zero_add, ocs_drop h, List.drop_eq_getElem_cons hi]
 show (oc K[i] ++ ocs _).take 33 = _
 rw [← oc_len (h.get hi), List.take_left]
theorem sload_oc {K : List (UInt32 × List UInt8)} (h : OcOk K) {i : Nat} (hi : i < K.length) {x : UInt32} {k : List UInt8} (hx : K[i] = (x, k)) : sload true 33 (ocs K) (0 + i * 33) = some (.agg (.u32 x :: k.map .u8)) := by
 have h1 := ocs_at h hi
 rw [hx] at h1
 simp only [sload, if_true]
 rw [if_pos (by rw [ocs_len h]; omega), h1]; rfl
theorem plainL_append (a b : List SV) : plainL (a ++ b) = (plainL a && plainL b) := by simp [plainL]
@[simp] theorem plainL_oc (x : UInt32 × List UInt8) : plainL (oc x) = true := by
 simp [oc, plainL, plainV]
@[simp] theorem plainL_ocs : ∀ K : List (UInt32 × List UInt8), plainL (ocs K) = true
 | [] => rfl
 | x :: K => by
  show plainL (oc x ++ ocs K) = true
  rw [plainL_append, plainL_oc, plainL_ocs K]; rfl
def plc (K : List (UInt32 × List UInt8)) (id : UInt32) : Nat := K.findIdx (fun x => x.1 == id)
theorem plc_le (K : List (UInt32 × List UInt8)) (id : UInt32) : plc K id ≤ K.length := List.findIdx_le_length
def plcI (K : List (UInt32 × List UInt8)) (id : UInt32) : Int := if plc K id < K.length then (plc K id : Int) else -1
theorem s21 (x id : UInt32) (k : List UInt8) (hk : k.length = 32) : SCall Try.prog 21 [.agg (.u32 x :: k.map .u8), .p 0 0] [some (.ro [.u32 id])] (.b (x == id)) [some (.ro [.u32 id])] := by
 refine scall_of ttOk (by kernel_rfl : Try.prog.funcs[21]? = some Try.f21) rfl rfl rfl ?_
 try simp only [List.length_cons, List.length_nil, Nat.zero_add, Nat.reduceAdd]
 refine sw_ok ttOk mixed (by kernel_rfl) ?_
 conv => whnf
 repeat (first | (refine Exists.intro _ (And.intro rfl ?_); conv => whnf) | fail)
 refine ⟨[0], ?_, rfl, rfl, ?_, rfl⟩
 ·
  (repeat' (fail)) <;> first | rfl | fail
 ·
  (repeat' (first | exact trivial | refine And.intro ?_ ?_ | (refine wk_cons ?_ ?_))) <;> first | rfl | fail
theorem wp30 (i : Nat) (h : i < 1000000) : w64 ((i : Int) + 1) = ((i + 1 : Nat) : Int) := by simp only [w64_eq]; omega
theorem s30 (K : List (UInt32 × List UInt8)) (hK : OcOk K) (hn : K.length < 1000000) (id : UInt32) (f : Bool) : SCall Try.prog 30 [.sl 0 0 K.length 33 f, .fn 21 [.p 1 0]] [some (.ro (ocs K)), some (.ro [.u32 id])] (.i (plcI K id)) [some (.ro (ocs K)), some (.ro [.u32 id])] := by
 have hle := plc_le K id
 refine scall_of ttOk (by kernel_rfl : Try.prog.funcs[30]? = some Try.f30) rfl rfl rfl ?_
 try simp only [List.length_cons, List.length_nil, Nat.zero_add, Nat.reduceAdd]
 refine sw_ok ttOk mixed (by kernel_rfl) ?_
 conv => whnf
 repeat (fail)
 refine loop_rule ttOk mixed (by kernel_rfl) (ι := { i : Nat // i ≤ plc K id }) (fun i => [(0, .sl 0 0 K.length 33 f), (1, .fn 21 [.p 1 0]), (7, .i (K.length : Int)), (8, .i (i.1 : Int))]) (fun _ => [some (.ro (ocs K)), some (.ro [.u32 id])]) (fun _ => 2) (fun i => K.length - i.1) ⟨0, by omega⟩ ?_ ?_
 ·
  refine Weak.sel [0, 1] rfl rfl ?_ ?_ rfl rfl
  ·
   (repeat' (first | exact trivial | refine And.intro ?_ ?_ | fail)) <;> first | rfl | fail
  ·
   (repeat' (first | exact trivial | refine And.intro ?_ ?_ | (refine wk_cons ?_ ?_))) <;> first | rfl | exact ren_eq (by first | (simp; done) | fail) (by first | rfl | fail) | fail
 ·
  rintro ⟨i, hi⟩
  dsimp only
  by_cases hi2 : i < K.length
  ·
   have hlt : decide ((i : Int) < (K.length : Int)) = true := by simp; omega
   obtain ⟨x, k, hxk⟩ : ∃ x k, K[i] = (x, k) := ⟨_, _, rfl⟩
   have hk : k.length = 32 := by have := hK.get hi2; rw [hxk] at this; exact this
   have q := s21 x id k hk
   conv => whnf
   first | refine brT (by exact hlt) ?_ | fail
   conv => whnf
   repeat (first | (refine Exists.intro _ (And.intro (sload_oc hK hi2 hxk) ?_); conv => whnf) | (refine Exists.intro _ (And.intro rfl ?_); conv => whnf) | (refine And.intro (by first | omega | fail) ?_; conv => whnf) | fail)
   refine ok1_callF [1] [true] true (q) rfl rfl ⟨⟨rfl, by first | ((repeat' (first | exact rfl | exact ren_eq (by first | (simp; done) | fail) rfl | (refine wk_agg ?_) | (refine wk_cons ?_ ?_))); done) | fail⟩, by (repeat' (first | exact trivial | refine And.intro ?_ ?_)) <;> first | rfl | fail, by first | rfl | fail, by first | rfl | fail, ?_⟩
   conv => whnf
   by_cases hx : x = id
   ·
    have he : (x == id) = true := by rw [hx]; exact beq_self_eq_true _
    have hp : plc K id = i := by
     apply Nat.le_antisymm _ hi
     unfold plc
     refine Nat.le_of_not_lt fun hlt2 => ?_
     have := List.not_of_lt_findIdx hlt2
     rw [hxk] at this
     simp [hx] at this
    have hpi : plcI K id = (i : Int) := by unfold plcI; rw [hp, if_pos hi2]
    rw [hpi]
    first | refine brT (by exact he) ?_ | fail
    conv => whnf
    repeat (fail)
    refine ⟨[0, 1], ?_, rfl, rfl, ?_, rfl⟩
    ·
     (repeat' (fail)) <;> first | rfl | fail
    ·
     (repeat' (first | exact trivial | refine And.intro ?_ ?_ | (refine wk_cons ?_ ?_))) <;> first | rfl | exact ren_eq (by first | (simp; done) | fail) (by first | rfl | fail) | fail
   ·
    have he : (x == id) = false := by simp [hx]
    have hp : i < plc K id := by
     rcases Nat.lt_or_ge i (plc K id) with h | h
     ·
      exact h
     ·
      have h2 : plc K id = i := by omega
      have h3 := List.findIdx_getElem (p := fun y : UInt32 × List UInt8 => y.1 == id) (xs := K) (w := by show plc K id < _; omega)
      have h4 : ∀ j (hj : j < K.length), j = i → K[j].1 = x := fun j hj hji => by subst hji; rw [hxk]
      rw [h4 (List.findIdx (fun y : UInt32 × List UInt8 => y.1 == id) K) _ h2, he] at h3
      cases h3
    have hp1 := wp30 i (by omega)
    first | refine brF (by exact he) ?_ | fail
    conv => whnf
    repeat (fail)
    refine ⟨⟨i + 1, by omega⟩, by simp only; omega, ?_⟩
    dsimp only
    refine Weak.sel [0, 1] rfl rfl ?_ ?_ rfl rfl
    ·
     (repeat' (first | exact trivial | refine And.intro ?_ ?_ | fail)) <;> first | exact wk_i (by first | exact hp1 | exact hp1.symm | fail) | rfl | fail
    ·
     (repeat' (first | exact trivial | refine And.intro ?_ ?_ | (refine wk_cons ?_ ?_))) <;> first | rfl | exact ren_eq (by first | (simp; done) | fail) (by first | rfl | fail) | fail
  ·
   obtain rfl : i = K.length := by omega
   have hpi : plcI K id = -1 := by unfold plcI; rw [if_neg (by omega)]
   rw [hpi]
   have hlt : decide ((K.length : Int) < (K.length : Int)) = false := by simp
   conv => whnf
   first | refine brF (by exact hlt) ?_ | fail
   conv => whnf
   repeat (fail)
   refine ⟨[0, 1], ?_, rfl, rfl, ?_, rfl⟩
   ·
    (repeat' (fail)) <;> first | rfl | fail
   ·
    (repeat' (first | exact trivial | refine And.intro ?_ ?_ | (refine wk_cons ?_ ?_))) <;> first | rfl | exact ren_eq (by first | (simp; done) | fail) (by first | rfl | fail) | fail
theorem s20 (K : List (UInt32 × List UInt8)) (hK : OcOk K) (hn : K.length < 1000000) (id : UInt32) (f : Bool) : SCall Try.prog 20 [.sl 0 0 K.length 33 f, .fn 21 [.p 1 0]] [some (.ro (ocs K)), some (.ro [.u32 id])] (.tup [.i (plcI K id), .b (decide (plcI K id ≥ 0))]) [some (.ro (ocs K)), some (.ro [.u32 id])] := by
 have q := s30 K hK hn id f
 refine scall_of ttOk (by kernel_rfl : Try.prog.funcs[20]? = some Try.f20) rfl rfl rfl ?_
 try simp only [List.length_cons, List.length_nil, Nat.zero_add, Nat.reduceAdd]
 refine sw_ok ttOk mixed (by kernel_rfl) ?_
 conv => whnf
 repeat (fail)
 refine ok1_callF [0, 1] [true, true] true (q) rfl rfl ⟨⟨rfl, by first | rfl | fail⟩, by (repeat' (first | exact trivial | refine And.intro ?_ ?_)) <;> first | rfl | exact ren_eq (by first | (simp; done) | fail) (by first | rfl | fail) | fail, by first | simp [plainHf, plainB], by first | rfl | fail, ?_⟩
 conv => whnf
 repeat (fail)
 refine ⟨[0, 1], ?_, rfl, rfl, ?_, rfl⟩
 ·
  (repeat' (first | (refine wk_tup ?_) | (refine wk_cons ?_ ?_))) <;> first | rfl | fail
 ·
  (repeat' (first | exact trivial | refine And.intro ?_ ?_ | (refine wk_cons ?_ ?_))) <;> first | rfl | exact ren_eq (by first | (simp; done) | fail) (by first | rfl | fail) | fail
theorem s12 (A C : List UInt8) (K : List (UInt32 × List UInt8)) (hK : OcOk K) (hA : A.length = 66) (hn : K.length < 1000000) (id : UInt32) (f : Bool) : SCall Try.prog 12 [.p 0 0, .u32 id] [some (.ro (A.map .u8 ++ [.sl 1 0 K.length 33 f])), some (.ro (ocs K))] (.tup [.i (plcI K id), .b (decide (plcI K id ≥ 0))]) [some (.ro (A.map .u8 ++ [.sl 1 0 K.length 33 f])), some (.ro (ocs K))] := by
 have q := s20 K hK hn id f
 have hm : (A.map SV.u8).length = 66 := by simp [hA]
 refine scall_of ttOk (by kernel_rfl : Try.prog.funcs[12]? = some Try.f12) rfl rfl rfl ?_
 try simp only [List.length_cons, List.length_nil, Nat.zero_add, Nat.reduceAdd]
 refine sw_ok ttOk mixed (by kernel_rfl) ?_
 conv => whnf
 repeat (first | (refine Exists.intro _ (And.intro (sload_snd hm) ?_); conv => whnf) | fail)
 refine ok1_callF [1, 2] [true, true] true (q) rfl rfl ⟨⟨rfl, by first | rfl | fail⟩, by (repeat' (first | exact trivial | refine And.intro ?_ ?_)) <;> first | rfl | exact ren_eq (by first | (simp; done) | fail) (by first | rfl | fail) | fail, by first | simp [plainHf, plainB], by first | rfl | fail, ?_⟩
 conv => whnf
 repeat (fail)
 refine ⟨[0, 1], ?_, rfl, rfl, ?_, rfl⟩
 ·
  (repeat' (first | (refine wk_tup ?_) | (refine wk_cons ?_ ?_))) <;> first | rfl | fail
 ·
  (repeat' (first | exact trivial | refine And.intro ?_ ?_ | fail)) <;> first | exact ren_eq (by first | (simp; done) | fail) (by first | rfl | fail) | exact ren_app2 (by first | (simp; done) | fail) (by first | rfl | fail) rfl | fail
end Go.Sh
