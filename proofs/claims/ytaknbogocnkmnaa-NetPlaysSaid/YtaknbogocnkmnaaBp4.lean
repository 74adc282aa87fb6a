/- Merged for a claim: B3, Sh37, Sh43. -/
import Derived.SizedLaws
import Derived.Test.YtaknbogocnkmnaaBp3
set_option linter.unusedSimpArgs false
set_option linter.unusedVariables false
namespace Go.Sh
open Go.Proofs
set_option maxHeartbeats 4000000
theorem f21 : SCall Try.prog 21 [] [] (.b true) [] := by
 have qn := f35 2
 rw [show (if (0 : Int) > 2 then (0 : Int) else 2) = ((2 : Nat) : Int) from by decide] at qn
 have q1 := f38 [] [1, 2, 3] 0 3 2 2 rfl rfl (by decide) (by decide) (by decide) (by decide) false true
 have q2 := f39 [1, 2] 2 2 rfl false
 have q3 := f36_y [1, 2] 2 2 0 rfl (by decide) (by decide) false
 have q4 := f40_y [2] 1 2 0 rfl (by decide) (by decide) (by decide) (by decide) false
 have q5 := f39 [2, 2] 2 2 rfl false
 have q6 := f40_f [2, 2] 2 2 0 rfl (by decide) (by decide) (by decide) (by decide) false
 refine scall_of ttOk (by kernel_rfl : Try.prog.funcs[21]? = some Try.f21) rfl rfl rfl ?_
 try simp only [List.length_cons, List.length_nil, Nat.zero_add, Nat.reduceAdd]
 refine swxs_ok (J := [2]) ttOk mixed (by kernel_rfl) ?_
 conv => whnf
 repeat (fail)
 refine ok1_callF [] [false] false (qn) rfl rfl ⟨⟨rfl, by first | rfl | fail⟩, trivial, by first | rfl | fail, by first | rfl | fail, ?_⟩
 conv => whnf
 repeat (fail)
 refine SWp.weak (Weak.virtB 0 0 3 1 rfl rfl rfl rfl rfl) ?_
 refine sw_ok ttOk mixed (by kernel_rfl) ?_
 conv => whnf
 repeat (first | (refine Exists.intro _ (And.intro rfl ?_); conv => whnf) | fail)
 refine ok1_callF [0, 1, 2] [false, true, true, true] true (q1) rfl rfl ⟨⟨rfl, by first | rfl | fail⟩, by (repeat' (first | exact trivial | refine And.intro ?_ ?_)) <;> first | rfl | fail, by first | rfl | fail, by first | rfl | fail, ?_⟩
 conv => whnf
 repeat (first | (refine gdT rfl ?_; conv => whnf) | fail)
 refine ok1_callF [0, 3] [false, true] true (q2) rfl rfl ⟨⟨rfl, by first | rfl | fail⟩, by (repeat' (first | exact trivial | refine And.intro ?_ ?_)) <;> first | rfl | fail, by first | rfl | fail, by first | rfl | fail, ?_⟩
 conv => whnf
 repeat (first | (refine brF rfl ?_; conv => whnf) | (refine gdT rfl ?_; conv => whnf) | (refine Exists.intro _ (And.intro rfl ?_); conv => whnf) | fail)
 refine ok1_callF [0, 3] [false, true, true] true (q3) rfl rfl ⟨⟨rfl, by first | rfl | fail⟩, by (repeat' (first | exact trivial | refine And.intro ?_ ?_)) <;> first | rfl | fail, by first | rfl | fail, by first | rfl | fail, ?_⟩
 conv => whnf
 repeat (first | (refine brT rfl ?_; conv => whnf) | (refine Exists.intro _ (And.intro rfl ?_); conv => whnf) | fail)
 refine ok1_callF [0, 4] [false, true, true] true (q4) rfl rfl ⟨⟨rfl, by first | rfl | fail⟩, by (repeat' (first | exact trivial | refine And.intro ?_ ?_)) <;> first | rfl | fail, by first | rfl | fail, by first | rfl | fail, ?_⟩
 conv => whnf
 repeat (first | (refine brT rfl ?_; conv => whnf) | (refine Exists.intro _ (And.intro rfl ?_); conv => whnf) | fail)
 refine ok1_callF [0, 5] [false, true] true (q5) rfl rfl ⟨⟨rfl, by first | rfl | fail⟩, by (repeat' (first | exact trivial | refine And.intro ?_ ?_)) <;> first | rfl | fail, by first | rfl | fail, by first | rfl | fail, ?_⟩
 conv => whnf
 repeat (first | (refine brT rfl ?_; conv => whnf) | (refine Exists.intro _ (And.intro rfl ?_); conv => whnf) | fail)
 refine ok1_callF [0, 5] [false, true, true] true (q6) rfl rfl ⟨⟨rfl, by first | rfl | fail⟩, by (repeat' (first | exact trivial | refine And.intro ?_ ?_)) <;> first | rfl | fail, by first | rfl | fail, by first | rfl | fail, ?_⟩
 conv => whnf
 repeat (first | (refine brT rfl ?_; conv => whnf) | (refine Exists.intro _ (And.intro rfl ?_); conv => whnf) | fail)
 refine ⟨[], ?_, rfl, rfl, ?_, rfl⟩
 ·
  (repeat' (fail)) <;> first | rfl | fail
 ·
  (repeat' (first | exact trivial | fail)) <;> fail
theorem f69 (l : List UInt8) (hn : 0 < l.length) (hl : l.length < 100000000000) (f : Bool) : SCall Try.prog 69 [.sl 0 0 l.length 1 f] [some (.ro (l.map SV.u8))] (.sl 1 0 l.length 1 false) [some (.ro (l.map SV.u8)), some (.row 5 (l.map SV.u8))] := by
 have hap := takeAll (l := l.map SV.u8) (n := l.length) (by simp)
 refine scall_of ttOk (by kernel_rfl : Try.prog.funcs[69]? = some Try.f69) rfl rfl rfl ?_
 try simp only [List.length_cons, List.length_nil, Nat.zero_add, Nat.reduceAdd]
 refine sw_ok ttOk mixed (by kernel_rfl) ?_
 conv => whnf
 repeat (first | (refine brF rfl ?_; conv => whnf) | (refine Exists.intro _ (And.intro rfl ?_); conv => whnf) | (refine And.intro (by first | omega | (simp [ti5]; omega)) ?_; conv => whnf) | (refine And.intro ⟨by first | decide | fail, by first | omega | fail⟩ ?_; conv => whnf) | fail)
 refine ⟨[0, 2], ?_, rfl, rfl, ?_, rfl⟩
 ·
  (repeat' (fail)) <;> first | exact wk_sl rfl (by first | rfl | fail) (by first | omega | fail) | fail
 ·
  (repeat' (first | exact trivial | exact ren_eq (by simp) hap.symm | refine And.intro ?_ ?_ | fail)) <;> first | rfl | exact ren_eq (by first | (simp; done) | fail) (by first | rfl | fail) | fail
theorem mrem_64 {a c : UInt64} (h : c ≠ 0) : sarith .rem (.u64 a) (.u64 c) = some (.u64 (a % c)) := by simp [sarith, h]
def tmk (bit : UInt64) : UInt8 := shl8 (UInt8.ofNat (Int.toNat 1)) (bit % UInt64.ofNat (Int.toNat 8)).toNat
def tix (bit : UInt64) (n : Nat) : Nat := (bit / UInt64.ofNat (Int.toNat 8) % u64i (n : Int)).toNat
def turnB (b : List UInt8) (bit : UInt64) : List UInt8 := b.set (tix bit b.length) (b.getD (tix bit b.length) 0 ^^^ tmk bit)
theorem u64i_nat {n : Nat} (h : n < 1000000) : (u64i (n : Int)).toNat = n := by
 have := u64i_toNat (n : Int)
 omega
theorem u64i_ne {n : Nat} (h0 : 0 < n) (h : n < 1000000) : u64i (n : Int) ≠ 0 := by
 intro e
 have := u64i_nat h
 rw [e] at this
 have h2 : (0 : UInt64).toNat = 0 := rfl
 omega
theorem tix_lt {bit : UInt64} {n : Nat} (h0 : 0 < n) (h : n < 1000000) : tix bit n < n := by
 unfold tix
 rw [UInt64.toNat_mod, u64i_nat h]
 exact Nat.mod_lt _ h0
theorem turnB_len (b : List UInt8) (bit : UInt64) : (turnB b bit).length = b.length := by unfold turnB; simp
theorem f22_z (x y : UInt8) (b : List UInt8) (n : Nat) (hb : b.length = 0) (hn : n = b.length) (bit : UInt64) (f : Bool) : SCall Try.prog 22 [.agg [.u8 x, .u8 y, .sl 0 0 n 1 f], .u64 bit] [some (.ro (b.map .u8))] (.tup [.agg [.u8 x, .u8 y, .sl 0 0 n 1 f], .b false]) [some (.ro (b.map .u8))] := by
 have e1 : ((n : Int) == 0) = true := by rw [hn, hb]; rfl
 refine scall_of ttOk (by kernel_rfl : Try.prog.funcs[22]? = some Try.f22) rfl rfl rfl ?_
 try simp only [List.length_cons, List.length_nil, Nat.zero_add, Nat.reduceAdd]
 refine sw_ok ttOk mixed (by kernel_rfl) ?_
 conv => whnf
 repeat (first | (refine Exists.intro _ (And.intro (sload_all rfl (by first | rfl | fail)) ?_); conv => whnf) | (refine Exists.intro _ (And.intro (sput_all rfl (by first | rfl | fail)) ?_); conv => whnf) | (refine gdT e1 ?_; conv => whnf) | (refine Exists.intro _ (And.intro rfl ?_); conv => whnf) | (refine And.intro (by first | omega | (simp; done) | fail) ?_; conv => whnf) | fail)
 refine ⟨[0], ?_, rfl, rfl, ?_, rfl⟩
 ·
  (repeat' (first | (refine wk_tup ?_) | (refine wk_agg ?_) | (refine wk_cons ?_ ?_))) <;> first | rfl | fail
 ·
  (repeat' (first | exact trivial | refine And.intro ?_ ?_ | fail)) <;> first | exact ren_eq (by first | (simp; done) | fail) (by first | rfl | fail) | fail
theorem f22_nil (x y : UInt8) (bit : UInt64) : SCall Try.prog 22 [.agg [.u8 x, .u8 y, .slnil], .u64 bit] [] (.tup [.agg [.u8 x, .u8 y, .slnil], .b false]) [] := by
 refine scall_of ttOk (by kernel_rfl : Try.prog.funcs[22]? = some Try.f22) rfl rfl rfl ?_
 try simp only [List.length_cons, List.length_nil, Nat.zero_add, Nat.reduceAdd]
 refine sw_ok ttOk mixed (by kernel_rfl) ?_
 conv => whnf
 repeat (first | (refine brT rfl ?_; conv => whnf) | (refine Exists.intro _ (And.intro (sload_all rfl (by first | rfl | fail)) ?_); conv => whnf) | (refine Exists.intro _ (And.intro (sput_all rfl (by first | rfl | fail)) ?_); conv => whnf) | (refine Exists.intro _ (And.intro rfl ?_); conv => whnf) | (refine And.intro (by first | (simp; done) | fail) ?_; conv => whnf) | fail)
 refine ⟨[], ?_, rfl, rfl, ?_, rfl⟩
 ·
  (repeat' (first | (refine wk_tup ?_) | (refine wk_agg ?_) | (refine wk_cons ?_ ?_))) <;> first | rfl | fail
 ·
  (repeat' (first | exact trivial | fail)) <;> fail
theorem f22_y (x y : UInt8) (b : List UInt8) (n : Nat) (hb : 0 < b.length) (hl : b.length < 1000000) (hn : n = b.length) (bit : UInt64) (f : Bool) : SCall Try.prog 22 [.agg [.u8 x, .u8 y, .sl 0 0 n 1 f], .u64 bit] [some (.ro (b.map .u8))] (.tup [.agg [.u8 x, .u8 y, .sl 1 0 n 1 false], .b true]) [some (.ro (b.map .u8)), some (.row 5 ((turnB b bit).map .u8))] := by
 have e1 : ((n : Int) == 0) = false := by rw [beq_eq_false_iff_ne]; omega
 have q := f69 b hb (by omega) f
 rw [← hn] at q
 have hne : u64i (n : Int) ≠ 0 := u64i_ne (by omega) (by omega)
 have hix : tix bit n = (bit / UInt64.ofNat (Int.toNat 8) % u64i (n : Int)).toNat := rfl
 have hlt : tix bit n < n := tix_lt (by omega) (by omega)
 have ht : turnB b bit = b.set (tix bit n) (b.getD (tix bit n) 0 ^^^ tmk bit) := by unfold turnB; rw [hn]
 have hmk : tmk bit = shl8 (UInt8.ofNat (Int.toNat 1)) (bit % UInt64.ofNat (Int.toNat 8)).toNat := rfl
 have hbl : (b.map SV.u8).length = n := by simp [hn]
 rw [ht]
 obtain ⟨i, hi⟩ : ∃ i, i = tix bit n := ⟨_, rfl⟩
 rw [← hi] at hix hlt ⊢
 clear hi ht
 rw [hmk]
 clear hmk
 refine scall_of ttOk (by kernel_rfl : Try.prog.funcs[22]? = some Try.f22) rfl rfl rfl ?_
 try simp only [List.length_cons, List.length_nil, Nat.zero_add, Nat.reduceAdd]
 refine sw_ok ttOk mixed (by kernel_rfl) ?_
 conv => whnf
 repeat (first | (refine gdF e1 ?_; conv => whnf) | (refine Exists.intro _ (And.intro rfl ?_); conv => whnf) | fail)
 refine ok1_callF [0] [true, true] false (q) rfl rfl ⟨⟨rfl, by first | rfl | fail⟩, by (repeat' (first | exact trivial | refine And.intro ?_ ?_)) <;> first | exact ren_eq (by first | (simp; done) | fail) (by first | rfl | fail) | fail, by first | simp [plainHf, plainB], by first | rfl | fail, ?_⟩
 conv => whnf
 repeat (first | (refine Exists.intro _ (And.intro (sload_all rfl (by first | rfl | fail)) ?_); conv => whnf) | (refine Exists.intro _ (And.intro (sput_all rfl (by first | rfl | fail)) ?_); conv => whnf) | (refine Exists.intro _ (And.intro (mrem_64 hne) ?_); conv => whnf) | (refine Exists.intro _ (And.intro (sput_m8 (i := i) (by first | rfl | omega | fail)) ?_); conv => whnf) | (refine Exists.intro _ (And.intro (sload_u8 (i := i) (by first | rfl | omega | fail) (by first | omega | fail)) ?_); conv => whnf) | (refine Exists.intro _ (And.intro rfl ?_); conv => whnf) | (refine And.intro (by first | omega | fail) ?_; conv => whnf) | (refine And.intro ⟨rfl, Nat.le_of_ble_eq_true rfl⟩ ?_; conv => whnf) | (refine And.intro (by kernel_rfl) ?_; conv => whnf) | (refine And.intro ⟨by first | exact @rfl Nat _ | fail, by first | (simp only [hbl, ti5, List.length_map]; omega) | fail⟩ ?_; conv => whnf) | fail)
 refine ⟨[0, 3], ?_, rfl, rfl, ?_, rfl⟩
 ·
  (repeat' (first | (refine wk_tup ?_) | (refine wk_agg ?_) | (refine wk_cons ?_ ?_))) <;> first | rfl | fail
 ·
  (repeat' (first | exact trivial | refine And.intro ?_ ?_ | fail)) <;> first | rfl | exact ren_eq (by first | (simp; done) | fail) (by first | rfl | fail) | exact ren_m8 (by first | rfl | fail) | fail
def mkS : Nat → UInt8
 | 0 => UInt8.ofNat (Int.toNat 1)
 | k + 1 => UInt8.ofNat (Int.toNat 2) * mkS k
theorem mkS_8 : ∀ k, k < 8 → mkS k = shl8 (UInt8.ofNat (Int.toNat 1)) k := by decide
theorem mkS_s (k : Nat) : mkS (k + 1) = UInt8.ofNat (Int.toNat 2) * mkS k := rfl
theorem mkS_z : mkS 0 = UInt8.ofNat (Int.toNat 1) := rfl
theorem at_ne {n : Nat} (h0 : 0 < n) (h : n < 1000000) : UInt64.ofNat (Int.toNat 8) * u64i (n : Int) ≠ 0 := by
 intro e
 have h1 : (UInt64.ofNat (Int.toNat 8) * u64i (n : Int)).toNat = 8 * n := by
  rw [UInt64.toNat_mul, u64i_nat h]
  show 8 * n % 18446744073709551616 = _
  omega
 rw [e] at h1
 have h2 : (0 : UInt64).toNat = 0 := rfl
 omega
theorem at_laws {n : Nat} (h0 : 0 < n) (h : n < 1000000) (bit a : UInt64) (ha : a = bit % (UInt64.ofNat (Int.toNat 8) * u64i (n : Int))) : (a / UInt64.ofNat (Int.toNat 8)).toNat = tix bit n ∧ (a % UInt64.ofNat (Int.toNat 8)).toNat = (bit % UInt64.ofNat (Int.toNat 8)).toNat := by
 have h1 : (UInt64.ofNat (Int.toNat 8) * u64i (n : Int)).toNat = 8 * n := by
  rw [UInt64.toNat_mul, u64i_nat h]
  show 8 * n % 18446744073709551616 = _
  omega
 have h8 : (UInt64.ofNat (Int.toNat 8)).toNat = 8 := rfl
 subst ha
 constructor
 ·
  unfold tix
  rw [UInt64.toNat_div, UInt64.toNat_mod, UInt64.toNat_mod, UInt64.toNat_div, u64i_nat h, h1, h8]
  exact Nat.mod_mul_right_div_self ..
 ·
  rw [UInt64.toNat_mod, UInt64.toNat_mod, UInt64.toNat_mod, h1, h8]
  exact Nat.mod_mul_right_mod ..
theorem f23_z (b : List UInt8) (n : Nat) (hb : b.length = 0) (hn : n = b.length) (bit : UInt64) (f : Bool) : SCall Try.prog 23 [.sl 0 0 n 1 f, .u64 bit] [some (.ro (b.map .u8))] (.tup [.sl 0 0 n 1 f, .b false]) [some (.ro (b.map .u8))] := by
 have e1 : ((n : Int) == 0) = true := by rw [hn, hb]; rfl
 refine scall_of ttOk (by kernel_rfl : Try.prog.funcs[23]? = some Try.f23) rfl rfl rfl ?_
 try simp only [List.length_cons, List.length_nil, Nat.zero_add, Nat.reduceAdd]
 refine sw_ok ttOk mixed (by kernel_rfl) ?_
 conv => whnf
 repeat (first | (refine gdT e1 ?_; conv => whnf) | fail)
 refine ⟨[0], ?_, rfl, rfl, ?_, rfl⟩
 ·
  (repeat' (first | (refine wk_tup ?_) | (refine wk_cons ?_ ?_))) <;> first | rfl | fail
 ·
  (repeat' (first | exact trivial | refine And.intro ?_ ?_ | fail)) <;> first | exact ren_eq (by first | (simp; done) | fail) (by first | rfl | fail) | fail
theorem f23_y (b : List UInt8) (n : Nat) (hb : 0 < b.length) (hl : b.length < 1000000) (hn : n = b.length) (bit : UInt64) (f : Bool) : SCall Try.prog 23 [.sl 0 0 n 1 f, .u64 bit] [some (.ro (b.map .u8))] (.tup [.sl 1 0 n 1 false, .b true]) [some (.ro (b.map .u8)), some (.row 5 ((turnB b bit).map .u8))] := by
 have e1 : ((n : Int) == 0) = false := by rw [beq_eq_false_iff_ne]; omega
 have hne := at_ne (n := n) (by omega) (by omega)
 have hbl : (b.map SV.u8).length = n := by simp [hn]
 have hap := takeAll (l := b.map SV.u8) (n := n) hbl.symm
 obtain ⟨a, ha⟩ : ∃ a, a = bit % (UInt64.ofNat (Int.toNat 8) * u64i (n : Int)) := ⟨_, rfl⟩
 obtain ⟨l1, l2⟩ := at_laws (n := n) (by omega) (by omega) bit a ha
 have ht : turnB b bit = b.set (tix bit n) (b.getD (tix bit n) 0 ^^^ tmk bit) := by unfold turnB; rw [hn]
 have hlt : tix bit n < n := tix_lt (by omega) (by omega)
 have hm : mkS (a % UInt64.ofNat (Int.toNat 8)).toNat = tmk bit := by rw [l2]; exact mkS_8 _ (by rw [UInt64.toNat_mod]; exact Nat.mod_lt _ (by decide))
 have he8 : (a % UInt64.ofNat (Int.toNat 8)).toNat < 8 := by rw [UInt64.toNat_mod]; exact Nat.mod_lt _ (by decide)
 rw [ht, ← hm]
 obtain ⟨i, hi⟩ : ∃ i, i = tix bit n := ⟨_, rfl⟩
 rw [← hi] at l1 hlt ⊢
 obtain ⟨e, hee⟩ : ∃ e, e = (a % UInt64.ofNat (Int.toNat 8)).toNat := ⟨_, rfl⟩
 rw [← hee] at he8 ⊢
 clear hi ht hm l2
 refine scall_of ttOk (by kernel_rfl : Try.prog.funcs[23]? = some Try.f23) rfl rfl rfl ?_
 try simp only [List.length_cons, List.length_nil, Nat.zero_add, Nat.reduceAdd]
 refine sw_ok ttOk mixed (by kernel_rfl) ?_
 conv => whnf
 repeat (first | (refine gdF e1 ?_; conv => whnf) | (refine Exists.intro _ (And.intro rfl ?_); conv => whnf) | (refine And.intro (by first | omega | (simp [ti5]; omega)) ?_; conv => whnf) | fail)
 repeat (first | (refine Exists.intro _ (And.intro (mrem_64 hne) ?_); conv => whnf) | fail)
 rw [← ha]
 refine loop_rule ttOk mixed (by kernel_rfl) (ι := { k : Nat // k ≤ e }) (fun k => [(6, .sl 1 0 n 1 false), (7, .u64 a), (8, .u8 (mkS k.1)), (9, .u64 (UInt64.ofNat k.1))]) (fun k => [some (.ro (b.map .u8)), some (.row 5 (b.map .u8))]) (fun _ => 2) (fun k => e - k.1) ⟨0, by omega⟩ ?_ ?_
 ·
  have hz := mkS_z
  dsimp only
  rw [hz]
  refine Weak.sel [0, 2] rfl rfl ?_ ?_ rfl rfl
  ·
   (repeat' (first | exact trivial | refine And.intro ?_ ?_ | fail)) <;> first | rfl | exact wk_sl rfl (by first | rfl | fail) (by first | omega | fail) | fail
  ·
   (repeat' (first | exact trivial | exact ren_eq (by simp) hap.symm | refine And.intro ?_ ?_ | fail)) <;> first | rfl | exact ren_eq (by first | (simp; done) | fail) (by first | rfl | fail) | fail
 ·
  rintro ⟨k, hk⟩
  dsimp only
  have hkn : (UInt64.ofNat k).toNat = k := by rw [UInt64.toNat_ofNat']; omega
  by_cases hk2 : k < e
  ·
   have hlt2 : decide (UInt64.ofNat k < a % UInt64.ofNat (Int.toNat 8)) = true := by rw [decide_eq_true_iff, UInt64.lt_iff_toNat_lt, hkn, ← hee]; exact hk2
   have hp : UInt64.ofNat k + UInt64.ofNat (Int.toNat 1) = UInt64.ofNat (k + 1) := by
    apply UInt64.toNat.inj
    have hk1n : (UInt64.ofNat (k + 1)).toNat = k + 1 := by rw [UInt64.toNat_ofNat']; omega
    rw [UInt64.toNat_add, hkn, hk1n]
    show (k + 1) % 18446744073709551616 = _
    omega
   have hs := mkS_s k
   conv => whnf
   repeat (first | (refine gdT hlt2 ?_; conv => whnf) | (refine Exists.intro _ (And.intro rfl ?_); conv => whnf) | fail)
   refine ⟨⟨k + 1, by omega⟩, by simp only; omega, ?_⟩
   dsimp only
   rw [hs]
   refine Weak.sel [0, 1] rfl rfl ?_ ?_ rfl rfl
   ·
    (repeat' (first | exact trivial | refine And.intro ?_ ?_ | fail)) <;> first | exact wk_u64 (by first | exact hp | exact hp.symm | fail) | rfl | fail
   ·
    (repeat' (first | exact trivial | refine And.intro ?_ ?_ | fail)) <;> first | rfl | exact ren_eq (by first | (simp; done) | fail) (by first | rfl | fail) | fail
  ·
   obtain rfl : k = e := by omega
   have hlt2 : decide (UInt64.ofNat k < a % UInt64.ofNat (Int.toNat 8)) = false := by rw [decide_eq_false_iff_not, UInt64.lt_iff_toNat_lt, hkn, ← hee]; omega
   conv => whnf
   repeat (first | (refine gdF hlt2 ?_; conv => whnf) | (refine Exists.intro _ (And.intro (sput_m8 (i := i) (by first | rfl | omega | fail)) ?_); conv => whnf) | (refine Exists.intro _ (And.intro (sload_u8 (i := i) (by first | rfl | omega | fail) (by first | omega | fail)) ?_); conv => whnf) | (refine Exists.intro _ (And.intro rfl ?_); conv => whnf) | (refine And.intro (by first | omega | fail) ?_; conv => whnf) | (refine And.intro ⟨by first | exact @rfl Nat _ | fail, by first | (simp only [hbl, ti5, List.length_map]; omega) | fail⟩ ?_; conv => whnf) | fail)
   refine ⟨[0, 1], ?_, rfl, rfl, ?_, rfl⟩
   ·
    (repeat' (first | (refine wk_tup ?_) | (refine wk_cons ?_ ?_))) <;> first | rfl | fail
   ·
    (repeat' (first | exact trivial | refine And.intro ?_ ?_ | fail)) <;> first | rfl | exact ren_eq (by first | (simp; done) | fail) (by first | rfl | fail) | exact ren_m8 (by first | rfl | fail) | fail
end Go.Sh
namespace Go.Sh
open Go.ChangeShapes Go.WideShapes Go.ChangeAt Go.RowKit
section
variable {H : Type} {enc : TypeId × Value → H} {P : Program} {w : World} {base : Nat} {held : Bool}
theorem weights_all {e : TypeId} : ∀ {l : List (DataW H)} {x : DataW H}, x ∈ l → ∀ n ∈ x.weights P e, n ∈ DataW.weightsAll P e l
 | y :: l, x, hx, n, hn => by
  simp only [DataW.weightsAll, List.mem_append]
  rcases List.mem_cons.1 hx with rfl | hx
  ·
   exact .inl hn
  ·
   exact .inr (weights_all hx n hn)
theorem small_slice {t e : TypeId} (ht : P.underlying t = some (.slice e)) (hb : 0 < P.bytesOf e) {fuel : Nat} {a : Option Addr} {n c : Nat} {x : DataW H × List MemPlace} (h : DataW.trod enc P w base (fun _ => true) held fuel t [.slice a n c] = some x)
  (hw : ∀ k ∈ x.1.weights P t, k ≤ reachBytes) : n ≤ reachBytes := by
 rcases DataW.trod_slice ht h with ⟨hq, _⟩ | ⟨a, len, cap, elems, rest, n, rfl, hq, rfl, _, hlc, hm, hel, h1, h2, _⟩
 ·
  cases hq; exact Nat.zero_le _
 ·
  cases hq
  have := hw ((elems.map (·.1)).length + (rest.map (·.1)).length |> (· * P.bytesOf e)) (by simp only [DataW.weights, ht, List.length_map]; exact List.mem_cons_self ..)
  simp only [List.length_map] at this
  have h3 : elems.length + rest.length ≤ (elems.length + rest.length) * P.bytesOf e := Nat.le_mul_of_pos_right _ hb
  omega
theorem open_row_q {r : Reach} {b0 d : Nat} {e e2 t : TypeId} {v : Value} {y : DataW H} {pl : List MemPlace} (ht : P.underlying t = some (.slice e)) (he : P.underlying e = some (.slice e2)) (hs : psz P e = some 1) (hk : kinds P d e2 = some [1]) (hb : 0 < P.bytesOf e) (hb2 : 0 < P.bytesOf e2)
  (hval : Value.okWide P w r b0 t v) (hd : DataW.Trod enc P w base (fun _ => true) held t v y pl) (hw : ∀ k ∈ y.weights P t, k ≤ reachBytes) : ∃ (ps : List Part) (rb : RB), ps.length ≤ reachBytes ∧ (∀ p ∈ ps, p.2.2.length ≤ reachBytes) ∧
   (∀ ρ id, ρ id = some rb → Rel ρ (.sl id 0 ps.length 1 false) v) ∧ (∀ ρ, BRel ρ w rb (.ro (ps.map pLit))) ∧ ∀ ρ rb2, BRel ρ w rb2 (.ext (.fam (ps.map pFe))) := by
 obtain ⟨a, len, cap, rfl⟩ := okWide_slice ht hval
 obtain ⟨fuel, hf⟩ := hd
 have hcs : (Value.slice a len cap).cells.toList = [.slice a len cap] := rfl
 rw [hcs] at hf
 have hlen : len ≤ reachBytes := small_slice ht hb hf hw
 rcases open_row ht hs (by decide) rfl ⟨fuel, _, hf⟩ with h | ⟨a', len', cap', vs, h, hrow⟩
 ·
  cases h
  refine ⟨[], ⟨0, 0, 0, true⟩, Nat.zero_le _, by simp, fun ρ id hr => ?_, fun ρ => .inl rfl, fun ρ rb2 e he => by simp at he⟩
  simp only [Rel]
  exact ⟨_, none, 0, hr, rfl, Nat.le_refl _, fun h => (by cases h), .inl rfl⟩
 ·
  cases h
  have hle : len ≤ vs.length := by rw [hrow.len]; have := hrow.le; omega
  obtain ⟨ps, h1, h2, h3⟩ := open_parts he hk hs vs len hle (fun i hi => hrow.read i (Nat.lt_of_lt_of_le hi hrow.le))
  subst h1
  refine ⟨ps, _, hlen, fun p hp => ?_, fun ρ id hid => (hrow.block (h3 ρ) (atoms_lit ps)).1 id hid, fun ρ => (hrow.block (h3 ρ) (atoms_lit ps)).2, fun ρ rb2 e he => ?_⟩
  ·
   obtain ⟨i, hi, hpi⟩ := List.getElem_of_mem hp
   rcases DataW.trod_slice ht hf with ⟨hq, _⟩ | ⟨a, len, cap, elems, rest, n, rfl, hq, hy, _, hlc, hm, hel, g1, g2, _⟩
   ·
    cases hq
   ·
    cases hq
    cases hy
    have g := g1 i hi
    rw [List.getElem?_eq_getElem (by omega : i < elems.length)] at g
    obtain ⟨l, hl, hr⟩ := Option.bind_eq_some_iff.1 g
    rw [psz_cells hs] at hl
    obtain ⟨c1, c2⟩ := cells_get hl
    have c3 := c2 0 (by omega)
    rw [addr_zero, addr_add _ _ (hrow.spot (by omega)), hrow.cell _ (by omega), Nat.mul_one] at c3
    obtain ⟨u, hu, hur⟩ := (h3 (fun _ => none)).get (k := i) (x := pLit p) (by rw [List.getElem?_map, List.getElem?_eq_getElem hi, hpi]; rfl)
    rw [List.getElem?_take_of_lt (by omega), c3] at hu
    simp only [pLit, Rel] at hur
    have hlu : l = [p.1] := by
     match l, c1 with
     | [z], _ => simp at hu; rw [hu, hur.1]
    obtain ⟨⟨a2, k2, e1, _⟩, _⟩ := (h2 p hp).2
    have e1 : p.1 = .slice a2 p.2.2.length k2 := e1
    rw [hlu, e1] at hr
    refine small_slice he hb2 hr fun k hk2 => hw k ?_
    simp only [DataW.weights, ht]
    exact List.mem_cons_of_mem _ (List.mem_append_left _ (weights_all (List.mem_map_of_mem (List.getElem_mem (by omega : i < elems.length))) k hk2))
  ·
   obtain ⟨p, hp, rfl⟩ := List.mem_map.1 he
   exact (h2 p hp).2
end
end Go.Sh
namespace Go.Sh
open Go.ChangeShapes Go.WideShapes Go.ChangeAt Go.RowKit
structure Dr where
 k : UInt8
 n : Int
 v : Value
 rb : RB
 l : List UInt32
 x : UInt32
def drC (d : Dr) : List SV := [.u8 d.k, .i d.n, .lit d.v, .u32 d.x]
def drF (d : Dr) : FE := ⟨d.v, d.rb, d.l.length, 1, d.l.map .u32⟩
def drR (ds : List Dr) : List SV := (ds.map drC).flatten
theorem drR_len (ds : List Dr) : (drR ds).length = ds.length * 4 := by
 induction ds with
 | nil => rfl
 | cons d ds ih => show (drC d ++ drR ds).length = _; rw [List.length_append, ih]; simp [drC]; omega
theorem drR_atoms (ds : List Dr) : atoms (drR ds) = true := by
 induction ds with
 | nil => rfl
 | cons d ds ih => show atoms (drC d ++ drR ds) = true; unfold atoms at ih ⊢; rw [List.all_append, ih]; rfl
@[simp] theorem drR_plain (ds : List Dr) : plainL (drR ds) = true := by
 induction ds with
 | nil => rfl
 | cons d ds ih => show plainL (drC d ++ drR ds) = true; rw [plainL_app, ih]; rfl
theorem drR_snoc (ds : List Dr) (d : Dr) : drR (ds ++ [d]) = drR ds ++ drC d := by unfold drR; simp
theorem drR_get {ds : List Dr} : ∀ {i : Nat} {d : Dr}, ds[i]? = some d → ((drR ds).drop (i * 4)).take 4 = drC d := by
 induction ds with
 | nil => intro i d h; simp at h
 | cons a ds ih =>
  intro i d h
  show ((drC a ++ drR ds).drop (i * 4)).take 4 = _
  cases i with
  | zero => simp at h; subst h; simp [drC]
  | succ i =>
   rw [show (i + 1) * 4 = (drC a).length + i * 4 by simp [drC]; omega, ← List.drop_drop, List.drop_left]
   exact ih (by simpa using h)
section
variable {H : Type} {enc : TypeId × Value → H} {P : Program} {w : World} {base : Nat} {held : Bool}
def structF (P : Program) (t : TypeId) : Option (List (TypeId × Nat)) := match P.underlying t with
 | some (.struct fs) => some (fs.toList.map fun f => (f.type, f.offset))
 | _ => none
theorem structF_get {t : TypeId} {l : List (TypeId × Nat)} (h : structF P t = some l) : ∃ fs : Array Field, P.underlying t = some (.struct fs) ∧ fs.toList.map (fun f => (f.type, f.offset)) = l := by
 unfold structF at h
 split at h
 ·
  rename_i fs hf; exact ⟨fs, hf, by simpa using h⟩
 ·
  cases h
theorem open_part3 {d : Nat} {t e : TypeId} {cs : List Value} (ht : P.underlying t = some (.slice e)) (hk : kinds P d e = some [3]) (hr : Rd enc P w base (fun _ => true) held t cs) :
  ∃ (v : Value) (rb : RB) (l : List UInt32), cs = [v] ∧ (∃ a c, v = .slice a l.length c) ∧ FEOk w ⟨v, rb, l.length, 1, l.map .u32⟩ := by
 rcases open_row ht (kinds_size hk) (by simp) rfl hr with rfl | ⟨a, len, cap, vs, rfl, hrow⟩
 ·
  exact ⟨.slice none 0 0, ⟨0, 0, 0, true⟩, [], rfl, ⟨_, _, rfl⟩, ⟨none, 0, rfl, Nat.le_refl _, .inl rfl⟩, .inl rfl⟩
 ·
  have hle : len * [3].length ≤ cap * [3].length := Nat.mul_le_mul_right _ hrow.le
  obtain ⟨ys, hy, hyr⟩ := chunks (R := fun c => Rd enc P w base (fun _ => true) held e c) (fun c hc => open_kinds hk hc) vs len (by rw [hrow.len]; exact hle) (fun i hi => hrow.read i (Nat.lt_of_lt_of_le hi hrow.le))
  have hb := (hrow.block (hyr (fun _ => none)) (kd_atoms hy)).2
  rw [flat_rep1] at hy
  obtain ⟨b, rfl, rfl⟩ := kd_rep (f := SV.u32) (fun _ => kd_3) hy
  refine ⟨.slice (some a) b.length cap, ⟨a.block, a.off, cap * 1, false⟩, b, rfl, ⟨_, _, rfl⟩, ⟨some a, cap, rfl, hrow.le, ?_⟩, ?_⟩
  ·
   by_cases h0 : cap = 0
   ·
    exact .inl h0
   ·
    refine .inr ⟨rfl, ?_, Nat.le_refl _⟩
    have := hrow.spot (by omega)
    cases a; simp only at this; subst this; rfl
  ·
   exact hb
theorem weights_each {ts : List TypeId} {xs : List (DataW H)} {i : Nat} {t : TypeId} {x : DataW H} (ht : ts[i]? = some t) (hx : xs[i]? = some x) : ∀ n ∈ x.weights P t, n ∈ DataW.weightsEach P ts xs := fun n hn => DataW.weights_mem_each ht hx n hn
theorem open_do {d fuel : Nat} {e e2 t0 t1 t2 t3 : TypeId} {cs : List Value} {x : DataW H × List MemPlace} (hS : structF P e = some [(t0, 0), (t1, 1), (t2, 2), (t3, 3)]) (hs : psz P e = some 4) (hk0 : kinds P d t0 = some [1]) (hk1 : kinds P d t1 = some [0])
  (ht2 : P.underlying t2 = some (.slice e2)) (hk2 : kinds P d e2 = some [3]) (hs2 : psz P t2 = some 1) (hk3 : kinds P d t3 = some [3]) (hb2 : 0 < P.bytesOf e2) (h : DataW.trod enc P w base (fun _ => true) held fuel e cs = some x) (hw : ∀ k ∈ x.1.weights P e, k ≤ reachBytes) :
  ∃ dd : Dr, (dd.l.length ≤ reachBytes ∧ FEOk w (drF dd)) ∧ ∀ ρ, Rels ρ (drC dd) cs := by
 obtain ⟨fs, hu, hfs⟩ := structF_get hS
 obtain ⟨xs, n, rfl, rfl, hcl, hxl, hf⟩ := DataW.trod_struct hu h
 rw [psz_cells hs] at hcl
 have hfl : fs.size = 4 := by have := congrArg List.length hfs; simpa using this
 have get : ∀ (i : Nat) (t : TypeId) (o : Nat), [(t0, 0), (t1, 1), (t2, 2), (t3, 3)][i]? = some (t, o) → ∃ f y, fs[i]? = some f ∧ f.type = t ∧ f.offset = o ∧ xs[i]? = some y ∧ DataW.trod enc P w base (fun _ => true) held n t ((cs.drop o).take (P.cellsOf t)) = some y := by
  intro i t o hi
  rw [← hfs, List.getElem?_map, Array.getElem?_toList] at hi
  cases hfi : fs[i]? with
  | none => rw [hfi] at hi; simp at hi
  | some f =>
   rw [hfi] at hi
   simp only [Option.map_some, Option.some.injEq, Prod.mk.injEq] at hi
   have hlt : i < fs.size := (Array.getElem?_eq_some_iff.1 hfi).1
   have h2 := hf i f hfi
   rw [List.getElem?_eq_getElem (by omega : i < xs.length)] at h2
   rw [hi.1, hi.2] at h2
   exact ⟨f, _, rfl, hi.1, hi.2, List.getElem?_eq_getElem (by omega), h2⟩
 obtain ⟨f0, y0, _, _, _, _, r0⟩ := get 0 t0 0 rfl
 obtain ⟨f1, y1, _, _, _, _, r1⟩ := get 1 t1 1 rfl
 obtain ⟨f2, y2, g2, q2, _, z2, r2⟩ := get 2 t2 2 rfl
 obtain ⟨f3, y3, _, _, _, _, r3⟩ := get 3 t3 3 rfl
 rw [psz_cells (kinds_size hk0)] at r0
 rw [psz_cells (kinds_size hk1)] at r1
 rw [psz_cells hs2] at r2
 rw [psz_cells (kinds_size hk3)] at r3
 match cs, hcl with
 | [c0, c1, c2, c3], _ =>
  obtain ⟨a0, hx0, hr0⟩ := open_kinds hk0 ⟨_, _, r0⟩
  obtain ⟨a1, hx1, hr1⟩ := open_kinds hk1 ⟨_, _, r1⟩
  obtain ⟨v, rb, l, hv, ⟨va, vc, hve⟩, hfe⟩ := open_part3 ht2 hk2 ⟨_, _, r2⟩
  obtain ⟨a3, hx3, hr3⟩ := open_kinds hk3 ⟨_, _, r3⟩
  obtain ⟨w0, ws0, rfl, hk0', hn0⟩ := kd_cons hx0
  obtain rfl := kd_nil hn0
  obtain ⟨k0, rfl⟩ := kd_1 hk0'
  obtain ⟨w1, ws1, rfl, hk1', hn1⟩ := kd_cons hx1
  obtain rfl := kd_nil hn1
  obtain ⟨k1, rfl⟩ := kd_0 hk1'
  obtain ⟨w3, ws3, rfl, hk3', hn3⟩ := kd_cons hx3
  obtain rfl := kd_nil hn3
  obtain ⟨k3, rfl⟩ := kd_3 hk3'
  have hv2 : [c2] = [v] := hv
  have hlen : l.length ≤ reachBytes := by
   have r2' : DataW.trod enc P w base (fun _ => true) held n t2 [.slice va l.length vc] = some y2 := by
    have : [c2] = [.slice va l.length vc] := by rw [hv2, hve]
    rw [← this]; exact r2
   refine small_slice ht2 hb2 r2' fun k hk => hw k ?_
   simp only [DataW.weights, hu]
   exact weights_each (i := 2) (t := t2) (x := y2.1) (by rw [List.getElem?_map, Array.getElem?_toList, g2]; simp [q2]) (by rw [List.getElem?_map, z2]; rfl) k hk
  refine ⟨⟨k0, k1, v, rb, l, k3⟩, ⟨hlen, hfe⟩, fun ρ => ?_⟩
  have e2 : c2 = v := by simpa using hv2
  refine Rels.cons (Rels.cons_iff.1 (hr0 ρ)).1 (Rels.cons (Rels.cons_iff.1 (hr1 ρ)).1 (Rels.cons ?_ (Rels.cons (Rels.cons_iff.1 (hr3 ρ)).1 (Rels.nil_iff.2 rfl))))
  simp only [Rel]
  exact ⟨e2, va, l.length, vc, hve⟩
theorem open_dos {ok : Dr → Prop} {vs : List Value} : ∀ n : Nat, n * 4 ≤ vs.length → (∀ i, i < n → ∃ dd : Dr, ok dd ∧ ∀ ρ, Rels ρ (drC dd) ((vs.drop (i * 4)).take 4)) → ∃ ds : List Dr, ds.length = n ∧ (∀ d ∈ ds, ok d) ∧ ∀ ρ, Rels ρ (drR ds) (vs.take (n * 4))
 | 0, _, _ => ⟨[], rfl, by simp, fun ρ => by simp [Rels, drR]⟩
 | n + 1, hl, h => by
  obtain ⟨ds, h1, h2, h3⟩ := open_dos n (by omega) (fun i hi => h i (by omega))
  obtain ⟨dd, q1, q2⟩ := h n (by omega)
  refine ⟨ds ++ [dd], by rw [List.length_append, h1, List.length_singleton], fun x hx => ?_, fun ρ => ?_⟩
  ·
   rcases List.mem_append.1 hx with hx | hx
   ·
    exact h2 x hx
   ·
    rw [List.mem_singleton] at hx; subst hx; exact q1
  ·
   rw [show (n + 1) * 4 = n * 4 + 4 from by omega, List.take_add, drR_snoc]
   exact Rels.append (h3 ρ) (q2 ρ)
theorem open_row_d {r : Reach} {b0 d : Nat} {e e2 t t0 t1 t2 t3 : TypeId} {v : Value} {y : DataW H} {pl : List MemPlace} (ht : P.underlying t = some (.slice e)) (hS : structF P e = some [(t0, 0), (t1, 1), (t2, 2), (t3, 3)]) (hs : psz P e = some 4) (hk0 : kinds P d t0 = some [1]) (hk1 : kinds P d t1 = some [0])
  (ht2 : P.underlying t2 = some (.slice e2)) (hk2 : kinds P d e2 = some [3]) (hs2 : psz P t2 = some 1) (hk3 : kinds P d t3 = some [3]) (hb : 0 < P.bytesOf e) (hb2 : 0 < P.bytesOf e2)
  (hval : Value.okWide P w r b0 t v) (hd : DataW.Trod enc P w base (fun _ => true) held t v y pl) (hw : ∀ k ∈ y.weights P t, k ≤ reachBytes) : ∃ (ds : List Dr) (rb : RB), ds.length ≤ reachBytes ∧ (∀ d ∈ ds, d.l.length ≤ reachBytes) ∧
   (∀ ρ id, ρ id = some rb → Rel ρ (.sl id 0 ds.length 4 false) v) ∧ (∀ ρ, BRel ρ w rb (.ro (drR ds))) ∧ ∀ ρ rb2, BRel ρ w rb2 (.ext (.fam (ds.map drF))) := by
 obtain ⟨a, len, cap, rfl⟩ := okWide_slice ht hval
 obtain ⟨fuel, hf⟩ := hd
 have hcs : (Value.slice a len cap).cells.toList = [.slice a len cap] := rfl
 rw [hcs] at hf
 have hlen : len ≤ reachBytes := small_slice ht hb hf hw
 rcases open_row ht hs (by decide) rfl ⟨fuel, _, hf⟩ with h | ⟨a', len', cap', vs, h, hrow⟩
 ·
  cases h
  refine ⟨[], ⟨0, 0, 0, true⟩, Nat.zero_le _, by simp, fun ρ id hr => ?_, fun ρ => .inl rfl, fun ρ rb2 e he => by simp at he⟩
  simp only [Rel]
  exact ⟨_, none, 0, hr, rfl, Nat.le_refl _, fun h => (by cases h), .inl rfl⟩
 ·
  cases h
  have hle : len ≤ cap := hrow.le
  have hvl : vs.length = cap * 4 := hrow.len
  rcases DataW.trod_slice ht hf with ⟨hq, _⟩ | ⟨a2, len2, cap2, elems, rest, n, rfl, hq, hy, _, hlc, hm, hel, g1, g2, _⟩
  ·
   cases hq
  cases hq
  cases hy
  obtain ⟨ds, h1, h2, h3⟩ := open_dos (ok := fun dd => dd.l.length ≤ reachBytes ∧ FEOk w (drF dd)) (vs := vs) len (by omega) (fun i hi => by
   have g := g1 i hi
   rw [List.getElem?_eq_getElem (by omega : i < elems.length)] at g
   obtain ⟨l, hl, hr⟩ := Option.bind_eq_some_iff.1 g
   rw [psz_cells hs] at hl
   obtain ⟨c1, c2⟩ := cells_get hl
   have hlv : l = (vs.drop (i * 4)).take 4 := by
    apply List.ext_getElem?
    intro j
    by_cases hj : j < 4
    ·
     rw [← c2 j hj, List.getElem?_take_of_lt hj, List.getElem?_drop]
     have hsp := hrow.spot (by omega)
     rw [addr_add _ _ hsp, addr_add _ _ rfl]
     rw [← hrow.cell (i * 4 + j) (by omega)]
     simp only [Nat.add_assoc]
    ·
     rw [List.getElem?_eq_none (by omega), List.getElem?_eq_none (by rw [List.length_take]; omega)]
   rw [← hlv]
   refine open_do hS hs hk0 hk1 ht2 hk2 hs2 hk3 hb2 hr fun k hk => hw k ?_
   simp only [DataW.weights, ht]
   exact List.mem_cons_of_mem _ (List.mem_append_left _ (weights_all (List.mem_map_of_mem (List.getElem_mem (by omega : i < elems.length))) k hk)))
  subst h1
  refine ⟨ds, _, hlen, fun d hd => (h2 d hd).1, fun ρ id hid => (hrow.block (h3 ρ) (drR_atoms ds)).1 id hid, fun ρ => (hrow.block (h3 ρ) (drR_atoms ds)).2, fun ρ rb2 e he => ?_⟩
  obtain ⟨dd, hp, rfl⟩ := List.mem_map.1 he
  exact (h2 dd hp).2
end
end Go.Sh
