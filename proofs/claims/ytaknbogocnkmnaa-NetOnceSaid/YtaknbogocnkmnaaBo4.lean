/- Merged for a claim: B3, Sh41, Sh42, B8. -/
import Derived.Maps.RangeRun
import Derived.Test.YtaknbogocnkmnaaBo3
set_option linter.unusedSimpArgs false
set_option linter.unusedVariables false
namespace Go.Sh
open Go.Proofs
set_option maxHeartbeats 4000000
theorem f21 : SCall Try.prog 21 [] [] (.b true) [] := by
 have qn := f35 2
 rw [show (if (0 : Int) > 2 then (0 : Int) else 2) = ((2 : Nat) : Int) from by decide] at qn
 have q1 := f38 [] [1, 2, 3] 0 3 2 2 rfl rfl (by decide) (by decide) (by decide) (by decide) false true
 have q2 := f39 [1, 2] 2 2 rfl false
 have q3 := f36_y [1, 2] 2 2 0 rfl (by decide) (by decide) false
 have q4 := f40_y [2] 1 2 0 rfl (by decide) (by decide) (by decide) (by decide) false
 have q5 := f39 [2, 2] 2 2 rfl false
 have q6 := f40_f [2, 2] 2 2 0 rfl (by decide) (by decide) (by decide) (by decide) false
 refine scall_of ttOk (by kernel_rfl : Try.prog.funcs[21]? = some Try.f21) rfl rfl rfl ?_
 try simp only [List.length_cons, List.length_nil, Nat.zero_add, Nat.reduceAdd]
 refine swxs_ok (J := [2]) ttOk mixed (by kernel_rfl) ?_
 conv => whnf
 repeat (fail)
 refine ok1_callF [] [false] false (qn) rfl rfl ⟨⟨rfl, by first | rfl | fail⟩, trivial, by first | rfl | fail, by first | rfl | fail, ?_⟩
 conv => whnf
 repeat (fail)
 refine SWp.weak (Weak.virtB 0 0 3 1 rfl rfl rfl rfl rfl) ?_
 refine sw_ok ttOk mixed (by kernel_rfl) ?_
 conv => whnf
 repeat (first | (refine Exists.intro _ (And.intro rfl ?_); conv => whnf) | fail)
 refine ok1_callF [0, 1, 2] [false, true, true, true] true (q1) rfl rfl ⟨⟨rfl, by first | rfl | fail⟩, by (repeat' (first | exact trivial | refine And.intro ?_ ?_)) <;> first | rfl | fail, by first | rfl | fail, by first | rfl | fail, ?_⟩
 conv => whnf
 repeat (first | (refine gdT rfl ?_; conv => whnf) | fail)
 refine ok1_callF [0, 3] [false, true] true (q2) rfl rfl ⟨⟨rfl, by first | rfl | fail⟩, by (repeat' (first | exact trivial | refine And.intro ?_ ?_)) <;> first | rfl | fail, by first | rfl | fail, by first | rfl | fail, ?_⟩
 conv => whnf
 repeat (first | (refine brF rfl ?_; conv => whnf) | (refine gdT rfl ?_; conv => whnf) | (refine Exists.intro _ (And.intro rfl ?_); conv => whnf) | fail)
 refine ok1_callF [0, 3] [false, true, true] true (q3) rfl rfl ⟨⟨rfl, by first | rfl | fail⟩, by (repeat' (first | exact trivial | refine And.intro ?_ ?_)) <;> first | rfl | fail, by first | rfl | fail, by first | rfl | fail, ?_⟩
 conv => whnf
 repeat (first | (refine brT rfl ?_; conv => whnf) | (refine Exists.intro _ (And.intro rfl ?_); conv => whnf) | fail)
 refine ok1_callF [0, 4] [false, true, true] true (q4) rfl rfl ⟨⟨rfl, by first | rfl | fail⟩, by (repeat' (first | exact trivial | refine And.intro ?_ ?_)) <;> first | rfl | fail, by first | rfl | fail, by first | rfl | fail, ?_⟩
 conv => whnf
 repeat (first | (refine brT rfl ?_; conv => whnf) | (refine Exists.intro _ (And.intro rfl ?_); conv => whnf) | fail)
 refine ok1_callF [0, 5] [false, true] true (q5) rfl rfl ⟨⟨rfl, by first | rfl | fail⟩, by (repeat' (first | exact trivial | refine And.intro ?_ ?_)) <;> first | rfl | fail, by first | rfl | fail, by first | rfl | fail, ?_⟩
 conv => whnf
 repeat (first | (refine brT rfl ?_; conv => whnf) | (refine Exists.intro _ (And.intro rfl ?_); conv => whnf) | fail)
 refine ok1_callF [0, 5] [false, true, true] true (q6) rfl rfl ⟨⟨rfl, by first | rfl | fail⟩, by (repeat' (first | exact trivial | refine And.intro ?_ ?_)) <;> first | rfl | fail, by first | rfl | fail, by first | rfl | fail, ?_⟩
 conv => whnf
 repeat (first | (refine brT rfl ?_; conv => whnf) | (refine Exists.intro _ (And.intro rfl ?_); conv => whnf) | fail)
 refine ⟨[], ?_, rfl, rfl, ?_, rfl⟩
 ·
  (repeat' (fail)) <;> first | rfl | fail
 ·
  (repeat' (first | exact trivial | fail)) <;> fail
theorem f69 (l : List UInt8) (hn : 0 < l.length) (hl : l.length < 100000000000) (f : Bool) : SCall Try.prog 69 [.sl 0 0 l.length 1 f] [some (.ro (l.map SV.u8))] (.sl 1 0 l.length 1 false) [some (.ro (l.map SV.u8)), some (.row 5 (l.map SV.u8))] := by
 have hap := takeAll (l := l.map SV.u8) (n := l.length) (by simp)
 refine scall_of ttOk (by kernel_rfl : Try.prog.funcs[69]? = some Try.f69) rfl rfl rfl ?_
 try simp only [List.length_cons, List.length_nil, Nat.zero_add, Nat.reduceAdd]
 refine sw_ok ttOk mixed (by kernel_rfl) ?_
 conv => whnf
 repeat (first | (refine brF rfl ?_; conv => whnf) | (refine Exists.intro _ (And.intro rfl ?_); conv => whnf) | (refine And.intro (by first | omega | (simp [ti5]; omega)) ?_; conv => whnf) | (refine And.intro ⟨by first | decide | fail, by first | omega | fail⟩ ?_; conv => whnf) | fail)
 refine ⟨[0, 2], ?_, rfl, rfl, ?_, rfl⟩
 ·
  (repeat' (fail)) <;> first | exact wk_sl rfl (by first | rfl | fail) (by first | omega | fail) | fail
 ·
  (repeat' (first | exact trivial | exact ren_eq (by simp) hap.symm | refine And.intro ?_ ?_ | fail)) <;> first | rfl | exact ren_eq (by first | (simp; done) | fail) (by first | rfl | fail) | fail
theorem mrem_64 {a c : UInt64} (h : c ≠ 0) : sarith .rem (.u64 a) (.u64 c) = some (.u64 (a % c)) := by simp [sarith, h]
def tmk (bit : UInt64) : UInt8 := shl8 (UInt8.ofNat (Int.toNat 1)) (bit % UInt64.ofNat (Int.toNat 8)).toNat
def tix (bit : UInt64) (n : Nat) : Nat := (bit / UInt64.ofNat (Int.toNat 8) % u64i (n : Int)).toNat
def turnB (b : List UInt8) (bit : UInt64) : List UInt8 := b.set (tix bit b.length) (b.getD (tix bit b.length) 0 ^^^ tmk bit)
theorem u64i_nat {n : Nat} (h : n < 1000000) : (u64i (n : Int)).toNat = n := by
 have := u64i_toNat (n : Int)
 omega
theorem u64i_ne {n : Nat} (h0 : 0 < n) (h : n < 1000000) : u64i (n : Int) ≠ 0 := by
 intro e
 have := u64i_nat h
 rw [e] at this
 have h2 : (0 : UInt64).toNat = 0 := rfl
 omega
theorem tix_lt {bit : UInt64} {n : Nat} (h0 : 0 < n) (h : n < 1000000) : tix bit n < n := by
 unfold tix
 rw [UInt64.toNat_mod, u64i_nat h]
 exact Nat.mod_lt _ h0
theorem turnB_len (b : List UInt8) (bit : UInt64) : (turnB b bit).length = b.length := by unfold turnB; simp
theorem f22_z (x y : UInt8) (b : List UInt8) (n : Nat) (hb : b.length = 0) (hn : n = b.length) (bit : UInt64) (f : Bool) : SCall Try.prog 22 [.agg [.u8 x, .u8 y, .sl 0 0 n 1 f], .u64 bit] [some (.ro (b.map .u8))] (.tup [.agg [.u8 x, .u8 y, .sl 0 0 n 1 f], .b false]) [some (.ro (b.map .u8))] := by
 have e1 : ((n : Int) == 0) = true := by rw [hn, hb]; rfl
 refine scall_of ttOk (by kernel_rfl : Try.prog.funcs[22]? = some Try.f22) rfl rfl rfl ?_
 try simp only [List.length_cons, List.length_nil, Nat.zero_add, Nat.reduceAdd]
 refine sw_ok ttOk mixed (by kernel_rfl) ?_
 conv => whnf
 repeat (first | (refine Exists.intro _ (And.intro (sload_all rfl (by first | rfl | fail)) ?_); conv => whnf) | (refine Exists.intro _ (And.intro (sput_all rfl (by first | rfl | fail)) ?_); conv => whnf) | (refine gdT e1 ?_; conv => whnf) | (refine Exists.intro _ (And.intro rfl ?_); conv => whnf) | (refine And.intro (by first | omega | (simp; done) | fail) ?_; conv => whnf) | fail)
 refine ⟨[0], ?_, rfl, rfl, ?_, rfl⟩
 ·
  (repeat' (first | (refine wk_tup ?_) | (refine wk_agg ?_) | (refine wk_cons ?_ ?_))) <;> first | rfl | fail
 ·
  (repeat' (first | exact trivial | refine And.intro ?_ ?_ | fail)) <;> first | exact ren_eq (by first | (simp; done) | fail) (by first | rfl | fail) | fail
theorem f22_nil (x y : UInt8) (bit : UInt64) : SCall Try.prog 22 [.agg [.u8 x, .u8 y, .slnil], .u64 bit] [] (.tup [.agg [.u8 x, .u8 y, .slnil], .b false]) [] := by
 refine scall_of ttOk (by kernel_rfl : Try.prog.funcs[22]? = some Try.f22) rfl rfl rfl ?_
 try simp only [List.length_cons, List.length_nil, Nat.zero_add, Nat.reduceAdd]
 refine sw_ok ttOk mixed (by kernel_rfl) ?_
 conv => whnf
 repeat (first | (refine brT rfl ?_; conv => whnf) | (refine Exists.intro _ (And.intro (sload_all rfl (by first | rfl | fail)) ?_); conv => whnf) | (refine Exists.intro _ (And.intro (sput_all rfl (by first | rfl | fail)) ?_); conv => whnf) | (refine Exists.intro _ (And.intro rfl ?_); conv => whnf) | (refine And.intro (by first | (simp; done) | fail) ?_; conv => whnf) | fail)
 refine ⟨[], ?_, rfl, rfl, ?_, rfl⟩
 ·
  (repeat' (first | (refine wk_tup ?_) | (refine wk_agg ?_) | (refine wk_cons ?_ ?_))) <;> first | rfl | fail
 ·
  (repeat' (first | exact trivial | fail)) <;> fail
theorem f22_y (x y : UInt8) (b : List UInt8) (n : Nat) (hb : 0 < b.length) (hl : b.length < 1000000) (hn : n = b.length) (bit : UInt64) (f : Bool) : SCall Try.prog 22 [.agg [.u8 x, .u8 y, .sl 0 0 n 1 f], .u64 bit] [some (.ro (b.map .u8))] (.tup [.agg [.u8 x, .u8 y, .sl 1 0 n 1 false], .b true]) [some (.ro (b.map .u8)), some (.row 5 ((turnB b bit).map .u8))] := by
 have e1 : ((n : Int) == 0) = false := by rw [beq_eq_false_iff_ne]; omega
 have q := f69 b hb (by omega) f
 rw [← hn] at q
 have hne : u64i (n : Int) ≠ 0 := u64i_ne (by omega) (by omega)
 have hix : tix bit n = (bit / UInt64.ofNat (Int.toNat 8) % u64i (n : Int)).toNat := rfl
 have hlt : tix bit n < n := tix_lt (by omega) (by omega)
 have ht : turnB b bit = b.set (tix bit n) (b.getD (tix bit n) 0 ^^^ tmk bit) := by unfold turnB; rw [hn]
 have hmk : tmk bit = shl8 (UInt8.ofNat (Int.toNat 1)) (bit % UInt64.ofNat (Int.toNat 8)).toNat := rfl
 have hbl : (b.map SV.u8).length = n := by simp [hn]
 rw [ht]
 obtain ⟨i, hi⟩ : ∃ i, i = tix bit n := ⟨_, rfl⟩
 rw [← hi] at hix hlt ⊢
 clear hi ht
 rw [hmk]
 clear hmk
 refine scall_of ttOk (by kernel_rfl : Try.prog.funcs[22]? = some Try.f22) rfl rfl rfl ?_
 try simp only [List.length_cons, List.length_nil, Nat.zero_add, Nat.reduceAdd]
 refine sw_ok ttOk mixed (by kernel_rfl) ?_
 conv => whnf
 repeat (first | (refine gdF e1 ?_; conv => whnf) | (refine Exists.intro _ (And.intro rfl ?_); conv => whnf) | fail)
 refine ok1_callF [0] [true, true] false (q) rfl rfl ⟨⟨rfl, by first | rfl | fail⟩, by (repeat' (first | exact trivial | refine And.intro ?_ ?_)) <;> first | exact ren_eq (by first | (simp; done) | fail) (by first | rfl | fail) | fail, by first | simp [plainHf, plainB], by first | rfl | fail, ?_⟩
 conv => whnf
 repeat (first | (refine Exists.intro _ (And.intro (sload_all rfl (by first | rfl | fail)) ?_); conv => whnf) | (refine Exists.intro _ (And.intro (sput_all rfl (by first | rfl | fail)) ?_); conv => whnf) | (refine Exists.intro _ (And.intro (mrem_64 hne) ?_); conv => whnf) | (refine Exists.intro _ (And.intro (sput_m8 (i := i) (by first | rfl | omega | fail)) ?_); conv => whnf) | (refine Exists.intro _ (And.intro (sload_u8 (i := i) (by first | rfl | omega | fail) (by first | omega | fail)) ?_); conv => whnf) | (refine Exists.intro _ (And.intro rfl ?_); conv => whnf) | (refine And.intro (by first | omega | fail) ?_; conv => whnf) | (refine And.intro ⟨rfl, Nat.le_of_ble_eq_true rfl⟩ ?_; conv => whnf) | (refine And.intro (by kernel_rfl) ?_; conv => whnf) | (refine And.intro ⟨by first | exact @rfl Nat _ | fail, by first | (simp only [hbl, ti5, List.length_map]; omega) | fail⟩ ?_; conv => whnf) | fail)
 refine ⟨[0, 3], ?_, rfl, rfl, ?_, rfl⟩
 ·
  (repeat' (first | (refine wk_tup ?_) | (refine wk_agg ?_) | (refine wk_cons ?_ ?_))) <;> first | rfl | fail
 ·
  (repeat' (first | exact trivial | refine And.intro ?_ ?_ | fail)) <;> first | rfl | exact ren_eq (by first | (simp; done) | fail) (by first | rfl | fail) | exact ren_m8 (by first | rfl | fail) | fail
def mkS : Nat → UInt8
 | 0 => UInt8.ofNat (Int.toNat 1)
 | k + 1 => UInt8.ofNat (Int.toNat 2) * mkS k
theorem mkS_8 : ∀ k, k < 8 → mkS k = shl8 (UInt8.ofNat (Int.toNat 1)) k := by decide
theorem mkS_s (k : Nat) : mkS (k + 1) = UInt8.ofNat (Int.toNat 2) * mkS k := rfl
theorem mkS_z : mkS 0 = UInt8.ofNat (Int.toNat 1) := rfl
theorem at_ne {n : Nat} (h0 : 0 < n) (h : n < 1000000) : UInt64.ofNat (Int.toNat 8) * u64i (n : Int) ≠ 0 := by
 intro e
 have h1 : (UInt64.ofNat (Int.toNat 8) * u64i (n : Int)).toNat = 8 * n := by
  rw [UInt64.toNat_mul, u64i_nat h]
  show 8 * n % 18446744073709551616 = _
  omega
 rw [e] at h1
 have h2 : (0 : UInt64).toNat = 0 := rfl
 omega
theorem at_laws {n : Nat} (h0 : 0 < n) (h : n < 1000000) (bit a : UInt64) (ha : a = bit % (UInt64.ofNat (Int.toNat 8) * u64i (n : Int))) : (a / UInt64.ofNat (Int.toNat 8)).toNat = tix bit n ∧ (a % UInt64.ofNat (Int.toNat 8)).toNat = (bit % UInt64.ofNat (Int.toNat 8)).toNat := by
 have h1 : (UInt64.ofNat (Int.toNat 8) * u64i (n : Int)).toNat = 8 * n := by
  rw [UInt64.toNat_mul, u64i_nat h]
  show 8 * n % 18446744073709551616 = _
  omega
 have h8 : (UInt64.ofNat (Int.toNat 8)).toNat = 8 := rfl
 subst ha
 constructor
 ·
  unfold tix
  rw [UInt64.toNat_div, UInt64.toNat_mod, UInt64.toNat_mod, UInt64.toNat_div, u64i_nat h, h1, h8]
  exact Nat.mod_mul_right_div_self ..
 ·
  rw [UInt64.toNat_mod, UInt64.toNat_mod, UInt64.toNat_mod, h1, h8]
  exact Nat.mod_mul_right_mod ..
theorem f23_z (b : List UInt8) (n : Nat) (hb : b.length = 0) (hn : n = b.length) (bit : UInt64) (f : Bool) : SCall Try.prog 23 [.sl 0 0 n 1 f, .u64 bit] [some (.ro (b.map .u8))] (.tup [.sl 0 0 n 1 f, .b false]) [some (.ro (b.map .u8))] := by
 have e1 : ((n : Int) == 0) = true := by rw [hn, hb]; rfl
 refine scall_of ttOk (by kernel_rfl : Try.prog.funcs[23]? = some Try.f23) rfl rfl rfl ?_
 try simp only [List.length_cons, List.length_nil, Nat.zero_add, Nat.reduceAdd]
 refine sw_ok ttOk mixed (by kernel_rfl) ?_
 conv => whnf
 repeat (first | (refine gdT e1 ?_; conv => whnf) | fail)
 refine ⟨[0], ?_, rfl, rfl, ?_, rfl⟩
 ·
  (repeat' (first | (refine wk_tup ?_) | (refine wk_cons ?_ ?_))) <;> first | rfl | fail
 ·
  (repeat' (first | exact trivial | refine And.intro ?_ ?_ | fail)) <;> first | exact ren_eq (by first | (simp; done) | fail) (by first | rfl | fail) | fail
theorem f23_y (b : List UInt8) (n : Nat) (hb : 0 < b.length) (hl : b.length < 1000000) (hn : n = b.length) (bit : UInt64) (f : Bool) : SCall Try.prog 23 [.sl 0 0 n 1 f, .u64 bit] [some (.ro (b.map .u8))] (.tup [.sl 1 0 n 1 false, .b true]) [some (.ro (b.map .u8)), some (.row 5 ((turnB b bit).map .u8))] := by
 have e1 : ((n : Int) == 0) = false := by rw [beq_eq_false_iff_ne]; omega
 have hne := at_ne (n := n) (by omega) (by omega)
 have hbl : (b.map SV.u8).length = n := by simp [hn]
 have hap := takeAll (l := b.map SV.u8) (n := n) hbl.symm
 obtain ⟨a, ha⟩ : ∃ a, a = bit % (UInt64.ofNat (Int.toNat 8) * u64i (n : Int)) := ⟨_, rfl⟩
 obtain ⟨l1, l2⟩ := at_laws (n := n) (by omega) (by omega) bit a ha
 have ht : turnB b bit = b.set (tix bit n) (b.getD (tix bit n) 0 ^^^ tmk bit) := by unfold turnB; rw [hn]
 have hlt : tix bit n < n := tix_lt (by omega) (by omega)
 have hm : mkS (a % UInt64.ofNat (Int.toNat 8)).toNat = tmk bit := by rw [l2]; exact mkS_8 _ (by rw [UInt64.toNat_mod]; exact Nat.mod_lt _ (by decide))
 have he8 : (a % UInt64.ofNat (Int.toNat 8)).toNat < 8 := by rw [UInt64.toNat_mod]; exact Nat.mod_lt _ (by decide)
 rw [ht, ← hm]
 obtain ⟨i, hi⟩ : ∃ i, i = tix bit n := ⟨_, rfl⟩
 rw [← hi] at l1 hlt ⊢
 obtain ⟨e, hee⟩ : ∃ e, e = (a % UInt64.ofNat (Int.toNat 8)).toNat := ⟨_, rfl⟩
 rw [← hee] at he8 ⊢
 clear hi ht hm l2
 refine scall_of ttOk (by kernel_rfl : Try.prog.funcs[23]? = some Try.f23) rfl rfl rfl ?_
 try simp only [List.length_cons, List.length_nil, Nat.zero_add, Nat.reduceAdd]
 refine sw_ok ttOk mixed (by kernel_rfl) ?_
 conv => whnf
 repeat (first | (refine gdF e1 ?_; conv => whnf) | (refine Exists.intro _ (And.intro rfl ?_); conv => whnf) | (refine And.intro (by first | omega | (simp [ti5]; omega)) ?_; conv => whnf) | fail)
 repeat (first | (refine Exists.intro _ (And.intro (mrem_64 hne) ?_); conv => whnf) | fail)
 rw [← ha]
 refine loop_rule ttOk mixed (by kernel_rfl) (ι := { k : Nat // k ≤ e }) (fun k => [(6, .sl 1 0 n 1 false), (7, .u64 a), (8, .u8 (mkS k.1)), (9, .u64 (UInt64.ofNat k.1))]) (fun k => [some (.ro (b.map .u8)), some (.row 5 (b.map .u8))]) (fun _ => 2) (fun k => e - k.1) ⟨0, by omega⟩ ?_ ?_
 ·
  have hz := mkS_z
  dsimp only
  rw [hz]
  refine Weak.sel [0, 2] rfl rfl ?_ ?_ rfl rfl
  ·
   (repeat' (first | exact trivial | refine And.intro ?_ ?_ | fail)) <;> first | rfl | exact wk_sl rfl (by first | rfl | fail) (by first | omega | fail) | fail
  ·
   (repeat' (first | exact trivial | exact ren_eq (by simp) hap.symm | refine And.intro ?_ ?_ | fail)) <;> first | rfl | exact ren_eq (by first | (simp; done) | fail) (by first | rfl | fail) | fail
 ·
  rintro ⟨k, hk⟩
  dsimp only
  have hkn : (UInt64.ofNat k).toNat = k := by rw [UInt64.toNat_ofNat']; omega
  by_cases hk2 : k < e
  ·
   have hlt2 : decide (UInt64.ofNat k < a % UInt64.ofNat (Int.toNat 8)) = true := by rw [decide_eq_true_iff, UInt64.lt_iff_toNat_lt, hkn, ← hee]; exact hk2
   have hp : UInt64.ofNat k + UInt64.ofNat (Int.toNat 1) = UInt64.ofNat (k + 1) := by
    apply UInt64.toNat.inj
    have hk1n : (UInt64.ofNat (k + 1)).toNat = k + 1 := by rw [UInt64.toNat_ofNat']; omega
    rw [UInt64.toNat_add, hkn, hk1n]
    show (k + 1) % 18446744073709551616 = _
    omega
   have hs := mkS_s k
   conv => whnf
   repeat (first | (refine gdT hlt2 ?_; conv => whnf) | (refine Exists.intro _ (And.intro rfl ?_); conv => whnf) | fail)
   refine ⟨⟨k + 1, by omega⟩, by simp only; omega, ?_⟩
   dsimp only
   rw [hs]
   refine Weak.sel [0, 1] rfl rfl ?_ ?_ rfl rfl
   ·
    (repeat' (first | exact trivial | refine And.intro ?_ ?_ | fail)) <;> first | exact wk_u64 (by first | exact hp | exact hp.symm | fail) | rfl | fail
   ·
    (repeat' (first | exact trivial | refine And.intro ?_ ?_ | fail)) <;> first | rfl | exact ren_eq (by first | (simp; done) | fail) (by first | rfl | fail) | fail
  ·
   obtain rfl : k = e := by omega
   have hlt2 : decide (UInt64.ofNat k < a % UInt64.ofNat (Int.toNat 8)) = false := by rw [decide_eq_false_iff_not, UInt64.lt_iff_toNat_lt, hkn, ← hee]; omega
   conv => whnf
   repeat (first | (refine gdF hlt2 ?_; conv => whnf) | (refine Exists.intro _ (And.intro (sput_m8 (i := i) (by first | rfl | omega | fail)) ?_); conv => whnf) | (refine Exists.intro _ (And.intro (sload_u8 (i := i) (by first | rfl | omega | fail) (by first | omega | fail)) ?_); conv => whnf) | (refine Exists.intro _ (And.intro rfl ?_); conv => whnf) | (refine And.intro (by first | omega | fail) ?_; conv => whnf) | (refine And.intro ⟨by first | exact @rfl Nat _ | fail, by first | (simp only [hbl, ti5, List.length_map]; omega) | fail⟩ ?_; conv => whnf) | fail)
   refine ⟨[0, 1], ?_, rfl, rfl, ?_, rfl⟩
   ·
    (repeat' (first | (refine wk_tup ?_) | (refine wk_cons ?_ ?_))) <;> first | rfl | fail
   ·
    (repeat' (first | exact trivial | refine And.intro ?_ ?_ | fail)) <;> first | rfl | exact ren_eq (by first | (simp; done) | fail) (by first | rfl | fail) | exact ren_m8 (by first | rfl | fail) | fail
end Go.Sh
namespace Go.Sh
open Go.MapKept
def kV (k : UInt32) : Value := .int .u32 (k.toNat : Int)
theorem kV_inj {a b : UInt32} (h : kV a = kV b) : a = b := by
 unfold kV at h
 injection h with _ h
 exact UInt32.toNat.inj (by omega)
structure MapIs (F : UInt32 → Int) (es : Array MapEntry) (clock : Nat) : Prop where
 st : Stamped es clock
 ent : ∀ e ∈ es.toList, ∃ k, e.key = kV k ∧ e.val = .int .i64 (F k)
 cov : ∀ k, F k ≠ 0 → ∃ e ∈ es.toList, e.key = kV k
theorem MapIs.nil : MapIs (fun _ => 0) #[] 0 := ⟨stamped_empty 0, by simp, fun k h => absurd rfl h⟩
theorem MapIs.isKey {F : UInt32 → Int} {es : Array MapEntry} {clock : Nat} (h : MapIs F es clock) : ∀ x ∈ es.toList, IsKey (.int .u32) x.key := fun x hx => by
 obtain ⟨k, hk, _⟩ := h.ent x hx
 rw [hk]; rfl
def updF (F : UInt32 → Int) (k : UInt32) (v : Int) : UInt32 → Int := fun q => if q = k then v else F q
theorem MapIs.push {F : UInt32 → Int} {es : Array MapEntry} {clock : Nat} (h : MapIs F es clock) {k : UInt32} (v : Int) (hk : ∀ x ∈ es.toList, x.key ≠ kV k) : MapIs (updF F k v) (es.push ⟨kV k, .int .i64 v, clock⟩) (clock + 1) := by
 refine ⟨stamped_push h.st hk, fun e he => ?_, fun q hq => ?_⟩
 ·
  rw [Array.toList_push, List.mem_append, List.mem_singleton] at he
  rcases he with he | rfl
  ·
   obtain ⟨q, h1, h2⟩ := h.ent e he
   refine ⟨q, h1, ?_⟩
   unfold updF
   rw [if_neg (fun e2 => hk e he (by rw [h1, e2]))]; exact h2
  ·
   exact ⟨k, rfl, by unfold updF; rw [if_pos rfl]⟩
 ·
  rw [Array.toList_push]
  by_cases e : q = k
  ·
   subst e; exact ⟨_, List.mem_append_right _ (List.mem_singleton.2 rfl), rfl⟩
  ·
   unfold updF at hq
   rw [if_neg e] at hq
   obtain ⟨x, h1, h2⟩ := h.cov q hq
   exact ⟨x, List.mem_append_left _ h1, h2⟩
theorem MapIs.modify {F : UInt32 → Int} {es : Array MapEntry} {clock : Nat} (h : MapIs F es clock) {k : UInt32} (v : Int) {j : Nat} {e : MapEntry} (he : es[j]? = some e) (hk : e.key = kV k) : MapIs (updF F k v) (es.modify j fun e => { e with key := kV k, val := .int .i64 v }) clock := by
 have hget : ∀ i, (es.modify j fun e => { e with key := kV k, val := .int .i64 v })[i]? = if j = i then some { e with key := kV k, val := .int .i64 v } else es[i]? := fun i => by
  rw [Array.getElem?_modify]
  by_cases hij : j = i
  ·
   subst hij; rw [if_pos rfl, if_pos rfl, he]; rfl
  ·
   rw [if_neg hij, if_neg hij]
 have hst := h.st
 refine ⟨stamped_modify h.st j _ (fun _ _ => rfl) (fun x hx hq => by rw [he] at hq; cases hq; exact hk.symm), fun x hx => ?_, fun q hq => ?_⟩
 ·
  obtain ⟨i, hi⟩ := Array.getElem?_of_mem (Array.mem_toList_iff.1 hx)
  rw [hget] at hi
  by_cases hij : j = i
  ·
   rw [if_pos hij] at hi; cases hi
   exact ⟨k, rfl, by unfold updF; rw [if_pos rfl]⟩
  ·
   rw [if_neg hij] at hi
   obtain ⟨q, h1, h2⟩ := h.ent x (Array.mem_toList_iff.2 (Array.mem_of_getElem? hi))
   refine ⟨q, h1, ?_⟩
   unfold updF
   rw [if_neg]; exact h2
   intro e2
   subst e2
   have hp := hst.2.2
   have g1 : (es.toList.map (·.key))[j]? = some (kV q) := by rw [List.getElem?_map, Array.getElem?_toList, he]; simp [hk]
   have g2 : (es.toList.map (·.key))[i]? = some (kV q) := by rw [List.getElem?_map, Array.getElem?_toList, hi]; simp [h1]
   obtain ⟨l1, m1⟩ := List.getElem?_eq_some_iff.1 g1
   obtain ⟨l2, m2⟩ := List.getElem?_eq_some_iff.1 g2
   rcases Nat.lt_or_gt_of_ne hij with hlt | hlt
   ·
    exact List.pairwise_iff_getElem.1 hp j i l1 l2 hlt (by rw [m1, m2])
   ·
    exact List.pairwise_iff_getElem.1 hp i j l2 l1 hlt (by rw [m1, m2])
 ·
  by_cases e2 : q = k
  ·
   subst e2
   exact ⟨_, Array.mem_toList_iff.2 (Array.mem_of_getElem? (by rw [hget, if_pos rfl])), rfl⟩
  ·
   unfold updF at hq
   rw [if_neg e2] at hq
   obtain ⟨x, h1, h2⟩ := h.cov q hq
   obtain ⟨i, hi⟩ := Array.getElem?_of_mem (Array.mem_toList_iff.1 h1)
   have hij : j ≠ i := fun e3 => by
    subst e3
    rw [he] at hi; cases hi
    rw [hk] at h2
    exact e2 (kV_inj h2).symm
   exact ⟨x, Array.mem_toList_iff.2 (Array.mem_of_getElem? (by rw [hget, if_neg hij]; exact hi)), h2⟩
section
variable {P : Program} {H : Heap} {F : UInt32 → Int} {es : Array MapEntry} {clock : Nat}
theorem lt_lookupF {o : Oper} {R : Env} {t kt et id : Nat} {m x : Operand} {k : UInt32} (ho : o.op = .lookup t m x false)
  (hm : P.underlying t = some (.map kt et)) (hd : P.underlying kt = some (.int .u32)) (em : evO R m = some (.mp id)) (ek : evO R x = some (.u32 k))
  (hb : H id = some (.ext (.lit (.map es clock)))) (hM : MapIs F es clock) (hz : pzero P et = some (.i 0)) : LT P o R H [id] [] (some (.i (F k))) := by
 refine LT.pure (by simp [ho]) fun e w ρ h1 h2 => ?_
 have g1 := h1 m (by simp [ho, Op.operands]) _ em
 have g2 := h1 x (by simp [ho, Op.operands]) _ ek
 simp only [Rel] at g1 g2
 obtain ⟨rb, hr, he⟩ := g1
 obtain ⟨rb', hr', hbr⟩ := h2 id (by simp) _ hb
 rw [hr] at hr'; cases hr'
 obtain ⟨_, hw⟩ := hbr
 have hun : ∀ (t : TypeId) (d : TypeDesc), P.underlying t = some d → (underlying t).run P w = .ok d w := fun t d h => run_und h
 have hkey : IsKey (.int .u32) (kV k) := rfl
 have g3 : e x = kV k := g2
 rcases findNow_spec hkey es.toList 0 hM.isKey with ⟨hf, hno⟩ | ⟨j, e2, hf, hj, hek⟩
 ·
  obtain ⟨v, hv, hrv, _⟩ := run_zero (P := P) (w := w) hz
  have hF : F k = 0 := Classical.byContradiction fun hne => by
   obtain ⟨x, hx, hxk⟩ := hM.cov k hne
   exact hno x hx hxk
  refine ⟨v, ?_, by rw [hF]; exact hrv ρ⟩
  simp only [execOp, ho, he, g3, Instr.lookup, Sem.run_bind, hun _ _ hm, MapKept.run_getObj_map hw, MapKept.run_checkKey hd hkey, MapKept.run_findKey hd hf, Result.andThen_ok, Sem.run_pure, Bool.false_eq_true, if_false, hv]
 ·
  obtain ⟨q, hq1, hq2⟩ := hM.ent e2 (List.mem_of_getElem? hj)
  have : q = k := kV_inj (hq1.symm.trans hek)
  subst this
  refine ⟨e2.val, ?_, by simp only [Rel]; exact hq2⟩
  simp only [execOp, ho, he, g3, Instr.lookup, Sem.run_bind, hun _ _ hm, MapKept.run_getObj_map hw, MapKept.run_checkKey hd hkey, MapKept.run_findKey hd hf, Result.andThen_ok, Sem.run_pure, Bool.false_eq_true, if_false]
theorem lt_updF {o : Oper} {R : Env} {t kt et id : Nat} {m x y : Operand} {k : UInt32} {v : Int} (ho : o.op = .mapUpdate t m x y)
  (hm : P.underlying t = some (.map kt et)) (hd : P.underlying kt = some (.int .u32)) (em : evO R m = some (.mp id)) (ek : evO R x = some (.u32 k)) (ey : evO R y = some (.i v))
  (hb : H id = some (.ext (.lit (.map es clock)))) (hM : MapIs F es clock) : ∃ es' clock', MapIs (updF F k v) es' clock' ∧ LT P o R H [id] [(id, some (.ext (.lit (.map es' clock'))))] none := by
 have hkey : IsKey (.int .u32) (kV k) := rfl
 have core : ∀ es' clock', MapIs (updF F k v) es' clock' → (∀ (w : World) (r : Nat), w.heap[r]? = some (.map es clock) → (Instr.mapUpdate t (.map (some r)) (kV k) (.int .i64 v)).run P w = .ok () { w with heap := w.heap.setIfInBounds r (.map es' clock') }) →
   ∃ es' clock', MapIs (updF F k v) es' clock' ∧ LT P o R H [id] [(id, some (.ext (.lit (.map es' clock'))))] none := fun es' clock' h1 h2 => by
  refine ⟨es', clock', h1, LT.of_run (by simp [ho]) fun e w ρ hh1 hh2 _ _ => ?_⟩
  have g1 := hh1 m (by simp [ho, Op.operands]) _ em
  have g2 := hh1 x (by simp [ho, Op.operands]) _ ek
  have g3 := hh1 y (by simp [ho, Op.operands]) _ ey
  simp only [Rel] at g1 g2 g3
  obtain ⟨rb, hr, he⟩ := g1
  obtain ⟨rb', hr', hbr⟩ := hh2 id (by simp) _ hb
  rw [hr] at hr'; cases hr'
  obtain ⟨⟨_, hoff⟩, hw⟩ := hbr
  have g4 : e x = kV k := g2
  refine ⟨.skip, _, ρ, ?_, Chg.putObj hb hr hw hoff (by simp [mutK]) (by simp [mutK]), .inr ⟨rfl, rfl⟩⟩
  simp only [execOp, ho, he, g4, g3, Sem.run_bind, h2 w rb.blk hw, Result.andThen_ok, Sem.run_pure]
 have hun : ∀ (w : World) (t : TypeId) (d : TypeDesc), P.underlying t = some d → (underlying t).run P w = .ok d w := fun w t d h => run_und h
 rcases findNow_spec hkey es.toList 0 hM.isKey with ⟨hf, hno⟩ | ⟨j, e2, hf, hj, hek⟩
 ·
  refine core _ _ (hM.push v hno) fun w r hw => ?_
  simp only [Instr.mapUpdate, Sem.run_bind, hun _ _ _ hm, MapKept.run_getObj_map hw, MapKept.run_checkKey hd hkey, MapKept.run_findKey hd hf, MapKept.run_setObj_map _ hw, Result.andThen_ok]
 ·
  have hj2 : es[j]? = some e2 := by rw [← Array.getElem?_toList]; exact hj
  refine core _ _ (hM.modify v hj2 hek) fun w r hw => ?_
  rw [Nat.zero_add] at hf
  have hks : (Instr.keyThatStays (((es[j]?).map (·.key)).getD (kV k)) (kV k)).run P w = .ok (kV k) w := by
   rw [hj2, Option.map_some, Option.getD_some, hek]
   unfold Instr.keyThatStays
   rw [if_pos (by unfold kV; simp [Instr.sameBits]), Sem.run_pure]
  simp only [Instr.mapUpdate, Sem.run_bind, hun _ _ _ hm, MapKept.run_getObj_map hw, MapKept.run_checkKey hd hkey, MapKept.run_findKey hd hf, hks, MapKept.run_setObj_map _ hw, Result.andThen_ok]
theorem ok1_lookupF {o : Oper} {R : RL} {H : HL} {L : Nat} {kk : K1} {t kt et : Nat} (id : Nat) (F : UInt32 → Int) {m x : Operand} {k : UInt32} {es : Array MapEntry} {clock : Nat} (hM : MapIs F es clock) (ho : o.op = .lookup t m x false)
  (hm : P.underlying t = some (.map kt et)) (hd : P.underlying kt = some (.int .u32)) (hz : pzero P et = some (.i 0)) (em : ev R m = some (.mp id)) (ek : ev R x = some (.u32 k))
  (hb : hk H id = some (.ext (.lit (.map es clock)))) (h : kk (some (.i (F k))) [] [id] L) : Ok1 P o R H L kk :=
 ok1_pure (lt_lookupF ho hm hd (ev_some em) (ev_some ek) (hk_some hb) hM hz) h
theorem ok1_updF {o : Oper} {R : RL} {H : HL} {L : Nat} {kk : K1} {t kt et : Nat} (id : Nat) (F : UInt32 → Int) {m x y : Operand} {k : UInt32} {v : Int} {es : Array MapEntry} {clock : Nat} (hM : MapIs F es clock) (ho : o.op = .mapUpdate t m x y)
  (hm : P.underlying t = some (.map kt et)) (hd : P.underlying kt = some (.int .u32)) (em : ev R m = some (.mp id)) (ek : ev R x = some (.u32 k)) (ey : ev R y = some (.i v))
  (hb : hk H id = some (.ext (.lit (.map es clock)))) (hl : Nat.ble H.length L = true)
  (h : ∀ es' clock', MapIs (updF F k v) es' clock' → kk none [(id, some (.ext (.lit (.map es' clock'))))] [id] L) : Ok1 P o R H L kk := by
 obtain ⟨es', clock', h1, h2⟩ := lt_updF (P := P) ho hm hd (ev_some em) (ev_some ek) (ev_some ey) (hk_some hb) hM
 exact ok1_put (hk_lt (Nat.le_of_ble_eq_true hl) hb) (by simp) h2 (h es' clock' h1)
end
end Go.Sh
namespace Go.Sh
open Go.MapKept
theorem SWp.locate {P : Program} {M : Option Nat → Prop} {N A : Nat} {c : Code} {Q : Exit → RL → HL → Nat → Prop} {R : RL} {H : HL} {L : Nat} (q : Nat) {o : Obj} (hq : hk H q = some (.ext (.lit o))) (hL : Nat.ble H.length L = true)
  (h : ∀ r, SWp P M N A c Q R (hupd H [(q, some (.ext (.locd r o)))]) L) : SWp P M N A c Q R H L := by
 refine ⟨fun rr n B ρ a w hM hs hl => ?_⟩
 have hq0 := hq
 rw [hk_eq] at hq
 obtain ⟨rb, hr, ⟨h1, h2⟩, h3⟩ := hs.heap q _ hq
 have hg2 : ∀ id, hg (hupd H [(q, some (.ext (.locd rb.blk o)))]) id = if id = q then some (.ext (.locd rb.blk o)) else hg H id := fun id => by
  rw [hg_hupd]
  by_cases h : id = q
  ·
   subst h; simp [updW]
  ·
   have : (id == q) = false := by simpa using h
   simp [updW, List.lookup_cons, this, h]
 have hown : ∀ kk o2, Owned ρ (hg (hupd H [(q, some (.ext (.locd rb.blk o)))])) kk o2 ↔ Owned ρ (hg H) kk o2 := by
  intro kk o2
  constructor
  ·
   rintro ⟨id, b, rb2, g1, g2, g3, g4⟩
   rw [hg2] at g1
   by_cases h : id = q
   ·
    rw [if_pos h] at g1; cases g1; subst h; exact ⟨id, _, rb2, hq, g2, rfl, g4⟩
   ·
    rw [if_neg h] at g1; exact ⟨id, b, rb2, g1, g2, g3, g4⟩
  ·
   rintro ⟨id, b, rb2, g1, g2, g3, g4⟩
   by_cases h : id = q
   ·
    subst h; rw [hq] at g1; cases g1; exact ⟨id, .ext (.locd rb.blk o), rb2, by rw [hg2, if_pos rfl], g2, rfl, g4⟩
   ·
    exact ⟨id, b, rb2, by rw [hg2, if_neg h]; exact g1, g2, g3, g4⟩
 have hs2 : Sim N B L ρ (rg R) (hg (hupd H [(q, some (.ext (.locd rb.blk o)))])) a w := by
  refine ⟨hs.size, hs.regs, ?_, ?_, hs.fresh, hs.dfr⟩
  ·
   intro id b hb
   rw [hg2] at hb
   by_cases h : id = q
   ·
    rw [if_pos h] at hb; cases hb; subst h; exact ⟨rb, hr, ⟨h1, h2, rfl⟩, h3⟩
   ·
    rw [if_neg h] at hb; exact hs.heap id b hb
  ·
   intro i j bi bj ri rj hne hi hj hri hrj hb kk o2 ⟨hfi, hfj⟩
   rw [hg2] at hi hj
   by_cases e1 : i = q
   ·
    rw [if_pos e1] at hi; cases hi
    rw [if_neg (fun e => hne (by rw [e1, e]))] at hj
    subst e1
    exact hs.sep i j _ bj ri rj hne hq hj hri hrj rfl kk o2 ⟨hfi, hfj⟩
   ·
    rw [if_neg e1] at hi
    by_cases e2 : j = q
    ·
     rw [if_pos e2] at hj; cases hj
     subst e2
     exact hs.sep i j bi _ ri rj hne hi hq hri hrj hb kk o2 ⟨hfi, hfj⟩
    ·
     rw [if_neg e2] at hj
     exact hs.sep i j bi bj ri rj hne hi hj hri hrj hb kk o2 ⟨hfi, hfj⟩
 have hlt := hk_lt hl hq0
 refine wpIn_mono ((h rb.blk).run rr n B ρ a w hM hs2 (hupd_le (Nat.le_of_ble_eq_true hL) (fun id ob hm => by simp at hm; omega))) ?_
 rintro e a2 w2 ⟨R2, H2, L2, ρ2, hq2, hl2, hs3, he2⟩
 exact ⟨R2, H2, L2, ρ2, hq2, hl2, hs3, ⟨he2.ext, he2.fr.mono (fun k q _ h => (hown k q).1 h), fun k q h => (he2.own k q h).imp (hown k q).1 id⟩⟩
theorem lt_range {P : Program} {H : Heap} {o : Oper} {R : Env} {t kt et id nid r : Nat} {x : Operand} {es : Array MapEntry} {clock : Nat} (ho : o.op = .range t x) (hm : P.underlying t = some (.map kt et)) (hx : evO R x = some (.mp id))
  (hb : H id = some (.ext (.locd r (.map es clock)))) (hne : nid ≠ id) : LT P o R H [id] [(nid, some (.ext (.lit (.mapIter (some r) clock #[] clock))))] (some (.p nid 0)) := by
 refine LT.of_run (by simp [ho]) fun e w ρ h1 h2 _ hn => ?_
 have g1 := h1 x (by simp [ho, Op.operands]) _ hx
 simp only [Rel] at g1
 obtain ⟨rb, hr, he⟩ := g1
 obtain ⟨rb', hr', ⟨_, _, hrr⟩, hw⟩ := h2 id (by simp) _ hb
 rw [hr] at hr'; cases hr'
 subst hrr
 refine ⟨.value (.pointer (some ⟨w.heap.size, 0, none⟩)), w.alloc (.mapIter (some rb.blk) clock #[] clock), _, ?_, Chg.newObj (hn nid (some (.ext (.lit (.mapIter (some rb.blk) clock #[] clock)))) (by simp) (by simpa using hne)) (by simp [mutK]), .inl ⟨_, rfl, ?_⟩⟩
 ·
  simp only [execOp, ho, he, Instr.range, Sem.run_bind, run_und hm, Result.andThen_ok, MapKept.run_getObj_map hw, Sem.run_pure]
  rfl
 ·
  intro v hv; cases hv
  simp only [Rel]
  exact ⟨_, setR_same _ _ _, rfl⟩
theorem ok1_range {P : Program} {o : Oper} {R : RL} {H : HL} {L : Nat} {kk : K1} {t kt et : Nat} (id r : Nat) {x : Operand} {es : Array MapEntry} {clock : Nat} (ho : o.op = .range t x) (hm : P.underlying t = some (.map kt et)) (hx : ev R x = some (.mp id))
  (hb : hk H id = some (.ext (.locd r (.map es clock)))) (hl : Nat.ble H.length L = true) (h : kk (some (.p L 0)) [(L, some (.ext (.lit (.mapIter (some r) clock #[] clock))))] [id] (L + 1)) : Ok1 P o R H L kk :=
 ok1_new (lt_range ho hm (ev_some hx) (hk_some hb) (by have := hk_lt (Nat.le_of_ble_eq_true hl) hb; omega)) h
theorem filter_lt {α : Type} {p q : α → Bool} : ∀ {l : List α}, (∀ x ∈ l, q x = true → p x = true) → (l.filter q).length ≤ (l.filter p).length ∧ ((∃ x ∈ l, p x = true ∧ q x = false) → (l.filter q).length < (l.filter p).length)
 | [], _ => ⟨Nat.le_refl _, fun ⟨x, hx, _⟩ => by simp at hx⟩
 | a :: l, h => by
  obtain ⟨h1, h2⟩ := filter_lt (l := l) (fun x hx => h x (List.mem_cons_of_mem _ hx))
  have ha := h a (List.mem_cons_self ..)
  cases hq : q a with
  | true =>
   rw [List.filter_cons_of_pos hq, List.filter_cons_of_pos (ha hq)]
   refine ⟨by simpa using h1, fun ⟨x, hx, hp, hq2⟩ => ?_⟩
   rcases List.mem_cons.1 hx with rfl | hx
   ·
    rw [hq] at hq2; cases hq2
   ·
    simpa using h2 ⟨x, hx, hp, hq2⟩
  | false =>
   rw [List.filter_cons_of_neg (by rw [hq]; simp)]
   cases hp : p a with
   | true => rw [List.filter_cons_of_pos hp]; exact ⟨by simp; omega, fun _ => by simp; omega⟩
   | false =>
    rw [List.filter_cons_of_neg (by rw [hp]; simp)]
    refine ⟨h1, fun ⟨x, hx, hp2, hq2⟩ => ?_⟩
    rcases List.mem_cons.1 hx with rfl | hx
    ·
     rw [hp] at hp2; cases hp2
    ·
     exact h2 ⟨x, hx, hp2, hq2⟩
def leftN (es : Array MapEntry) (seen : Array Nat) : Nat := (es.toList.filter fun e => !seen.contains e.born).length
theorem leftN_lt {es : Array MapEntry} {seen : Array Nat} {e : MapEntry} (he : e ∈ (leftOf es seen).toList) : leftN es (seen.push e.born) < leftN es seen := by
 have he2 : e ∈ es.toList ∧ seen.contains e.born = false := by
  unfold leftOf at he
  simpa using he
 unfold leftN
 refine (filter_lt (fun x hx h => ?_)).2 ⟨e, he2.1, by rw [he2.2]; rfl, by simp⟩
 simp at h ⊢
 exact h.1
theorem left_mem {es : Array MapEntry} {seen : Array Nat} {e : MapEntry} (he : e ∈ (leftOf es seen).toList) : e ∈ es.toList := by
 unfold leftOf at he
 simp at he ⊢
 exact he.1
section
variable {P : Program} {N : Nat} {ops : Array Oper}
theorem Chg.putObj2 {ρ : Ren} {H : Heap} {w w1 : World} {id : Nat} {o o' : Obj} {rb : RB} (hw : w1 = w ∨ w1 = w.drew) (hid : H id = some (.ext (.lit o))) (hr : ρ id = some rb) (hb : w.heap[rb.blk]? = some o) (hoff : rb.off = 0) (ho : 2 ≤ mutK o) (hk : mutK o' = mutK o) :
  Chg ρ H w [(id, some (.ext (.lit o')))] ρ { w1 with heap := w1.heap.setIfInBounds rb.blk o' } := by
 rcases hw with rfl | rfl
 ·
  exact Chg.putObj hid hr hb hoff ho hk
 ·
  obtain ⟨s1, s2⟩ := heap_set (o' := o') hb
  refine Chg.put hid hr rfl (fun k o h => h) ⟨⟨by omega, hoff⟩, s1⟩ ⟨rfl, rfl, rfl, by show _ ≤ (w.heap.setIfInBounds rb.blk o').size; simp, fun k x hx => ?_⟩
  by_cases hk2 : k = rb.blk
  ·
   subst hk2
   rw [hb] at hx; cases hx
   show FrO _ o (w.heap.setIfInBounds rb.blk o')[rb.blk]?
   rw [s1]
   cases o with
   | cells c t fz => simp [mutK] at ho
   | _ => exact .inr ⟨⟨0, rfl⟩, by omega, _, rfl, hk⟩
  ·
   show FrO _ x (w.heap.setIfInBounds rb.blk o')[k]?
   rw [s2 k hk2, hx]; exact FrO.refl _ _
theorem sops_next {Q : RL → HL → Nat → Prop} {o : Oper} {os : List Oper} {R : RL} {H : HL} {L d it q r c0 since clock : Nat} {x : Operand} {seen : Array Nat} {F : UInt32 → Int} {es : Array MapEntry} (hd : dstOk N ops = true) (ho : o.op = .next x false) (hgp : gpass ops o (rg R) = some true) (hdst : o.dst = some d)
  (hx : evO (rg R) x = some (.p it 0)) (hit : hg H it = some (.ext (.lit (.mapIter (some r) since seen c0)))) (hmp : hg H q = some (.ext (.locd r (.map es clock)))) (hold : ∀ x ∈ es.toList, x.born < since) (hsc : since ≤ c0) (hM : MapIs F es clock) (hitL : it < L)
  (hA : SOps P N ops Q os ((d, .tup [.b false]) :: R) H L)
  (hB : ∀ e k, e ∈ (leftOf es seen).toList → e.key = kV k → e.val = .int .i64 (F k) → SOps P N ops Q os ((d, .tup [.b true, .u32 k, .i (F k)]) :: R) (hupd H [(it, some (.ext (.lit (.mapIter (some r) since (seen.push e.born) clock))))]) L) : SOps P N ops Q (o :: os) R H L := by
 refine ⟨fun rr nn B ρ a w k K hos hsim hl hK => ?_⟩
 have hN : ∀ (i : Nat) (o : Oper) (d : Nat), ops[i]? = some o → o.dst = some d → d < N := by
  intro i o d ho hdst
  simp only [dstOk, List.all_eq_true] at hd
  have := hd o (by simpa using Array.mem_of_getElem? ho)
  simpa [hdst] using this
 have e1 : ops[k]? = some o := by have := hos 0; simpa using this.symm
 have hxv : Rel ρ (.p it 0) (a.eval x) := by
  cases x with
  | tmp t => exact hsim.regs t _ hx
  | const u => exact (ofVal_rel hx).1
  | func f => cases hx
  | global g => cases hx
 simp only [Rel] at hxv
 obtain ⟨rb, hr, hev⟩ := hxv
 obtain ⟨rb', hr', ⟨hmut, hoff⟩, hw⟩ := hsim.heap it _ hit
 rw [hr] at hr'; cases hr'
 obtain ⟨rm, hrm, ⟨_, _, hrr⟩, hwm⟩ := hsim.heap q _ hmp
 rw [hrr] at hwm
 have hev2 : a.eval x = .pointer (some ⟨rb.blk, 0, none⟩) := by rw [hev, hoff]
 rw [List.length_cons, List.range'_succ, wpOpsIn_cons]
 have hw1 := wanted_of_gpass hsim hgp
 unfold wpOpIn
 simp only [e1, hw1, if_true]
 refine ⟨fun _ _ => trivial, ?_⟩
 have hos' : ∀ j, os[j]? = ops[k + 1 + j]? := fun j => by
  have := hos (j + 1)
  simp only [List.getElem?_cons_succ] at this
  rw [this]; congr 1; omega
 have hexec : ∀ v w', (Instr.next (.pointer (some ⟨rb.blk, 0, none⟩)) false o.type).run P w = .ok v w' → (execOp a.eval o).run P w = .ok (.value v) w' := fun v w' h => by
  simp only [execOp, ho, hev2, Sem.run_bind, h, Result.andThen_ok, Sem.run_pure]
 rcases run_next_at (P := P) w o.type rb.blk r since c0 seen es clock hw hwm hold hsc with ⟨h0, hrun⟩ | ⟨e, he, w1, hw1', hrun⟩
 ·
  rw [Oper.semAt_eq _ _ _ (by simp [ho]), hexec _ _ hrun]
  show wpOpsIn (Fw rr) nn P ops K (List.range' (k + 1) os.length) (a.put o.dst _) w
  have hch : Chg ρ (hg H) w [] ρ w := ⟨fun _ _ h => h, fun id rb h => .inl h, fun id b h => by simp at h, Fr.refl _ _, fun id b rb k o h => by simp at h, fun i j bi bj ri rj hne hi => by simp at hi⟩
  obtain ⟨s1, ev1⟩ := step_put (o := o) (e := ⟨⟨o.dst, [], [], []⟩, some (.tup [.b false]), []⟩) (L' := L) rfl (fun d hd => hN k o d e1 hd) hsim (Nat.le_refl _) (fun id ob hm => by simp at hm) hch (rv := .tuple #[.bool false])
   (fun v hv => by cases hv; simp only [Rel, Rels]; exact ⟨_, rfl, _, _, rfl, rfl, rfl⟩)
  rw [appL_wr rfl] at s1
  have hr1 : rput R o.dst (some (.tup [.b false])) = (d, .tup [.b false]) :: R := by rw [hdst]; rfl
  rw [hr1] at s1
  have hap : appL (hg H) ([] : Upd) = hg H := by funext i; simp [appL]
  rw [hap] at s1 ev1
  exact hA.run rr nn B _ _ _ (k + 1) K hos' s1 hl (fun a2 w2 R3 H3 L3 ρ3 hq3 hl3 hs3 hev3 => hK a2 w2 R3 H3 L3 ρ3 hq3 hl3 hs3 (ev1.trans hev3))
 ·
  obtain ⟨kk, hkk, hvv⟩ := hM.ent e (left_mem he)
  rw [Oper.semAt_eq _ _ _ (by simp [ho]), hexec _ _ hrun]
  show wpOpsIn (Fw rr) nn P ops K (List.range' (k + 1) os.length) (a.put o.dst _) (ChangeMaps.setBlock w1 rb.blk (.mapIter (some r) since (seen.push e.born) clock))
  have hch := Chg.putObj2 (ρ := ρ) (H := hg H) (o' := .mapIter (some r) since (seen.push e.born) clock) hw1' hit hr hw hoff hmut rfl
  obtain ⟨s1, ev1⟩ := step_put (o := o) (e := ⟨⟨o.dst, [], [], [it]⟩, some (.tup [.b true, .u32 kk, .i (F kk)]), [(it, some (.ext (.lit (.mapIter (some r) since (seen.push e.born) clock))))]⟩) (L' := L) rfl (fun d hd => hN k o d e1 hd) hsim (Nat.le_refl _) (fun id ob hm => by simp at hm; omega) hch (rv := .tuple #[.bool true, e.key, e.val])
   (fun v hv => by cases hv; simp only [Rel, Rels]; exact ⟨_, rfl, _, _, rfl, rfl, _, _, rfl, hkk, _, _, rfl, hvv, rfl⟩)
  rw [appL_wr rfl, ← updW_app, ← hg_hupd] at s1
  rw [← updW_app, ← hg_hupd] at ev1
  have hr1 : rput R o.dst (some (.tup [.b true, .u32 kk, .i (F kk)])) = (d, .tup [.b true, .u32 kk, .i (F kk)]) :: R := by rw [hdst]; rfl
  rw [hr1] at s1
  exact (hB e kk he hkk hvv).run rr nn B _ _ _ (k + 1) K hos' s1 (hupd_le hl (fun id ob hm => by simp at hm; omega)) (fun a2 w2 R3 H3 L3 ρ3 hq3 hl3 hs3 hev3 => hK a2 w2 R3 H3 L3 ρ3 hq3 hl3 hs3 (ev1.trans hev3))
end
theorem lt_entry {P : Program} {H : Heap} {o : Oper} {R : Env} {it q r since clock : Nat} {x : Operand} {seen : Array Nat} {F : UInt32 → Int} {es : Array MapEntry} {e : MapEntry} {k : UInt32} (ho : o.op = .entry x) (hx : evO R x = some (.p it 0))
  (hit : H it = some (.ext (.lit (.mapIter (some r) since (seen.push e.born) clock)))) (hmp : H q = some (.ext (.locd r (.map es clock)))) (hM : MapIs F es clock) (he : e ∈ es.toList) (hk : e.key = kV k) (hv : e.val = .int .i64 (F k)) :
  LT P o R H [it, q] [] (some (.tup [.u32 k, .i (F k)])) := by
 refine LT.pure (by simp [ho]) fun ee w ρ h1 h2 => ?_
 have g1 := h1 x (by simp [ho, Op.operands]) _ hx
 simp only [Rel] at g1
 obtain ⟨rb, hr, hev⟩ := g1
 obtain ⟨rb', hr', ⟨hmut, hoff⟩, hw⟩ := h2 it (by simp) _ hit
 rw [hr] at hr'; cases hr'
 obtain ⟨rm, hrm, ⟨_, _, hrr⟩, hwm⟩ := h2 q (by simp) _ hmp
 rw [hrr] at hwm
 refine ⟨.tuple #[e.key, e.val], ?_, ?_⟩
 ·
  have hev2 : ee x = .pointer (some ⟨rb.blk, 0, none⟩) := by rw [hev, hoff]
  simp only [execOp, ho, hev2, Sem.run_bind, run_entry_at (P := P) w rb.blk r since seen es clock e hw hwm he hM.st.2.1, Result.andThen_ok, Sem.run_pure]
 ·
  simp only [Rel, Rels]
  exact ⟨_, rfl, _, _, rfl, hk, _, _, rfl, hv, rfl⟩
theorem ok1_entry {P : Program} {o : Oper} {R : RL} {H : HL} {L : Nat} {kk : K1} (it q : Nat) {r since clock : Nat} {x : Operand} {seen : Array Nat} {F : UInt32 → Int} {es : Array MapEntry} {e : MapEntry} {k : UInt32} (hM : MapIs F es clock) (he : e ∈ es.toList) (hek : e.key = kV k) (hv : e.val = .int .i64 (F k)) (ho : o.op = .entry x) (hx : ev R x = some (.p it 0))
  (hit : hk H it = some (.ext (.lit (.mapIter (some r) since (seen.push e.born) clock)))) (hmp : hk H q = some (.ext (.locd r (.map es clock)))) (h : kk (some (.tup [.u32 k, .i (F k)])) [] [it, q] L) : Ok1 P o R H L kk :=
 ok1_pure (lt_entry ho (ev_some hx) (hk_some hit) (hk_some hmp) hM he hek hv) h
end Go.Sh
namespace Go.Sh
open Go.Proofs
set_option maxHeartbeats 8000000
theorem tmk_ne (bit : UInt64) : tmk bit ≠ 0 := by
 have h : ∀ k, k < 8 → shl8 (UInt8.ofNat (Int.toNat 1)) k ≠ 0 := by decide
 exact h _ (by rw [UInt64.toNat_mod]; exact Nat.mod_lt _ (by decide))
theorem turnB_twice {b : List UInt8} (bit : UInt64) (h0 : 0 < b.length) (h : b.length < 1000000) : turnB (turnB b bit) bit = b := by
 have hi := tix_lt (bit := bit) h0 h
 have hl := turnB_len b bit
 unfold turnB at hl ⊢
 rw [hl]
 generalize tix bit b.length = i at hi hl ⊢
 apply List.ext_getElem (by simp)
 intro j h1 h2
 rw [List.getElem_set]
 by_cases e : i = j
 ·
  subst e
  rw [if_pos rfl, List.getD_eq_getElem?_getD, List.getElem?_set_self hi, Option.getD_some, UInt8.xor_assoc, UInt8.xor_self, UInt8.xor_zero, List.getD_eq_getElem?_getD, List.getElem?_eq_getElem hi, Option.getD_some]
 ·
  rw [if_neg e, List.getElem_set_ne e]
theorem turnB_ne {b : List UInt8} (bit : UInt64) (h0 : 0 < b.length) (h : b.length < 1000000) : (turnB b bit == b) = false := by
 rw [beq_eq_false_iff_ne]
 intro e
 have hi := tix_lt (bit := bit) h0 h
 have hm := tmk_ne bit
 unfold turnB at e
 generalize tix bit b.length = i at hi e
 have e2 := congrArg (fun l => l.getD i 0) e
 simp only [List.getD_eq_getElem?_getD, List.getElem?_set_self hi, List.getElem?_eq_getElem hi, Option.getD_some] at e2
 apply hm
 have e3 : b[i] ^^^ (b[i] ^^^ tmk bit) = b[i] ^^^ b[i] := by rw [e2]
 rw [← UInt8.xor_assoc, UInt8.xor_self, UInt8.zero_xor] at e3
 exact e3
def cntF (c : List UInt32) : UInt32 → Int := fun k => ((c.count k : Nat) : Int)
theorem cntF_add {l : List UInt32} {i : Nat} (h : i < l.length) (hl : l.length < 1000000) : updF (cntF (l.take i)) (l.getD i 0) (w64 (cntF (l.take i) (l.getD i 0) + 1)) = cntF (l.take (i + 1)) := by
 have e : l.take (i + 1) = l.take i ++ [l.getD i 0] := by
  rw [List.take_add_one, List.getD_eq_getElem?_getD, List.getElem?_eq_getElem h]; rfl
 funext k
 unfold updF cntF
 have hle : (l.take i).count (l.getD i 0) ≤ (l.take i).length := List.count_le_length ..
 rw [List.length_take] at hle
 rw [e, List.count_append, List.count_singleton]
 by_cases hk : k = l.getD i 0
 ·
  subst hk
  rw [if_pos rfl]
  simp only [beq_self_eq_true, if_true, w64_eq]
  omega
 ·
  rw [if_neg hk, if_neg (by simpa using fun e => hk e.symm)]
  rfl
theorem split_at {c : List UInt32} {j : Nat} (h : j < c.length) : c = c.take j ++ c.getD j 0 :: c.drop (j + 1) := by
 rw [List.getD_eq_getElem?_getD, List.getElem?_eq_getElem h, Option.getD_some, ← List.drop_eq_getElem_cons h, List.take_append_drop]
theorem cnt_erase {c : List UInt32} {j : Nat} (h : j < c.length) (k : UInt32) : c.count k = (c.eraseIdx j).count k + if c.getD j 0 == k then 1 else 0 := by
 have hs := split_at h
 have e1 : c.count k = (c.take j ++ c.getD j 0 :: c.drop (j + 1)).count k := by rw [← hs]
 rw [e1, List.eraseIdx_eq_take_drop_succ, List.count_append, List.count_append, List.count_cons]
 omega
theorem cntF_sub {c : List UInt32} {j : Nat} (h : j < c.length) (hl : c.length < 1000000) : updF (cntF c) (c.getD j 0) (w64 (cntF c (c.getD j 0) - 1)) = cntF (c.eraseIdx j) := by
 funext k
 unfold updF cntF
 have hc := cnt_erase h k
 have hc2 := cnt_erase h (c.getD j 0)
 rw [if_pos (by simp)] at hc2
 have hle : c.count (c.getD j 0) ≤ c.length := List.count_le_length ..
 by_cases hk : k = c.getD j 0
 ·
  subst hk
  rw [if_pos rfl]
  simp only [w64_eq]
  omega
 ·
  rw [if_neg hk]
  rw [if_neg (by simpa using fun e => hk e.symm)] at hc
  omega
theorem cntF_pos {c : List UInt32} {j : Nat} (h : j < c.length) : (cntF c (c.getD j 0) == 0) = false := by
 have hc := cnt_erase h (c.getD j 0)
 rw [if_pos (by simp)] at hc
 rw [beq_eq_false_iff_ne]
 unfold cntF
 omega
theorem MapIs.cast {F G : UInt32 → Int} {es : Array MapEntry} {clock : Nat} (h : MapIs F es clock) (e : F = G) : MapIs G es clock := e ▸ h
theorem mrem_i {a c : Int} (h : c ≠ 0) : sarith .rem (.i a) (.i c) = some (.i (a.tmod c)) := by simp [sarith, h]
theorem modIx (t : Int) {n : Nat} (h0 : 0 < n) (h : n < 1000000) : ∃ j : Nat, j < n ∧ (w64 (t.tmod (n : Int) + (n : Int))).tmod (n : Int) = (j : Int) := by
 have key : ∀ m : Nat, ((m : Int)).tmod (n : Int) = ((m % n : Nat) : Int) := fun m => rfl
 have h1 : ∃ x : Int, t.tmod (n : Int) = x ∧ -(n : Int) < x ∧ x < (n : Int) := by
  obtain ⟨m, rfl | rfl⟩ := Int.eq_nat_or_neg t
  ·
   have := Nat.mod_lt m h0
   exact ⟨_, key m, by omega, by omega⟩
  ·
   have := Nat.mod_lt m h0
   exact ⟨_, by rw [Int.neg_tmod, key], by omega, by omega⟩
 obtain ⟨x, hx, h2, h3⟩ := h1
 rw [hx]
 obtain ⟨y, hy⟩ : ∃ y : Nat, w64 (x + (n : Int)) = (y : Int) := ⟨(x + n).toNat, by simp only [w64_eq]; omega⟩
 rw [hy, key]
 exact ⟨_, Nat.mod_lt _ h0, rfl⟩
theorem cntF_nil : cntF [] = fun _ => 0 := by funext k; simp [cntF]
attribute [local irreducible] turnB cntF
theorem f6_x (l : List UInt32) (t : List Int) (b : List UInt8) (bit : UInt64) (hx : 300 < l.length ∨ 300 < t.length ∨ 3000 < b.length) : SCall Try.prog 6 [.sl 0 0 l.length 1 false, .sl 1 0 t.length 1 false, .sl 2 0 b.length 1 false, .u64 bit] [some (.ro (l.map .u32)), some (.ro (t.map .i)), some (.ro (b.map .u8))] (.b true) [some (.ro (l.map .u32)), some (.ro (t.map .i)), some (.ro (b.map .u8))] := by
 refine scall_of ttOk (by kernel_rfl : Try.prog.funcs[6]? = some Try.f6) rfl rfl rfl ?_
 try simp only [List.length_cons, List.length_nil, Nat.zero_add, Nat.reduceAdd]
 refine sw_ok ttOk mixed (by kernel_rfl) ?_
 conv => whnf
 repeat (fail)
 refine ok1_callF [] [] true (f21) rfl rfl ⟨⟨rfl, by first | rfl | fail⟩, trivial, by first | rfl | fail, by first | rfl | fail, ?_⟩
 conv => whnf
 by_cases h1 : 300 < l.length
 ·
  have e1 : decide ((l.length : Int) > 300) = true := by simp; omega
  repeat (first | (refine brT rfl ?_; conv => whnf) | (refine brF rfl ?_; conv => whnf) | (refine gdF rfl ?_; conv => whnf) | (refine gdF e1 ?_; conv => whnf) | (refine pkT e1 ?_; conv => whnf) | (refine Exists.intro _ (And.intro rfl ?_); conv => whnf) | fail)
  refine ⟨[0, 1, 2], ?_, rfl, rfl, ?_, rfl⟩
  ·
   (repeat' (fail)) <;> first | rfl | fail
  ·
   (repeat' (first | exact trivial | refine And.intro ?_ ?_ | fail)) <;> first | exact ren_eq (by first | (simp; done) | fail) (by first | rfl | fail) | fail
 have e1 : decide ((l.length : Int) > 300) = false := by simp; omega
 by_cases h2 : 300 < t.length
 ·
  have e2 : decide ((t.length : Int) > 300) = true := by simp; omega
  repeat (first | (refine brT rfl ?_; conv => whnf) | (refine brF rfl ?_; conv => whnf) | (refine gdT e1 ?_; conv => whnf) | (refine pkF e1 ?_; conv => whnf) | (refine gdF e2 ?_; conv => whnf) | (refine pkT e2 ?_; conv => whnf) | fail)
  refine ⟨[0, 1, 2], ?_, rfl, rfl, ?_, rfl⟩
  ·
   (repeat' (fail)) <;> first | rfl | fail
  ·
   (repeat' (first | exact trivial | refine And.intro ?_ ?_ | fail)) <;> first | exact ren_eq (by first | (simp; done) | fail) (by first | rfl | fail) | fail
 have e2 : decide ((t.length : Int) > 300) = false := by simp; omega
 have e3 : decide ((b.length : Int) > 3000) = true := by simp; omega
 repeat (first | (refine brF rfl ?_; conv => whnf) | (refine gdT e1 ?_; conv => whnf) | (refine pkF e1 ?_; conv => whnf) | (refine gdT e2 ?_; conv => whnf) | (refine pkF e2 ?_; conv => whnf) | (refine gdT e3 ?_; conv => whnf) | fail)
 refine ⟨[0, 1, 2], ?_, rfl, rfl, ?_, rfl⟩
 ·
  (repeat' (fail)) <;> first | rfl | fail
 ·
  (repeat' (first | exact trivial | refine And.intro ?_ ?_ | fail)) <;> first | exact ren_eq (by first | (simp; done) | fail) (by first | rfl | fail) | fail
theorem f6_m (l : List UInt32) (t : List Int) (b : List UInt8) (bit : UInt64) (h1 : l.length ≤ 300) (h2 : t.length ≤ 300) (h3 : b.length ≤ 3000) : SCall Try.prog 6 [.sl 0 0 l.length 1 false, .sl 1 0 t.length 1 false, .sl 2 0 b.length 1 false, .u64 bit] [some (.ro (l.map .u32)), some (.ro (t.map .i)), some (.ro (b.map .u8))] (.b true) [some (.ro (l.map .u32)), some (.ro (t.map .i)), some (.ro (b.map .u8))] := by
 have e1 : decide ((l.length : Int) > 300) = false := by simp; omega
 have e2 : decide ((t.length : Int) > 300) = false := by simp; omega
 have e3 : decide ((b.length : Int) > 3000) = false := by simp; omega
 obtain ⟨n, hn⟩ : ∃ n, n = l.length := ⟨_, rfl⟩
 have qn := f24 (n : Int)
 rw [show (if (0 : Int) > (n : Int) then (0 : Int) else (n : Int)) = (n : Int) from if_neg (by omega)] at qn
 have q1 := f25 [] l 0 n n n rfl hn (by decide) (by omega) (by omega) (by omega) false false
 rw [Nat.zero_add, List.nil_append, hn, List.take_length] at q1
 rw [← hn] at q1
 have g1 : ((n : Int) != (n : Int)) = false := by simp
 have hll : (l.map SV.u32).length = n := by simp [hn]
 have htl : (t.map SV.i).length = t.length := by simp
 rw [← hn] at e1 ⊢
 refine scall_of ttOk (by kernel_rfl : Try.prog.funcs[6]? = some Try.f6) rfl rfl rfl ?_
 try simp only [List.length_cons, List.length_nil, Nat.zero_add, Nat.reduceAdd]
 refine swxs_ok (J := [6, 24, 25]) ttOk mixed (by kernel_rfl) ?_
 conv => whnf
 repeat (fail)
 refine ok1_callF [] [] true (f21) rfl rfl ⟨⟨rfl, by first | rfl | fail⟩, trivial, by first | rfl | fail, by first | rfl | fail, ?_⟩
 conv => whnf
 repeat (first | (refine brF rfl ?_; conv => whnf) | (refine gdT e1 ?_; conv => whnf) | (refine pkF e1 ?_; conv => whnf) | (refine gdT e2 ?_; conv => whnf) | (refine pkF e2 ?_; conv => whnf) | (refine gdF e3 ?_; conv => whnf) | fail)
 refine ok1_callF [] [false] false (qn) rfl rfl ⟨⟨rfl, by first | rfl | fail⟩, trivial, by first | rfl | fail, by first | rfl | fail, ?_⟩
 conv => whnf
 repeat (fail)
 refine SWp.weak (Weak.virtB 3 0 49 1 rfl rfl rfl rfl rfl) ?_
 refine sw_ok ttOk mixed (by kernel_rfl) ?_
 conv => whnf
 repeat (fail)
 refine ok1_callF [3, 4, 0] [false, true, true, true] true (q1) rfl rfl ⟨⟨rfl, by first | rfl | fail⟩, by (repeat' (first | exact trivial | refine And.intro ?_ ?_)) <;> first | rfl | exact ren_eq (by first | (simp; done) | fail) (by first | rfl | fail) | fail, by first | simp [plainHf, plainB], by first | rfl | fail, ?_⟩
 conv => whnf
 repeat (first | (refine gdF g1 ?_; conv => whnf) | fail)
 refine ok1_makeMap rfl ?_
 conv => whnf
 repeat (fail)
 refine loop_rule ttOk mixed (by kernel_rfl) (ι := { x : Nat × Array MapEntry × Nat // x.1 ≤ n ∧ MapIs (cntF (l.take x.1)) x.2.1 x.2.2 }) (fun x => [(0, .sl 0 0 n 1 false), (1, .sl 1 0 t.length 1 false), (2, .sl 2 0 b.length 1 false), (3, .u64 bit), (9, .p 3 0), (10, .mp 5), (48, .sl 0 0 n 1 false), (49, .i (n : Int)), (50, .i (x.1.1 : Int))]) (fun x => [some (.ro (l.map .u32)), some (.ro (t.map .i)), some (.ro (b.map .u8)), some (.box [.sl 4 0 n 1 false, .i (n : Int)]), some (.row 49 (l.map .u32)), some (.ext (.lit (.map x.1.2.1 x.1.2.2)))]) (fun _ => 6) (fun x => n - x.1.1) ⟨(0, #[], 0), Nat.zero_le _, MapIs.nil.cast (by rw [List.take_zero, cntF_nil])⟩ ?_ ?_
 ·
  dsimp only
  refine Weak.sel [0, 1, 2, 3, 5, 6] rfl rfl ?_ ?_ rfl rfl
  ·
   (repeat' (first | exact trivial | refine And.intro ?_ ?_ | fail)) <;> first | rfl | fail
  ·
   (repeat' (first | exact trivial | refine And.intro ?_ ?_ | (refine wk_cons ?_ ?_))) <;> first | rfl | exact ren_eq (by first | (simp; done) | fail) (by first | rfl | fail) | fail
 ·
  rintro ⟨⟨i, es, ck⟩, hi, hM⟩
  dsimp only at hi hM ⊢
  by_cases hi2 : i < n
  ·
   have hlt : decide ((i : Int) < (n : Int)) = true := by simp; omega
   have hp1 := wpB i (by omega)
   have hadd := cntF_add (l := l) (i := i) (by omega) (by omega)
   conv => whnf
   first | refine brT (by exact hlt) ?_ | fail
   conv => whnf
   repeat (first | (refine Exists.intro _ (And.intro (sload_u32 (i := i) (by first | rfl | omega | fail) (by first | omega | fail)) ?_); conv => whnf) | (refine Exists.intro _ (And.intro (idx_i (m := i) (by first | rfl | fail)) ?_); conv => whnf) | (refine And.intro (by first | omega | fail) ?_; conv => whnf) | fail)
   refine ok1_lookupF 5 (cntF (l.take i)) hM rfl (by kernel_rfl : Try.prog.underlying 51 = some (.map 49 3)) (by kernel_rfl : Try.prog.underlying 49 = some (.int .u32)) (by kernel_rfl) rfl rfl rfl ?_
   conv => whnf
   repeat (fail)
   refine ok1_updF 5 (cntF (l.take i)) hM rfl (by kernel_rfl : Try.prog.underlying 51 = some (.map 49 3)) (by kernel_rfl : Try.prog.underlying 49 = some (.int .u32)) rfl rfl rfl rfl rfl ?_
   intro es' ck' hM'
   conv => whnf
   repeat (fail)
   refine ⟨⟨(i + 1, es', ck'), by omega, hM'.cast hadd⟩, by simp only; omega, ?_⟩
   dsimp only
   refine Weak.sel [0, 1, 2, 3, 4, 5] rfl rfl ?_ ?_ rfl rfl
   ·
    (repeat' (first | exact trivial | refine And.intro ?_ ?_ | fail)) <;> first | exact wk_i (by first | exact hp1 | exact hp1.symm | fail) | rfl | fail
   ·
    (repeat' (first | exact trivial | refine And.intro ?_ ?_ | (refine wk_cons ?_ ?_))) <;> first | rfl | exact ren_eq (by first | (simp; done) | fail) (by first | rfl | fail) | fail
  ·
   obtain rfl : i = n := by omega
   have hlt : decide ((i : Int) < (i : Int)) = false := by simp
   rw [hn, List.take_length] at hM
   conv => whnf
   first | refine brF (by exact hlt) ?_ | fail
   conv => whnf
   repeat (fail)
   refine loop_rule ttOk mixed (by kernel_rfl) (ι := { x : Nat × List UInt32 × Array MapEntry × Nat // x.1 + x.2.1.length = i ∧ MapIs (cntF x.2.1) x.2.2.1 x.2.2.2 }) (fun x => [(0, .sl 0 0 i 1 false), (1, .sl 1 0 t.length 1 false), (2, .sl 2 0 b.length 1 false), (3, .u64 bit), (9, .p 3 0), (10, .mp 5), (13, .i (x.1.1 : Int))]) (fun x => [some (.ro (l.map .u32)), some (.ro (t.map .i)), some (.ro (b.map .u8)), some (.box [.sl 4 0 x.1.2.1.length 1 false, .i (i : Int)]), some (.row 49 (x.1.2.1.map .u32)), some (.ext (.lit (.map x.1.2.2.1 x.1.2.2.2)))]) (fun _ => 6) (fun x => x.1.2.1.length) ⟨(0, l, es, ck), by simp [hn], hM⟩ ?_ ?_
   ·
    dsimp only
    rw [← hn]
    refine Weak.sel [0, 1, 2, 3, 4, 5] rfl rfl ?_ ?_ rfl rfl
    ·
     (repeat' (first | exact trivial | refine And.intro ?_ ?_ | fail)) <;> first | rfl | fail
    ·
     (repeat' (first | exact trivial | refine And.intro ?_ ?_ | (refine wk_cons ?_ ?_))) <;> first | rfl | exact ren_eq (by first | (simp; done) | fail) (by first | rfl | fail) | fail
   ·
    rintro ⟨⟨k, c, es, ck⟩, hk, hM⟩
    dsimp only at hk hM ⊢
    have q26 := f26 c c.length i rfl false
    by_cases hc : 0 < c.length
    ·
     have hgt : decide ((c.length : Int) > 0) = true := by simp; omega
     have hnz : (c.length : Int) ≠ 0 := by omega
     have hp1 := wpB k (by omega)
     have hge : decide ((k : Int) ≥ (i : Int)) = false := by simp; omega
     conv => whnf
     refine ok1_callF [3, 4] [false, true] true (q26) rfl rfl ⟨⟨rfl, by first | rfl | fail⟩, by (repeat' (first | exact trivial | refine And.intro ?_ ?_)) <;> first | rfl | exact ren_eq (by first | (simp; done) | fail) (by first | rfl | fail) | fail, by first | simp [plainHf, plainB], by first | rfl | fail, ?_⟩
     conv => whnf
     repeat (first | (refine gdT hgt ?_; conv => whnf) | fail)
     by_cases hkt : k < t.length
     ·
      have hlt2 : decide ((k : Int) < (t.length : Int)) = true := by simp; omega
      obtain ⟨j, hj, hje⟩ := modIx (t.getD k 0) hc (by omega)
      have hj2 : j < c.length := hj
      have hF := cntF_pos hj2
      have hsub := cntF_sub hj2 (by omega)
      have hle : (c.eraseIdx j).length = c.length - 1 := by rw [List.length_eraseIdx, if_pos hj2]
      have q := f27_y c c.length i j rfl hj (by omega) false
      rw [← hje] at q
      repeat (first | (refine gdT hlt2 ?_; conv => whnf) | (refine Exists.intro _ (And.intro (sload_i (i := k) (by first | rfl | omega | fail) (by first | omega | fail)) ?_); conv => whnf) | (refine Exists.intro _ (And.intro (idx_i (m := k) (by first | rfl | fail)) ?_); conv => whnf) | (refine And.intro (by first | omega | fail) ?_; conv => whnf) | fail)
      refine ok1_callF [3, 4] [false, true] true (q26) rfl rfl ⟨⟨rfl, by first | rfl | fail⟩, by (repeat' (first | exact trivial | refine And.intro ?_ ?_)) <;> first | rfl | exact ren_eq (by first | (simp; done) | fail) (by first | rfl | fail) | fail, by first | simp [plainHf, plainB], by first | rfl | fail, ?_⟩
      conv => whnf
      repeat (first | (refine Exists.intro _ (And.intro (mrem_i hnz) ?_); conv => whnf) | fail)
      refine ok1_callF [3, 4] [false, true] true (q26) rfl rfl ⟨⟨rfl, by first | rfl | fail⟩, by (repeat' (first | exact trivial | refine And.intro ?_ ?_)) <;> first | rfl | exact ren_eq (by first | (simp; done) | fail) (by first | rfl | fail) | fail, by first | simp [plainHf, plainB], by first | rfl | fail, ?_⟩
      conv => whnf
      repeat (fail)
      refine ok1_callF [3, 4] [false, true] true (q26) rfl rfl ⟨⟨rfl, by first | rfl | fail⟩, by (repeat' (first | exact trivial | refine And.intro ?_ ?_)) <;> first | rfl | exact ren_eq (by first | (simp; done) | fail) (by first | rfl | fail) | fail, by first | simp [plainHf, plainB], by first | rfl | fail, ?_⟩
      conv => whnf
      repeat (first | (refine Exists.intro _ (And.intro (mrem_i hnz) ?_); conv => whnf) | (refine And.intro (by kernel_rfl) ?_; conv => whnf) | fail)
      refine ok1_callF [3, 4] [false, true, true] true (q) rfl rfl ⟨⟨rfl, by first | rfl | fail⟩, by (repeat' (first | exact trivial | refine And.intro ?_ ?_)) <;> first | rfl | exact ren_eq (by first | (simp; done) | fail) (by first | rfl | fail) | fail, by first | simp [plainHf, plainB], by first | rfl | fail, ?_⟩
      conv => whnf
      repeat (first | (refine gdT rfl ?_; conv => whnf) | fail)
      refine ok1_lookupF 5 (cntF c) hM rfl (by kernel_rfl : Try.prog.underlying 51 = some (.map 49 3)) (by kernel_rfl : Try.prog.underlying 49 = some (.int .u32)) (by kernel_rfl) rfl rfl rfl ?_
      conv => whnf
      repeat (first | (refine gdT rfl ?_; conv => whnf) | (refine gdT hF ?_; conv => whnf) | (refine pkF hF ?_; conv => whnf) | (refine gdF hge ?_; conv => whnf) | (refine Exists.intro _ (And.intro rfl ?_); conv => whnf) | fail)
      refine ok1_lookupF 5 (cntF c) hM rfl (by kernel_rfl : Try.prog.underlying 51 = some (.map 49 3)) (by kernel_rfl : Try.prog.underlying 49 = some (.int .u32)) (by kernel_rfl) rfl rfl rfl ?_
      conv => whnf
      repeat (fail)
      refine ok1_updF 5 (cntF c) hM rfl (by kernel_rfl : Try.prog.underlying 51 = some (.map 49 3)) (by kernel_rfl : Try.prog.underlying 49 = some (.int .u32)) rfl rfl rfl rfl rfl ?_
      intro es' ck' hM'
      conv => whnf
      repeat (fail)
      refine ⟨⟨(k + 1, c.eraseIdx j, es', ck'), by simp only [hle]; omega, hM'.cast hsub⟩, by simp only [hle]; omega, ?_⟩
      dsimp only
      rw [hle]
      refine Weak.sel [0, 1, 2, 3, 6, 5] rfl rfl ?_ ?_ rfl rfl
      ·
       (repeat' (first | exact trivial | refine And.intro ?_ ?_ | fail)) <;> first | exact wk_i (by first | exact hp1 | exact hp1.symm | fail) | rfl | fail
      ·
       (repeat' (first | exact trivial | refine And.intro ?_ ?_ | (refine wk_cons ?_ ?_))) <;> first | rfl | exact ren_eq (by first | (simp; done) | fail) (by first | rfl | fail) | fail
     ·
      have hlt2 : decide ((k : Int) < (t.length : Int)) = false := by simp; omega
      have hj2 : 0 < c.length := hc
      have hF := cntF_pos hj2
      have hsub := cntF_sub hj2 (by omega)
      have hle : (c.eraseIdx 0).length = c.length - 1 := by rw [List.length_eraseIdx, if_pos hj2]
      have q := f27_y c c.length i 0 rfl hc (by omega) false
      obtain ⟨C, hC⟩ : ∃ C, C = c.eraseIdx 0 := ⟨_, rfl⟩
      rw [← hC] at q hle hsub
      repeat (first | (refine gdF hlt2 ?_; conv => whnf) | fail)
      refine ok1_callF [3, 4] [false, true, true] true (q) rfl rfl ⟨⟨rfl, by first | rfl | fail⟩, by (repeat' (first | exact trivial | refine And.intro ?_ ?_)) <;> first | rfl | exact ren_eq (by first | (simp; done) | fail) (by first | rfl | fail) | fail, by first | simp [plainHf, plainB], by first | rfl | fail, ?_⟩
      conv => whnf
      repeat (first | (refine gdT rfl ?_; conv => whnf) | fail)
      refine ok1_lookupF 5 (cntF c) hM rfl (by kernel_rfl : Try.prog.underlying 51 = some (.map 49 3)) (by kernel_rfl : Try.prog.underlying 49 = some (.int .u32)) (by kernel_rfl) rfl rfl rfl ?_
      conv => whnf
      repeat (first | (refine gdT rfl ?_; conv => whnf) | (refine gdT hF ?_; conv => whnf) | (refine pkF hF ?_; conv => whnf) | (refine gdF hge ?_; conv => whnf) | (refine Exists.intro _ (And.intro rfl ?_); conv => whnf) | fail)
      refine ok1_lookupF 5 (cntF c) hM rfl (by kernel_rfl : Try.prog.underlying 51 = some (.map 49 3)) (by kernel_rfl : Try.prog.underlying 49 = some (.int .u32)) (by kernel_rfl) rfl rfl rfl ?_
      conv => whnf
      repeat (fail)
      refine ok1_updF 5 (cntF c) hM rfl (by kernel_rfl : Try.prog.underlying 51 = some (.map 49 3)) (by kernel_rfl : Try.prog.underlying 49 = some (.int .u32)) rfl rfl rfl rfl rfl ?_
      intro es' ck' hM'
      conv => whnf
      repeat (fail)
      refine ⟨⟨(k + 1, C, es', ck'), by simp only [hle]; omega, hM'.cast hsub⟩, by simp only [hle]; omega, ?_⟩
      dsimp only
      rw [hle]
      refine Weak.sel [0, 1, 2, 3, 6, 5] rfl rfl ?_ ?_ rfl rfl
      ·
       (repeat' (first | exact trivial | refine And.intro ?_ ?_ | fail)) <;> first | exact wk_i (by first | exact hp1 | exact hp1.symm | fail) | rfl | fail
      ·
       (repeat' (first | exact trivial | refine And.intro ?_ ?_ | (refine wk_cons ?_ ?_))) <;> first | rfl | exact ren_eq (by first | (simp; done) | fail) (by first | rfl | fail) | fail
    ·
     obtain rfl : c = [] := List.eq_nil_of_length_eq_zero (by omega)
     have hgt : decide ((([] : List UInt32).length : Int) > 0) = false := by decide
     have hz : ∀ k, (cntF [] k != 0) = false := fun k => by rw [cntF_nil]; rfl
     conv => whnf
     refine ok1_callF [3, 4] [false, true] true (q26) rfl rfl ⟨⟨rfl, by first | rfl | fail⟩, by (repeat' (first | exact trivial | refine And.intro ?_ ?_)) <;> first | rfl | fail, by first | rfl | fail, by first | rfl | fail, ?_⟩
     conv => whnf
     repeat (first | (refine brF rfl ?_; conv => whnf) | fail)
     refine SWp.locate 5 rfl rfl ?_
     intro r
     refine sw_ok ttOk mixed (by kernel_rfl) ?_
     conv => whnf
     repeat (fail)
     refine ok1_range 5 r rfl (by kernel_rfl : Try.prog.underlying 51 = some (.map 49 3)) rfl rfl rfl ?_
     conv => whnf
     refine loop_rulex [25] ttOk mixed (by kernel_rfl) (ι := Array Nat) (fun _ => [(2, .sl 2 0 b.length 1 false), (3, .u64 bit), (106, .p 4 0)]) (fun seen => [some (.ro (l.map .u32)), some (.ro (t.map .i)), some (.ro (b.map .u8)), some (.ext (.locd r (.map es ck))), some (.ext (.lit (.mapIter (some r) ck seen ck)))]) (fun _ => 5) (fun seen => leftN es seen) #[] ?_ ?_
     ·
      refine Weak.sel [0, 1, 2, 5, 6] rfl rfl ?_ ?_ rfl rfl
      ·
       (repeat' (first | exact trivial | refine And.intro ?_ ?_ | fail)) <;> first | rfl | fail
      ·
       (repeat' (first | exact trivial | refine And.intro ?_ ?_ | fail)) <;> first | rfl | exact ren_eq (by first | (simp; done) | fail) (by first | rfl | fail) | fail
     ·
      intro seen
      conv => whnf
      refine swp_sops rfl ?_
      refine sops_next (it := 4) (q := 3) (by kernel_rfl) rfl rfl rfl rfl rfl rfl (fun x hx => hM.st.1 x hx) (Nat.le_refl _) hM (by decide) ?_ ?_
      ·
       refine sops_end ttOk (by kernel_rfl) ?_
       conv => whnf
       repeat (first | (refine brF rfl ?_; conv => whnf) | (refine Exists.intro _ (And.intro rfl ?_); conv => whnf) | fail)
       by_cases hb0 : b.length = 0
       ·
        have z1 := f22_z 0 0 b b.length hb0 rfl bit false
        have h9 : (false == decide ((b.length : Int) > 0)) = true := by rw [hb0]; rfl
        refine ok1_callF [2] [true] false (z1) rfl rfl ⟨⟨rfl, by first | rfl | fail⟩, by (repeat' (first | exact trivial | refine And.intro ?_ ?_)) <;> first | exact ren_eq (by first | (simp; done) | fail) (by first | rfl | fail) | fail, by first | simp [plainHf, plainB], by first | rfl | fail, ?_⟩
        conv => whnf
        repeat (first | (refine Exists.intro _ (And.intro (sload_all rfl (by first | rfl | fail)) ?_); conv => whnf) | (refine Exists.intro _ (And.intro (sput_all rfl (by first | rfl | fail)) ?_); conv => whnf) | (refine And.intro (by first | omega | (simp; done) | fail) ?_; conv => whnf) | fail)
        refine ok1_callF [2] [true] false (z1) rfl rfl ⟨⟨rfl, by first | rfl | fail⟩, by (repeat' (first | exact trivial | refine And.intro ?_ ?_)) <;> first | exact ren_eq (by first | (simp; done) | fail) (by first | rfl | fail) | fail, by first | simp [plainHf, plainB], by first | rfl | fail, ?_⟩
        conv => whnf
        repeat (first | (refine Exists.intro _ (And.intro bytesOf_all ?_); conv => whnf) | (refine brT rfl ?_; conv => whnf) | (refine gdF rfl ?_; conv => whnf) | (refine Exists.intro _ (And.intro (sput_all rfl (by first | rfl | fail)) ?_); conv => whnf) | (refine gdT h9 ?_; conv => whnf) | (refine pkT h9 ?_; conv => whnf) | (refine Exists.intro _ (And.intro rfl ?_); conv => whnf) | (refine gdT (by first | (simp; done) | fail) ?_; conv => whnf) | (refine pkT (by first | (simp; done) | fail) ?_; conv => whnf) | (refine And.intro (by first | omega | (simp; done) | fail) ?_; conv => whnf) | (refine And.intro (by kernel_rfl) ?_; conv => whnf) | fail)
        refine ⟨[0, 1, 2], ?_, rfl, rfl, ?_, rfl⟩
        ·
         (repeat' (fail)) <;> first | rfl | fail
        ·
         (repeat' (first | exact trivial | refine And.intro ?_ ?_ | fail)) <;> first | exact ren_eq (by first | (simp; done) | fail) (by first | rfl | fail) | fail
       ·
        have y1 := f22_y 0 0 b b.length (by omega) (by omega) rfl bit false
        have hYl := turnB_len b bit
        have y2 := f22_y 0 0 (turnB b bit) b.length (by omega) (by omega) hYl.symm bit false
        rw [turnB_twice bit (by omega) (by omega)] at y2
        have h6 := turnB_ne (b := b) bit (by omega) (by omega)
        obtain ⟨Y, hY⟩ : ∃ Y, Y = turnB b bit := ⟨_, rfl⟩
        rw [← hY] at y1 y2 hYl h6
        clear hY
        have h9 : (true == decide ((b.length : Int) > 0)) = true := by rw [decide_eq_true (by omega)]; rfl
        have h5 : (!(Y == b)) = true := by rw [h6]; rfl
        refine ok1_callF [2] [true, true] false (y1) rfl rfl ⟨⟨rfl, by first | rfl | fail⟩, by (repeat' (first | exact trivial | refine And.intro ?_ ?_)) <;> first | exact ren_eq (by first | (simp; done) | fail) (by first | rfl | fail) | fail, by first | simp [plainHf, plainB], by first | rfl | fail, ?_⟩
        conv => whnf
        repeat (first | (refine Exists.intro _ (And.intro (sload_all rfl (by first | rfl | fail)) ?_); conv => whnf) | (refine Exists.intro _ (And.intro (sput_all rfl (by first | rfl | fail)) ?_); conv => whnf) | (refine And.intro (by first | omega | (simp; done) | fail) ?_; conv => whnf) | fail)
        refine ok1_callF [5] [true, true] false (y2) rfl rfl ⟨⟨rfl, by first | rfl | fail⟩, by (repeat' (first | exact trivial | refine And.intro ?_ ?_)) <;> first | exact ren_eq (by first | (simp; done) | fail) (by first | rfl | fail) | fail, by first | simp [plainHf, plainB], by first | rfl | fail, ?_⟩
        conv => whnf
        repeat (first | (refine Exists.intro _ (And.intro bytesOf_all ?_); conv => whnf) | (refine Exists.intro _ (And.intro (bytesOf_cut rfl) ?_); conv => whnf) | (refine brT rfl ?_; conv => whnf) | (refine gdT rfl ?_; conv => whnf) | (refine Exists.intro _ (And.intro (sput_all rfl (by first | rfl | fail)) ?_); conv => whnf) | (refine gdT h9 ?_; conv => whnf) | (refine pkT h9 ?_; conv => whnf) | (refine Exists.intro _ (And.intro rfl ?_); conv => whnf) | (refine gdT (by first | (simp; done) | fail) ?_; conv => whnf) | (refine pkT (by first | (simp; done) | fail) ?_; conv => whnf) | (refine And.intro (by first | omega | (simp; done) | (simp; omega) | fail) ?_; conv => whnf) | (refine And.intro (by kernel_rfl) ?_; conv => whnf) | fail)
        rw [show List.take b.length (List.drop 0 Y) = Y by rw [List.drop_zero, ← hYl, List.take_length], h6]
        refine ⟨[0, 1, 2], ?_, rfl, rfl, ?_, rfl⟩
        ·
         (repeat' (fail)) <;> first | rfl | fail
        ·
         (repeat' (first | exact trivial | refine And.intro ?_ ?_ | fail)) <;> first | exact ren_eq (by first | (simp; done) | fail) (by first | rfl | fail) | fail
      ·
       intro e kk he hek hev
       refine sops_end ttOk (by kernel_rfl) ?_
       conv => whnf
       repeat (first | (refine brT rfl ?_; conv => whnf) | fail)
       refine ok1_entry 4 3 hM (left_mem he) hek hev rfl rfl rfl rfl ?_
       have hzk := hz kk
       conv => whnf
       repeat (first | (refine gdF hzk ?_; conv => whnf) | fail)
       refine ⟨seen.push e.born, leftN_lt he, ?_⟩
       refine Weak.sel [0, 1, 2, 3, 4] rfl rfl ?_ ?_ rfl rfl
       ·
        (repeat' (first | exact trivial | refine And.intro ?_ ?_ | fail)) <;> first | rfl | fail
       ·
        (repeat' (first | exact trivial | refine And.intro ?_ ?_ | fail)) <;> first | rfl | exact ren_eq (by first | (simp; done) | fail) (by first | rfl | fail) | fail
theorem f6 (l : List UInt32) (t : List Int) (b : List UInt8) (bit : UInt64) : SCall Try.prog 6 [.sl 0 0 l.length 1 false, .sl 1 0 t.length 1 false, .sl 2 0 b.length 1 false, .u64 bit] [some (.ro (l.map .u32)), some (.ro (t.map .i)), some (.ro (b.map .u8))] (.b true) [some (.ro (l.map .u32)), some (.ro (t.map .i)), some (.ro (b.map .u8))] := by
 by_cases hx : 300 < l.length ∨ 300 < t.length ∨ 3000 < b.length
 ·
  exact f6_x l t b bit hx
 ·
  exact f6_m l t b bit (by omega) (by omega) (by omega)
end Go.Sh
