/- Merged for a claim: B3, B4. -/
import Derived.Test.YtaknbogocnkmnaaBt3
set_option linter.unusedSimpArgs false
set_option linter.unusedVariables false
namespace Go.Sh
open Go.Proofs
set_option maxHeartbeats 4000000
theorem f21 : SCall Try.prog 21 [] [] (.b true) [] := by
 have qn := f35 2
 rw [show (if (0 : Int) > 2 then (0 : Int) else 2) = ((2 : Nat) : Int) from by decide] at qn
 have q1 := f38 [] [1, 2, 3] 0 3 2 2 rfl rfl (by decide) (by decide) (by decide) (by decide) false true
 have q2 := f39 [1, 2] 2 2 rfl false
 have q3 := f36_y [1, 2] 2 2 0 rfl (by decide) (by decide) false
 have q4 := f40_y [2] 1 2 0 rfl (by decide) (by decide) (by decide) (by decide) false
 have q5 := f39 [2, 2] 2 2 rfl false
 have q6 := f40_f [2, 2] 2 2 0 rfl (by decide) (by decide) (by decide) (by decide) false
 refine scall_of ttOk (by kernel_rfl : Try.prog.funcs[21]? = some Try.f21) rfl rfl rfl ?_
 try simp only [List.length_cons, List.length_nil, Nat.zero_add, Nat.reduceAdd]
 refine swxs_ok (J := [2]) ttOk mixed (by kernel_rfl) ?_
 conv => whnf
 repeat (fail)
 refine ok1_callF [] [false] false (qn) rfl rfl ⟨⟨rfl, by first | rfl | fail⟩, trivial, by first | rfl | fail, by first | rfl | fail, ?_⟩
 conv => whnf
 repeat (fail)
 refine SWp.weak (Weak.virtB 0 0 3 1 rfl rfl rfl rfl rfl) ?_
 refine sw_ok ttOk mixed (by kernel_rfl) ?_
 conv => whnf
 repeat (first | (refine Exists.intro _ (And.intro rfl ?_); conv => whnf) | fail)
 refine ok1_callF [0, 1, 2] [false, true, true, true] true (q1) rfl rfl ⟨⟨rfl, by first | rfl | fail⟩, by (repeat' (first | exact trivial | refine And.intro ?_ ?_)) <;> first | rfl | fail, by first | rfl | fail, by first | rfl | fail, ?_⟩
 conv => whnf
 repeat (first | (refine gdT rfl ?_; conv => whnf) | fail)
 refine ok1_callF [0, 3] [false, true] true (q2) rfl rfl ⟨⟨rfl, by first | rfl | fail⟩, by (repeat' (first | exact trivial | refine And.intro ?_ ?_)) <;> first | rfl | fail, by first | rfl | fail, by first | rfl | fail, ?_⟩
 conv => whnf
 repeat (first | (refine brF rfl ?_; conv => whnf) | (refine gdT rfl ?_; conv => whnf) | (refine Exists.intro _ (And.intro rfl ?_); conv => whnf) | fail)
 refine ok1_callF [0, 3] [false, true, true] true (q3) rfl rfl ⟨⟨rfl, by first | rfl | fail⟩, by (repeat' (first | exact trivial | refine And.intro ?_ ?_)) <;> first | rfl | fail, by first | rfl | fail, by first | rfl | fail, ?_⟩
 conv => whnf
 repeat (first | (refine brT rfl ?_; conv => whnf) | (refine Exists.intro _ (And.intro rfl ?_); conv => whnf) | fail)
 refine ok1_callF [0, 4] [false, true, true] true (q4) rfl rfl ⟨⟨rfl, by first | rfl | fail⟩, by (repeat' (first | exact trivial | refine And.intro ?_ ?_)) <;> first | rfl | fail, by first | rfl | fail, by first | rfl | fail, ?_⟩
 conv => whnf
 repeat (first | (refine brT rfl ?_; conv => whnf) | (refine Exists.intro _ (And.intro rfl ?_); conv => whnf) | fail)
 refine ok1_callF [0, 5] [false, true] true (q5) rfl rfl ⟨⟨rfl, by first | rfl | fail⟩, by (repeat' (first | exact trivial | refine And.intro ?_ ?_)) <;> first | rfl | fail, by first | rfl | fail, by first | rfl | fail, ?_⟩
 conv => whnf
 repeat (first | (refine brT rfl ?_; conv => whnf) | (refine Exists.intro _ (And.intro rfl ?_); conv => whnf) | fail)
 refine ok1_callF [0, 5] [false, true, true] true (q6) rfl rfl ⟨⟨rfl, by first | rfl | fail⟩, by (repeat' (first | exact trivial | refine And.intro ?_ ?_)) <;> first | rfl | fail, by first | rfl | fail, by first | rfl | fail, ?_⟩
 conv => whnf
 repeat (first | (refine brT rfl ?_; conv => whnf) | (refine Exists.intro _ (And.intro rfl ?_); conv => whnf) | fail)
 refine ⟨[], ?_, rfl, rfl, ?_, rfl⟩
 ·
  (repeat' (fail)) <;> first | rfl | fail
 ·
  (repeat' (first | exact trivial | fail)) <;> fail
theorem f69 (l : List UInt8) (hn : 0 < l.length) (hl : l.length < 100000000000) (f : Bool) : SCall Try.prog 69 [.sl 0 0 l.length 1 f] [some (.ro (l.map SV.u8))] (.sl 1 0 l.length 1 false) [some (.ro (l.map SV.u8)), some (.row 5 (l.map SV.u8))] := by
 have hap := takeAll (l := l.map SV.u8) (n := l.length) (by simp)
 refine scall_of ttOk (by kernel_rfl : Try.prog.funcs[69]? = some Try.f69) rfl rfl rfl ?_
 try simp only [List.length_cons, List.length_nil, Nat.zero_add, Nat.reduceAdd]
 refine sw_ok ttOk mixed (by kernel_rfl) ?_
 conv => whnf
 repeat (first | (refine brF rfl ?_; conv => whnf) | (refine Exists.intro _ (And.intro rfl ?_); conv => whnf) | (refine And.intro (by first | omega | (simp [ti5]; omega)) ?_; conv => whnf) | (refine And.intro ⟨by first | decide | fail, by first | omega | fail⟩ ?_; conv => whnf) | fail)
 refine ⟨[0, 2], ?_, rfl, rfl, ?_, rfl⟩
 ·
  (repeat' (fail)) <;> first | exact wk_sl rfl (by first | rfl | fail) (by first | omega | fail) | fail
 ·
  (repeat' (first | exact trivial | exact ren_eq (by simp) hap.symm | refine And.intro ?_ ?_ | fail)) <;> first | rfl | exact ren_eq (by first | (simp; done) | fail) (by first | rfl | fail) | fail
theorem mrem_64 {a c : UInt64} (h : c ≠ 0) : sarith .rem (.u64 a) (.u64 c) = some (.u64 (a % c)) := by simp [sarith, h]
def tmk (bit : UInt64) : UInt8 := shl8 (UInt8.ofNat (Int.toNat 1)) (bit % UInt64.ofNat (Int.toNat 8)).toNat
def tix (bit : UInt64) (n : Nat) : Nat := (bit / UInt64.ofNat (Int.toNat 8) % u64i (n : Int)).toNat
def turnB (b : List UInt8) (bit : UInt64) : List UInt8 := b.set (tix bit b.length) (b.getD (tix bit b.length) 0 ^^^ tmk bit)
theorem u64i_nat {n : Nat} (h : n < 1000000) : (u64i (n : Int)).toNat = n := by
 have := u64i_toNat (n : Int)
 omega
theorem u64i_ne {n : Nat} (h0 : 0 < n) (h : n < 1000000) : u64i (n : Int) ≠ 0 := by
 intro e
 have := u64i_nat h
 rw [e] at this
 have h2 : (0 : UInt64).toNat = 0 := rfl
 omega
theorem tix_lt {bit : UInt64} {n : Nat} (h0 : 0 < n) (h : n < 1000000) : tix bit n < n := by
 unfold tix
 rw [UInt64.toNat_mod, u64i_nat h]
 exact Nat.mod_lt _ h0
theorem turnB_len (b : List UInt8) (bit : UInt64) : (turnB b bit).length = b.length := by unfold turnB; simp
theorem f22_z (x y : UInt8) (b : List UInt8) (n : Nat) (hb : b.length = 0) (hn : n = b.length) (bit : UInt64) (f : Bool) : SCall Try.prog 22 [.agg [.u8 x, .u8 y, .sl 0 0 n 1 f], .u64 bit] [some (.ro (b.map .u8))] (.tup [.agg [.u8 x, .u8 y, .sl 0 0 n 1 f], .b false]) [some (.ro (b.map .u8))] := by
 have e1 : ((n : Int) == 0) = true := by rw [hn, hb]; rfl
 refine scall_of ttOk (by kernel_rfl : Try.prog.funcs[22]? = some Try.f22) rfl rfl rfl ?_
 try simp only [List.length_cons, List.length_nil, Nat.zero_add, Nat.reduceAdd]
 refine sw_ok ttOk mixed (by kernel_rfl) ?_
 conv => whnf
 repeat (first | (refine Exists.intro _ (And.intro (sload_all rfl (by first | rfl | fail)) ?_); conv => whnf) | (refine Exists.intro _ (And.intro (sput_all rfl (by first | rfl | fail)) ?_); conv => whnf) | (refine gdT e1 ?_; conv => whnf) | (refine Exists.intro _ (And.intro rfl ?_); conv => whnf) | (refine And.intro (by first | omega | (simp; done) | fail) ?_; conv => whnf) | fail)
 refine ⟨[0], ?_, rfl, rfl, ?_, rfl⟩
 ·
  (repeat' (first | (refine wk_tup ?_) | (refine wk_agg ?_) | (refine wk_cons ?_ ?_))) <;> first | rfl | fail
 ·
  (repeat' (first | exact trivial | refine And.intro ?_ ?_ | fail)) <;> first | exact ren_eq (by first | (simp; done) | fail) (by first | rfl | fail) | fail
theorem f22_nil (x y : UInt8) (bit : UInt64) : SCall Try.prog 22 [.agg [.u8 x, .u8 y, .slnil], .u64 bit] [] (.tup [.agg [.u8 x, .u8 y, .slnil], .b false]) [] := by
 refine scall_of ttOk (by kernel_rfl : Try.prog.funcs[22]? = some Try.f22) rfl rfl rfl ?_
 try simp only [List.length_cons, List.length_nil, Nat.zero_add, Nat.reduceAdd]
 refine sw_ok ttOk mixed (by kernel_rfl) ?_
 conv => whnf
 repeat (first | (refine brT rfl ?_; conv => whnf) | (refine Exists.intro _ (And.intro (sload_all rfl (by first | rfl | fail)) ?_); conv => whnf) | (refine Exists.intro _ (And.intro (sput_all rfl (by first | rfl | fail)) ?_); conv => whnf) | (refine Exists.intro _ (And.intro rfl ?_); conv => whnf) | (refine And.intro (by first | (simp; done) | fail) ?_; conv => whnf) | fail)
 refine ⟨[], ?_, rfl, rfl, ?_, rfl⟩
 ·
  (repeat' (first | (refine wk_tup ?_) | (refine wk_agg ?_) | (refine wk_cons ?_ ?_))) <;> first | rfl | fail
 ·
  (repeat' (first | exact trivial | fail)) <;> fail
theorem f22_y (x y : UInt8) (b : List UInt8) (n : Nat) (hb : 0 < b.length) (hl : b.length < 1000000) (hn : n = b.length) (bit : UInt64) (f : Bool) : SCall Try.prog 22 [.agg [.u8 x, .u8 y, .sl 0 0 n 1 f], .u64 bit] [some (.ro (b.map .u8))] (.tup [.agg [.u8 x, .u8 y, .sl 1 0 n 1 false], .b true]) [some (.ro (b.map .u8)), some (.row 5 ((turnB b bit).map .u8))] := by
 have e1 : ((n : Int) == 0) = false := by rw [beq_eq_false_iff_ne]; omega
 have q := f69 b hb (by omega) f
 rw [← hn] at q
 have hne : u64i (n : Int) ≠ 0 := u64i_ne (by omega) (by omega)
 have hix : tix bit n = (bit / UInt64.ofNat (Int.toNat 8) % u64i (n : Int)).toNat := rfl
 have hlt : tix bit n < n := tix_lt (by omega) (by omega)
 have ht : turnB b bit = b.set (tix bit n) (b.getD (tix bit n) 0 ^^^ tmk bit) := by unfold turnB; rw [hn]
 have hmk : tmk bit = shl8 (UInt8.ofNat (Int.toNat 1)) (bit % UInt64.ofNat (Int.toNat 8)).toNat := rfl
 have hbl : (b.map SV.u8).length = n := by simp [hn]
 rw [ht]
 obtain ⟨i, hi⟩ : ∃ i, i = tix bit n := ⟨_, rfl⟩
 rw [← hi] at hix hlt ⊢
 clear hi ht
 rw [hmk]
 clear hmk
 refine scall_of ttOk (by kernel_rfl : Try.prog.funcs[22]? = some Try.f22) rfl rfl rfl ?_
 try simp only [List.length_cons, List.length_nil, Nat.zero_add, Nat.reduceAdd]
 refine sw_ok ttOk mixed (by kernel_rfl) ?_
 conv => whnf
 repeat (first | (refine gdF e1 ?_; conv => whnf) | (refine Exists.intro _ (And.intro rfl ?_); conv => whnf) | fail)
 refine ok1_callF [0] [true, true] false (q) rfl rfl ⟨⟨rfl, by first | rfl | fail⟩, by (repeat' (first | exact trivial | refine And.intro ?_ ?_)) <;> first | exact ren_eq (by first | (simp; done) | fail) (by first | rfl | fail) | fail, by first | simp [plainHf, plainB], by first | rfl | fail, ?_⟩
 conv => whnf
 repeat (first | (refine Exists.intro _ (And.intro (sload_all rfl (by first | rfl | fail)) ?_); conv => whnf) | (refine Exists.intro _ (And.intro (sput_all rfl (by first | rfl | fail)) ?_); conv => whnf) | (refine Exists.intro _ (And.intro (mrem_64 hne) ?_); conv => whnf) | (refine Exists.intro _ (And.intro (sput_m8 (i := i) (by first | rfl | omega | fail)) ?_); conv => whnf) | (refine Exists.intro _ (And.intro (sload_u8 (i := i) (by first | rfl | omega | fail) (by first | omega | fail)) ?_); conv => whnf) | (refine Exists.intro _ (And.intro rfl ?_); conv => whnf) | (refine And.intro (by first | omega | fail) ?_; conv => whnf) | (refine And.intro ⟨rfl, Nat.le_of_ble_eq_true rfl⟩ ?_; conv => whnf) | (refine And.intro (by kernel_rfl) ?_; conv => whnf) | (refine And.intro ⟨by first | exact @rfl Nat _ | fail, by first | (simp only [hbl, ti5, List.length_map]; omega) | fail⟩ ?_; conv => whnf) | fail)
 refine ⟨[0, 3], ?_, rfl, rfl, ?_, rfl⟩
 ·
  (repeat' (first | (refine wk_tup ?_) | (refine wk_agg ?_) | (refine wk_cons ?_ ?_))) <;> first | rfl | fail
 ·
  (repeat' (first | exact trivial | refine And.intro ?_ ?_ | fail)) <;> first | rfl | exact ren_eq (by first | (simp; done) | fail) (by first | rfl | fail) | exact ren_m8 (by first | rfl | fail) | fail
def mkS : Nat → UInt8
 | 0 => UInt8.ofNat (Int.toNat 1)
 | k + 1 => UInt8.ofNat (Int.toNat 2) * mkS k
theorem mkS_8 : ∀ k, k < 8 → mkS k = shl8 (UInt8.ofNat (Int.toNat 1)) k := by decide
theorem mkS_s (k : Nat) : mkS (k + 1) = UInt8.ofNat (Int.toNat 2) * mkS k := rfl
theorem mkS_z : mkS 0 = UInt8.ofNat (Int.toNat 1) := rfl
theorem at_ne {n : Nat} (h0 : 0 < n) (h : n < 1000000) : UInt64.ofNat (Int.toNat 8) * u64i (n : Int) ≠ 0 := by
 intro e
 have h1 : (UInt64.ofNat (Int.toNat 8) * u64i (n : Int)).toNat = 8 * n := by
  rw [UInt64.toNat_mul, u64i_nat h]
  show 8 * n % 18446744073709551616 = _
  omega
 rw [e] at h1
 have h2 : (0 : UInt64).toNat = 0 := rfl
 omega
theorem at_laws {n : Nat} (h0 : 0 < n) (h : n < 1000000) (bit a : UInt64) (ha : a = bit % (UInt64.ofNat (Int.toNat 8) * u64i (n : Int))) : (a / UInt64.ofNat (Int.toNat 8)).toNat = tix bit n ∧ (a % UInt64.ofNat (Int.toNat 8)).toNat = (bit % UInt64.ofNat (Int.toNat 8)).toNat := by
 have h1 : (UInt64.ofNat (Int.toNat 8) * u64i (n : Int)).toNat = 8 * n := by
  rw [UInt64.toNat_mul, u64i_nat h]
  show 8 * n % 18446744073709551616 = _
  omega
 have h8 : (UInt64.ofNat (Int.toNat 8)).toNat = 8 := rfl
 subst ha
 constructor
 ·
  unfold tix
  rw [UInt64.toNat_div, UInt64.toNat_mod, UInt64.toNat_mod, UInt64.toNat_div, u64i_nat h, h1, h8]
  exact Nat.mod_mul_right_div_self ..
 ·
  rw [UInt64.toNat_mod, UInt64.toNat_mod, UInt64.toNat_mod, h1, h8]
  exact Nat.mod_mul_right_mod ..
theorem f23_z (b : List UInt8) (n : Nat) (hb : b.length = 0) (hn : n = b.length) (bit : UInt64) (f : Bool) : SCall Try.prog 23 [.sl 0 0 n 1 f, .u64 bit] [some (.ro (b.map .u8))] (.tup [.sl 0 0 n 1 f, .b false]) [some (.ro (b.map .u8))] := by
 have e1 : ((n : Int) == 0) = true := by rw [hn, hb]; rfl
 refine scall_of ttOk (by kernel_rfl : Try.prog.funcs[23]? = some Try.f23) rfl rfl rfl ?_
 try simp only [List.length_cons, List.length_nil, Nat.zero_add, Nat.reduceAdd]
 refine sw_ok ttOk mixed (by kernel_rfl) ?_
 conv => whnf
 repeat (first | (refine gdT e1 ?_; conv => whnf) | fail)
 refine ⟨[0], ?_, rfl, rfl, ?_, rfl⟩
 ·
  (repeat' (first | (refine wk_tup ?_) | (refine wk_cons ?_ ?_))) <;> first | rfl | fail
 ·
  (repeat' (first | exact trivial | refine And.intro ?_ ?_ | fail)) <;> first | exact ren_eq (by first | (simp; done) | fail) (by first | rfl | fail) | fail
theorem f23_y (b : List UInt8) (n : Nat) (hb : 0 < b.length) (hl : b.length < 1000000) (hn : n = b.length) (bit : UInt64) (f : Bool) : SCall Try.prog 23 [.sl 0 0 n 1 f, .u64 bit] [some (.ro (b.map .u8))] (.tup [.sl 1 0 n 1 false, .b true]) [some (.ro (b.map .u8)), some (.row 5 ((turnB b bit).map .u8))] := by
 have e1 : ((n : Int) == 0) = false := by rw [beq_eq_false_iff_ne]; omega
 have hne := at_ne (n := n) (by omega) (by omega)
 have hbl : (b.map SV.u8).length = n := by simp [hn]
 have hap := takeAll (l := b.map SV.u8) (n := n) hbl.symm
 obtain ⟨a, ha⟩ : ∃ a, a = bit % (UInt64.ofNat (Int.toNat 8) * u64i (n : Int)) := ⟨_, rfl⟩
 obtain ⟨l1, l2⟩ := at_laws (n := n) (by omega) (by omega) bit a ha
 have ht : turnB b bit = b.set (tix bit n) (b.getD (tix bit n) 0 ^^^ tmk bit) := by unfold turnB; rw [hn]
 have hlt : tix bit n < n := tix_lt (by omega) (by omega)
 have hm : mkS (a % UInt64.ofNat (Int.toNat 8)).toNat = tmk bit := by rw [l2]; exact mkS_8 _ (by rw [UInt64.toNat_mod]; exact Nat.mod_lt _ (by decide))
 have he8 : (a % UInt64.ofNat (Int.toNat 8)).toNat < 8 := by rw [UInt64.toNat_mod]; exact Nat.mod_lt _ (by decide)
 rw [ht, ← hm]
 obtain ⟨i, hi⟩ : ∃ i, i = tix bit n := ⟨_, rfl⟩
 rw [← hi] at l1 hlt ⊢
 obtain ⟨e, hee⟩ : ∃ e, e = (a % UInt64.ofNat (Int.toNat 8)).toNat := ⟨_, rfl⟩
 rw [← hee] at he8 ⊢
 clear hi ht hm l2
 refine scall_of ttOk (by kernel_rfl : Try.prog.funcs[23]? = some Try.f23) rfl rfl rfl ?_
 try simp only [List.length_cons, List.length_nil, Nat.zero_add, Nat.reduceAdd]
 refine sw_ok ttOk mixed (by kernel_rfl) ?_
 conv => whnf
 repeat (first | (refine gdF e1 ?_; conv => whnf) | (refine Exists.intro _ (And.intro rfl ?_); conv => whnf) | (refine And.intro (by first | omega | (simp [ti5]; omega)) ?_; conv => whnf) | fail)
 repeat (first | (refine Exists.intro _ (And.intro (mrem_64 hne) ?_); conv => whnf) | fail)
 rw [← ha]
 refine loop_rule ttOk mixed (by kernel_rfl) (ι := { k : Nat // k ≤ e }) (fun k => [(6, .sl 1 0 n 1 false), (7, .u64 a), (8, .u8 (mkS k.1)), (9, .u64 (UInt64.ofNat k.1))]) (fun k => [some (.ro (b.map .u8)), some (.row 5 (b.map .u8))]) (fun _ => 2) (fun k => e - k.1) ⟨0, by omega⟩ ?_ ?_
 ·
  have hz := mkS_z
  dsimp only
  rw [hz]
  refine Weak.sel [0, 2] rfl rfl ?_ ?_ rfl rfl
  ·
   (repeat' (first | exact trivial | refine And.intro ?_ ?_ | fail)) <;> first | rfl | exact wk_sl rfl (by first | rfl | fail) (by first | omega | fail) | fail
  ·
   (repeat' (first | exact trivial | exact ren_eq (by simp) hap.symm | refine And.intro ?_ ?_ | fail)) <;> first | rfl | exact ren_eq (by first | (simp; done) | fail) (by first | rfl | fail) | fail
 ·
  rintro ⟨k, hk⟩
  dsimp only
  have hkn : (UInt64.ofNat k).toNat = k := by rw [UInt64.toNat_ofNat']; omega
  by_cases hk2 : k < e
  ·
   have hlt2 : decide (UInt64.ofNat k < a % UInt64.ofNat (Int.toNat 8)) = true := by rw [decide_eq_true_iff, UInt64.lt_iff_toNat_lt, hkn, ← hee]; exact hk2
   have hp : UInt64.ofNat k + UInt64.ofNat (Int.toNat 1) = UInt64.ofNat (k + 1) := by
    apply UInt64.toNat.inj
    have hk1n : (UInt64.ofNat (k + 1)).toNat = k + 1 := by rw [UInt64.toNat_ofNat']; omega
    rw [UInt64.toNat_add, hkn, hk1n]
    show (k + 1) % 18446744073709551616 = _
    omega
   have hs := mkS_s k
   conv => whnf
   repeat (first | (refine gdT hlt2 ?_; conv => whnf) | (refine Exists.intro _ (And.intro rfl ?_); conv => whnf) | fail)
   refine ⟨⟨k + 1, by omega⟩, by simp only; omega, ?_⟩
   dsimp only
   rw [hs]
   refine Weak.sel [0, 1] rfl rfl ?_ ?_ rfl rfl
   ·
    (repeat' (first | exact trivial | refine And.intro ?_ ?_ | fail)) <;> first | exact wk_u64 (by first | exact hp | exact hp.symm | fail) | rfl | fail
   ·
    (repeat' (first | exact trivial | refine And.intro ?_ ?_ | fail)) <;> first | rfl | exact ren_eq (by first | (simp; done) | fail) (by first | rfl | fail) | fail
  ·
   obtain rfl : k = e := by omega
   have hlt2 : decide (UInt64.ofNat k < a % UInt64.ofNat (Int.toNat 8)) = false := by rw [decide_eq_false_iff_not, UInt64.lt_iff_toNat_lt, hkn, ← hee]; omega
   conv => whnf
   repeat (first | (refine gdF hlt2 ?_; conv => whnf) | (refine Exists.intro _ (And.intro (sput_m8 (i := i) (by first | rfl | omega | fail)) ?_); conv => whnf) | (refine Exists.intro _ (And.intro (sload_u8 (i := i) (by first | rfl | omega | fail) (by first | omega | fail)) ?_); conv => whnf) | (refine Exists.intro _ (And.intro rfl ?_); conv => whnf) | (refine And.intro (by first | omega | fail) ?_; conv => whnf) | (refine And.intro ⟨by first | exact @rfl Nat _ | fail, by first | (simp only [hbl, ti5, List.length_map]; omega) | fail⟩ ?_; conv => whnf) | fail)
   refine ⟨[0, 1], ?_, rfl, rfl, ?_, rfl⟩
   ·
    (repeat' (first | (refine wk_tup ?_) | (refine wk_cons ?_ ?_))) <;> first | rfl | fail
   ·
    (repeat' (first | exact trivial | refine And.intro ?_ ?_ | fail)) <;> first | rfl | exact ren_eq (by first | (simp; done) | fail) (by first | rfl | fail) | exact ren_m8 (by first | rfl | fail) | fail
end Go.Sh
namespace Go.Sh
open Go.Proofs
set_option maxHeartbeats 4000000
theorem f5_big (x y : UInt8) (b : List UInt8) (bit : UInt64) (hb : 3000 < b.length) : SCall Try.prog 5 [.agg [.u8 x, .u8 y], .sl 0 0 b.length 1 false, .u64 bit] [some (.ro (b.map .u8))] (.b true) [some (.ro (b.map .u8))] := by
 have e1 : decide ((b.length : Int) > 3000) = true := by simp; omega
 refine scall_of ttOk (by kernel_rfl : Try.prog.funcs[5]? = some Try.f5) rfl rfl rfl ?_
 try simp only [List.length_cons, List.length_nil, Nat.zero_add, Nat.reduceAdd]
 refine sw_ok ttOk mixed (by kernel_rfl) ?_
 conv => whnf
 repeat (first | (refine gdT e1 ?_; conv => whnf) | fail)
 refine ok1_callF [] [] true (f21) rfl rfl ⟨⟨rfl, by first | rfl | fail⟩, trivial, by first | rfl | fail, by first | rfl | fail, ?_⟩
 conv => whnf
 repeat (fail)
 refine ⟨[0], ?_, rfl, rfl, ?_, rfl⟩
 ·
  (repeat' (fail)) <;> first | rfl | fail
 ·
  (repeat' (first | exact trivial | refine And.intro ?_ ?_ | fail)) <;> first | exact ren_eq (by first | (simp; done) | fail) (by first | rfl | fail) | fail
theorem eqD (x y : UInt8) : eqcs [.u8 x, .u8 y] [.u8 x, .u8 y] = true := by simp [eqcs, eqc]
attribute [local irreducible] turnB
theorem f5_z (x y : UInt8) (b : List UInt8) (bit : UInt64) (hb : b.length = 0) : SCall Try.prog 5 [.agg [.u8 x, .u8 y], .sl 0 0 b.length 1 false, .u64 bit] [some (.ro (b.map .u8))] (.b true) [some (.ro (b.map .u8))] := by
 have e1 : decide ((b.length : Int) > 3000) = false := by simp; omega
 have q1 := f22_z x y b b.length hb rfl bit false
 have q2 := f23_z b b.length hb rfl bit false
 have hq := eqD x y
 refine scall_of ttOk (by kernel_rfl : Try.prog.funcs[5]? = some Try.f5) rfl rfl rfl ?_
 try simp only [List.length_cons, List.length_nil, Nat.zero_add, Nat.reduceAdd]
 refine sw_ok ttOk mixed (by kernel_rfl) ?_
 conv => whnf
 repeat (first | (refine Exists.intro _ (And.intro bytesOf_all ?_); conv => whnf) | (refine Exists.intro _ (And.intro (sload_all rfl (by first | rfl | fail)) ?_); conv => whnf) | (refine gdF e1 ?_; conv => whnf) | (refine Exists.intro _ (And.intro rfl ?_); conv => whnf) | (refine And.intro (by first | omega | fail) ?_; conv => whnf) | fail)
 refine ok1_callF [0] [true] false (q1) rfl rfl ⟨⟨rfl, by first | rfl | fail⟩, by (repeat' (first | exact trivial | refine And.intro ?_ ?_)) <;> first | exact ren_eq (by first | (simp; done) | fail) (by first | rfl | fail) | fail, by first | simp [plainHf, plainB], by first | rfl | fail, ?_⟩
 conv => whnf
 repeat (first | (refine Exists.intro _ (And.intro (sput_all rfl (by first | rfl | fail)) ?_); conv => whnf) | (refine And.intro (by first | omega | (simp; done) | fail) ?_; conv => whnf) | fail)
 refine ok1_callF [3] [true] false (q2) rfl rfl ⟨⟨rfl, by first | rfl | fail⟩, by (repeat' (first | exact trivial | refine And.intro ?_ ?_)) <;> first | exact ren_eq (by first | (simp; done) | fail) (by first | rfl | fail) | fail, by first | simp [plainHf, plainB], by first | rfl | fail, ?_⟩
 conv => whnf
 repeat (first | (refine Exists.intro _ (And.intro bytesOf_all ?_); conv => whnf) | (refine brT rfl ?_; conv => whnf) | (refine Exists.intro _ (And.intro (sload_all rfl (by first | rfl | fail)) ?_); conv => whnf) | (refine gdT hq ?_; conv => whnf) | (refine pkT hq ?_; conv => whnf) | (refine Exists.intro _ (And.intro rfl ?_); conv => whnf) | (refine gdT (by first | (simp; done) | fail) ?_; conv => whnf) | (refine pkT (by first | (simp; done) | fail) ?_; conv => whnf) | (refine And.intro ⟨rfl, rfl⟩ ?_; conv => whnf) | (refine And.intro (by first | omega | fail) ?_; conv => whnf) | (refine And.intro (by kernel_rfl) ?_; conv => whnf) | fail)
 refine ok1_callF [] [] true (f21) rfl rfl ⟨⟨rfl, by first | rfl | fail⟩, trivial, by first | rfl | fail, by first | rfl | fail, ?_⟩
 conv => whnf
 repeat (first | (refine pkT (by first | (simp; done) | fail) ?_; conv => whnf) | fail)
 refine ⟨[0], ?_, rfl, rfl, ?_, rfl⟩
 ·
  (repeat' (fail)) <;> first | rfl | fail
 ·
  (repeat' (first | exact trivial | refine And.intro ?_ ?_ | fail)) <;> first | exact ren_eq (by first | (simp; done) | fail) (by first | rfl | fail) | fail
theorem f5_y (x y : UInt8) (b : List UInt8) (bit : UInt64) (h0 : 0 < b.length) (hb : b.length ≤ 3000) : SCall Try.prog 5 [.agg [.u8 x, .u8 y], .sl 0 0 b.length 1 false, .u64 bit] [some (.ro (b.map .u8))] (.b true) [some (.ro (b.map .u8))] := by
 have e1 : decide ((b.length : Int) > 3000) = false := by simp; omega
 have q1 := f22_y x y b b.length h0 (by omega) rfl bit false
 have q2 := f23_y b b.length h0 (by omega) rfl bit false
 have hq := eqD x y
 have hl := turnB_len b bit
 obtain ⟨Y, hY⟩ : ∃ Y, Y = turnB b bit := ⟨_, rfl⟩
 rw [← hY] at q1 q2 hl
 clear hY
 refine scall_of ttOk (by kernel_rfl : Try.prog.funcs[5]? = some Try.f5) rfl rfl rfl ?_
 try simp only [List.length_cons, List.length_nil, Nat.zero_add, Nat.reduceAdd]
 refine sw_ok ttOk mixed (by kernel_rfl) ?_
 conv => whnf
 repeat (first | (refine Exists.intro _ (And.intro bytesOf_all ?_); conv => whnf) | (refine Exists.intro _ (And.intro (sload_all rfl (by first | rfl | fail)) ?_); conv => whnf) | (refine gdF e1 ?_; conv => whnf) | (refine Exists.intro _ (And.intro rfl ?_); conv => whnf) | (refine And.intro (by first | omega | (simp; done) | fail) ?_; conv => whnf) | fail)
 refine ok1_callF [0] [true, true] false (q1) rfl rfl ⟨⟨rfl, by first | rfl | fail⟩, by (repeat' (first | exact trivial | refine And.intro ?_ ?_)) <;> first | exact ren_eq (by first | (simp; done) | fail) (by first | rfl | fail) | fail, by first | simp [plainHf, plainB], by first | rfl | fail, ?_⟩
 conv => whnf
 repeat (first | (refine Exists.intro _ (And.intro (sput_all rfl (by first | rfl | fail)) ?_); conv => whnf) | (refine And.intro (by first | omega | (simp; done) | fail) ?_; conv => whnf) | fail)
 refine ok1_callF [4] [true, true] false (q2) rfl rfl ⟨⟨rfl, by first | rfl | fail⟩, by (repeat' (first | exact trivial | refine And.intro ?_ ?_)) <;> first | exact ren_eq (by first | (simp; done) | fail) (by first | rfl | fail) | fail, by first | simp [plainHf, plainB], by first | rfl | fail, ?_⟩
 conv => whnf
 repeat (first | (refine Exists.intro _ (And.intro bytesOf_all ?_); conv => whnf) | (refine Exists.intro _ (And.intro (bytesOf_cut rfl) ?_); conv => whnf) | (refine brT rfl ?_; conv => whnf) | (refine Exists.intro _ (And.intro (sload_all rfl (by first | rfl | fail)) ?_); conv => whnf) | (refine gdT hq ?_; conv => whnf) | (refine pkT hq ?_; conv => whnf) | (refine Exists.intro _ (And.intro rfl ?_); conv => whnf) | (refine gdT (by first | (simp; done) | fail) ?_; conv => whnf) | (refine pkT (by first | (simp; done) | fail) ?_; conv => whnf) | (refine And.intro ⟨rfl, rfl⟩ ?_; conv => whnf) | (refine And.intro (by first | omega | (simp; done) | (simp; omega) | fail) ?_; conv => whnf) | (refine And.intro (by kernel_rfl) ?_; conv => whnf) | fail)
 refine ok1_callF [] [] true (f21) rfl rfl ⟨⟨rfl, by first | rfl | fail⟩, trivial, by first | rfl | fail, by first | rfl | fail, ?_⟩
 conv => whnf
 repeat (first | (refine pkT (by first | (simp; done) | fail) ?_; conv => whnf) | fail)
 refine ⟨[0], ?_, rfl, rfl, ?_, rfl⟩
 ·
  (repeat' (fail)) <;> first | rfl | fail
 ·
  (repeat' (first | exact trivial | refine And.intro ?_ ?_ | fail)) <;> first | exact ren_eq (by first | (simp; done) | fail) (by first | rfl | fail) | fail
theorem f5 (d b : List UInt8) (bit : UInt64) (hd : d.length = 2) : SCall Try.prog 5 [.agg (d.map .u8), .sl 0 0 b.length 1 false, .u64 bit] [some (.ro (b.map .u8))] (.b true) [some (.ro (b.map .u8))] := by
 match d, hd with
 | [x, y], _ =>
  by_cases h1 : 3000 < b.length
  ·
   exact f5_big x y b bit h1
  ·
   by_cases h0 : b.length = 0
   ·
    exact f5_z x y b bit h0
   ·
    exact f5_y x y b bit (by omega) (by omega)
end Go.Sh
