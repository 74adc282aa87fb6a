/- Merged for a claim: U1, U2, U3, V4, U3r, R12, V6, V5, V9. -/
import Derived.Test.YtannakicfkjhbaaMt5
set_option linter.unusedSimpArgs false
set_option linter.unusedVariables false
namespace Go.Sh
open Go.Proofs
set_option maxHeartbeats 4000000
def infoV (h a b c d : Int) : Value := .agg #[.int .u8 h, .int .i64 a, .int .i64 b, .int .i64 c, .int .i64 d]
def suitesO : Obj := .map #[⟨.int .u16 1, infoV 1 48 16 10 32, 0⟩, ⟨.int .u16 2, infoV 1 48 16 8 32, 1⟩, ⟨.int .u16 3, infoV 1 48 16 4 32, 2⟩, ⟨.int .u16 4, infoV 1 16 16 16 32, 3⟩, ⟨.int .u16 5, infoV 2 32 32 16 64, 4⟩] 5
def infoS (h : UInt8) (a b c d : Int) : SV := .agg [.u8 h, .i a, .i b, .i c, .i d]
theorem f114 : SCall Try.prog 114 [] [] (.mp 0) [some (.ext (.lit suitesO))] := by
 refine scall_of ttOk (by kernel_rfl : Try.prog.funcs[114]? = some Try.f114) rfl rfl rfl ?_
 try simp only [List.length_cons, List.length_nil, Nat.zero_add, Nat.reduceAdd]
 refine sw_ok ttOk mixed (by kernel_rfl) ?_
 conv => whnf
 repeat (fail)
 refine ok1_makeMap rfl ?_
 conv => whnf
 repeat (first | (refine Exists.intro _ (And.intro rfl ?_); conv => whnf) | fail)
 refine ok1_insert 0 (.int .u16 1) (infoV 1 48 16 10 32) rfl (.inl rfl) (by kernel_rfl : Try.prog.underlying 176 = some (.map 98 100)) (by kernel_rfl : Try.prog.underlying 98 = some (.int .u16)) rfl rfl rfl rfl rfl rfl rfl rfl ?_
 conv => whnf
 repeat (first | (refine Exists.intro _ (And.intro rfl ?_); conv => whnf) | fail)
 refine ok1_insert 0 (.int .u16 2) (infoV 1 48 16 8 32) rfl (.inl rfl) (by kernel_rfl : Try.prog.underlying 176 = some (.map 98 100)) (by kernel_rfl : Try.prog.underlying 98 = some (.int .u16)) rfl rfl rfl rfl rfl rfl rfl rfl ?_
 conv => whnf
 repeat (first | (refine Exists.intro _ (And.intro rfl ?_); conv => whnf) | fail)
 refine ok1_insert 0 (.int .u16 3) (infoV 1 48 16 4 32) rfl (.inl rfl) (by kernel_rfl : Try.prog.underlying 176 = some (.map 98 100)) (by kernel_rfl : Try.prog.underlying 98 = some (.int .u16)) rfl rfl rfl rfl rfl rfl rfl rfl ?_
 conv => whnf
 repeat (first | (refine Exists.intro _ (And.intro rfl ?_); conv => whnf) | fail)
 refine ok1_insert 0 (.int .u16 4) (infoV 1 16 16 16 32) rfl (.inl rfl) (by kernel_rfl : Try.prog.underlying 176 = some (.map 98 100)) (by kernel_rfl : Try.prog.underlying 98 = some (.int .u16)) rfl rfl rfl rfl rfl rfl rfl rfl ?_
 conv => whnf
 repeat (first | (refine Exists.intro _ (And.intro rfl ?_); conv => whnf) | fail)
 refine ok1_insert 0 (.int .u16 5) (infoV 2 32 32 16 64) rfl (.inl rfl) (by kernel_rfl : Try.prog.underlying 176 = some (.map 98 100)) (by kernel_rfl : Try.prog.underlying 98 = some (.int .u16)) rfl rfl rfl rfl rfl rfl rfl rfl ?_
 conv => whnf
 repeat (fail)
 refine ⟨[0], ?_, rfl, rfl, ?_, rfl⟩
 ·
  (repeat' (fail)) <;> first | rfl | fail
 ·
  (repeat' (first | exact trivial | refine And.intro ?_ ?_ | fail)) <;> first | rfl | fail
theorem f66_1 : SCall Try.prog 66 [.u16 1] [] (.tup [infoS 1 48 16 10 32, .i 0]) [] := by
 refine scall_of ttOk (by kernel_rfl : Try.prog.funcs[66]? = some Try.f66) rfl rfl rfl ?_
 try simp only [List.length_cons, List.length_nil, Nat.zero_add, Nat.reduceAdd]
 refine sw_ok ttOk mixed (by kernel_rfl) ?_
 conv => whnf
 repeat (fail)
 refine ok1_callF [] [true] false (f114) rfl rfl ⟨⟨rfl, by first | rfl | fail⟩, trivial, by first | rfl | fail, by first | rfl | fail, ?_⟩
 conv => whnf
 repeat (fail)
 refine ok1_lookup 1 0 (.int .u16 1) (infoV 1 48 16 10 32) (infoS 1 48 16 10 32) rfl (by kernel_rfl : Try.prog.underlying 176 = some (.map 98 100)) (by kernel_rfl : Try.prog.underlying 98 = some (.int .u16)) rfl rfl rfl rfl rfl rfl rfl ?_
 conv => whnf
 repeat (first | (refine brT rfl ?_; conv => whnf) | (refine Exists.intro _ (And.intro (sload_all rfl (by first | rfl | fail)) ?_); conv => whnf) | (refine Exists.intro _ (And.intro (sput_all rfl (by first | rfl | fail)) ?_); conv => whnf) | (refine And.intro (by first | (simp; done) | fail) ?_; conv => whnf) | (refine And.intro ⟨rfl, Nat.le_of_ble_eq_true rfl⟩ ?_; conv => whnf) | fail)
 refine ⟨[], ?_, rfl, rfl, ?_, rfl⟩
 ·
  (repeat' (first | (refine wk_tup ?_) | (refine wk_agg ?_) | (refine wk_cons ?_ ?_))) <;> first | rfl | fail
 ·
  (repeat' (first | exact trivial | fail)) <;> fail
theorem f66_2 : SCall Try.prog 66 [.u16 2] [] (.tup [infoS 1 48 16 8 32, .i 0]) [] := by
 refine scall_of ttOk (by kernel_rfl : Try.prog.funcs[66]? = some Try.f66) rfl rfl rfl ?_
 try simp only [List.length_cons, List.length_nil, Nat.zero_add, Nat.reduceAdd]
 refine sw_ok ttOk mixed (by kernel_rfl) ?_
 conv => whnf
 repeat (fail)
 refine ok1_callF [] [true] false (f114) rfl rfl ⟨⟨rfl, by first | rfl | fail⟩, trivial, by first | rfl | fail, by first | rfl | fail, ?_⟩
 conv => whnf
 repeat (fail)
 refine ok1_lookup 1 1 (.int .u16 2) (infoV 1 48 16 8 32) (infoS 1 48 16 8 32) rfl (by kernel_rfl : Try.prog.underlying 176 = some (.map 98 100)) (by kernel_rfl : Try.prog.underlying 98 = some (.int .u16)) rfl rfl rfl rfl rfl rfl rfl ?_
 conv => whnf
 repeat (first | (refine brT rfl ?_; conv => whnf) | (refine Exists.intro _ (And.intro (sload_all rfl (by first | rfl | fail)) ?_); conv => whnf) | (refine Exists.intro _ (And.intro (sput_all rfl (by first | rfl | fail)) ?_); conv => whnf) | (refine And.intro (by first | (simp; done) | fail) ?_; conv => whnf) | (refine And.intro ⟨rfl, Nat.le_of_ble_eq_true rfl⟩ ?_; conv => whnf) | fail)
 refine ⟨[], ?_, rfl, rfl, ?_, rfl⟩
 ·
  (repeat' (first | (refine wk_tup ?_) | (refine wk_agg ?_) | (refine wk_cons ?_ ?_))) <;> first | rfl | fail
 ·
  (repeat' (first | exact trivial | fail)) <;> fail
theorem f66_3 : SCall Try.prog 66 [.u16 3] [] (.tup [infoS 1 48 16 4 32, .i 0]) [] := by
 refine scall_of ttOk (by kernel_rfl : Try.prog.funcs[66]? = some Try.f66) rfl rfl rfl ?_
 try simp only [List.length_cons, List.length_nil, Nat.zero_add, Nat.reduceAdd]
 refine sw_ok ttOk mixed (by kernel_rfl) ?_
 conv => whnf
 repeat (fail)
 refine ok1_callF [] [true] false (f114) rfl rfl ⟨⟨rfl, by first | rfl | fail⟩, trivial, by first | rfl | fail, by first | rfl | fail, ?_⟩
 conv => whnf
 repeat (fail)
 refine ok1_lookup 1 2 (.int .u16 3) (infoV 1 48 16 4 32) (infoS 1 48 16 4 32) rfl (by kernel_rfl : Try.prog.underlying 176 = some (.map 98 100)) (by kernel_rfl : Try.prog.underlying 98 = some (.int .u16)) rfl rfl rfl rfl rfl rfl rfl ?_
 conv => whnf
 repeat (first | (refine brT rfl ?_; conv => whnf) | (refine Exists.intro _ (And.intro (sload_all rfl (by first | rfl | fail)) ?_); conv => whnf) | (refine Exists.intro _ (And.intro (sput_all rfl (by first | rfl | fail)) ?_); conv => whnf) | (refine And.intro (by first | (simp; done) | fail) ?_; conv => whnf) | (refine And.intro ⟨rfl, Nat.le_of_ble_eq_true rfl⟩ ?_; conv => whnf) | fail)
 refine ⟨[], ?_, rfl, rfl, ?_, rfl⟩
 ·
  (repeat' (first | (refine wk_tup ?_) | (refine wk_agg ?_) | (refine wk_cons ?_ ?_))) <;> first | rfl | fail
 ·
  (repeat' (first | exact trivial | fail)) <;> fail
theorem f66_4 : SCall Try.prog 66 [.u16 4] [] (.tup [infoS 1 16 16 16 32, .i 0]) [] := by
 refine scall_of ttOk (by kernel_rfl : Try.prog.funcs[66]? = some Try.f66) rfl rfl rfl ?_
 try simp only [List.length_cons, List.length_nil, Nat.zero_add, Nat.reduceAdd]
 refine sw_ok ttOk mixed (by kernel_rfl) ?_
 conv => whnf
 repeat (fail)
 refine ok1_callF [] [true] false (f114) rfl rfl ⟨⟨rfl, by first | rfl | fail⟩, trivial, by first | rfl | fail, by first | rfl | fail, ?_⟩
 conv => whnf
 repeat (fail)
 refine ok1_lookup 1 3 (.int .u16 4) (infoV 1 16 16 16 32) (infoS 1 16 16 16 32) rfl (by kernel_rfl : Try.prog.underlying 176 = some (.map 98 100)) (by kernel_rfl : Try.prog.underlying 98 = some (.int .u16)) rfl rfl rfl rfl rfl rfl rfl ?_
 conv => whnf
 repeat (first | (refine brT rfl ?_; conv => whnf) | (refine Exists.intro _ (And.intro (sload_all rfl (by first | rfl | fail)) ?_); conv => whnf) | (refine Exists.intro _ (And.intro (sput_all rfl (by first | rfl | fail)) ?_); conv => whnf) | (refine And.intro (by first | (simp; done) | fail) ?_; conv => whnf) | (refine And.intro ⟨rfl, Nat.le_of_ble_eq_true rfl⟩ ?_; conv => whnf) | fail)
 refine ⟨[], ?_, rfl, rfl, ?_, rfl⟩
 ·
  (repeat' (first | (refine wk_tup ?_) | (refine wk_agg ?_) | (refine wk_cons ?_ ?_))) <;> first | rfl | fail
 ·
  (repeat' (first | exact trivial | fail)) <;> fail
theorem f66_5 : SCall Try.prog 66 [.u16 5] [] (.tup [infoS 2 32 32 16 64, .i 0]) [] := by
 refine scall_of ttOk (by kernel_rfl : Try.prog.funcs[66]? = some Try.f66) rfl rfl rfl ?_
 try simp only [List.length_cons, List.length_nil, Nat.zero_add, Nat.reduceAdd]
 refine sw_ok ttOk mixed (by kernel_rfl) ?_
 conv => whnf
 repeat (fail)
 refine ok1_callF [] [true] false (f114) rfl rfl ⟨⟨rfl, by first | rfl | fail⟩, trivial, by first | rfl | fail, by first | rfl | fail, ?_⟩
 conv => whnf
 repeat (fail)
 refine ok1_lookup 1 4 (.int .u16 5) (infoV 2 32 32 16 64) (infoS 2 32 32 16 64) rfl (by kernel_rfl : Try.prog.underlying 176 = some (.map 98 100)) (by kernel_rfl : Try.prog.underlying 98 = some (.int .u16)) rfl rfl rfl rfl rfl rfl rfl ?_
 conv => whnf
 repeat (first | (refine brT rfl ?_; conv => whnf) | (refine Exists.intro _ (And.intro (sload_all rfl (by first | rfl | fail)) ?_); conv => whnf) | (refine Exists.intro _ (And.intro (sput_all rfl (by first | rfl | fail)) ?_); conv => whnf) | (refine And.intro (by first | (simp; done) | fail) ?_; conv => whnf) | (refine And.intro ⟨rfl, Nat.le_of_ble_eq_true rfl⟩ ?_; conv => whnf) | fail)
 refine ⟨[], ?_, rfl, rfl, ?_, rfl⟩
 ·
  (repeat' (first | (refine wk_tup ?_) | (refine wk_agg ?_) | (refine wk_cons ?_ ?_))) <;> first | rfl | fail
 ·
  (repeat' (first | exact trivial | fail)) <;> fail
theorem find_no (n : UInt16) (h : n = 0 ∨ 5 < n.toNat) : Instr.findNow (.int .u16) (.int .u16 (n.toNat : Int)) [⟨.int .u16 1, infoV 1 48 16 10 32, 0⟩, ⟨.int .u16 2, infoV 1 48 16 8 32, 1⟩, ⟨.int .u16 3, infoV 1 48 16 4 32, 2⟩, ⟨.int .u16 4, infoV 1 16 16 16 32, 3⟩, ⟨.int .u16 5, infoV 2 32 32 16 64, 4⟩] 0 = some none := by
 have h2 : n.toNat = 0 ∨ 5 < n.toNat := h.imp (fun e => by rw [e]; rfl) id
 have e : ∀ k : Int, 1 ≤ k → k ≤ 5 → ((n.toNat : Int) == k) = false := fun k h1 h3 => by rw [beq_eq_false_iff_ne]; omega
 simp only [Instr.findNow, Instr.sameNow, if_true, e 1 (by decide) (by decide), e 2 (by decide) (by decide), e 3 (by decide) (by decide), e 4 (by decide) (by decide), e 5 (by decide) (by decide)]
theorem f66_o (n : UInt16) (h : n = 0 ∨ 5 < n.toNat) : SCall Try.prog 66 [.u16 n] [] (.tup [infoS 0 0 0 0 0, .i 130]) [] := by
 have hf := find_no n h
 refine scall_of ttOk (by kernel_rfl : Try.prog.funcs[66]? = some Try.f66) rfl rfl rfl ?_
 try simp only [List.length_cons, List.length_nil, Nat.zero_add, Nat.reduceAdd]
 refine sw_ok ttOk mixed (by kernel_rfl) ?_
 conv => whnf
 repeat (fail)
 refine ok1_callF [] [true] false (f114) rfl rfl ⟨⟨rfl, by first | rfl | fail⟩, trivial, by first | rfl | fail, by first | rfl | fail, ?_⟩
 conv => whnf
 repeat (fail)
 refine ok1_lookup_none 1 (.int .u16 (n.toNat : Int)) (infoS 0 0 0 0 0) rfl (by kernel_rfl : Try.prog.underlying 176 = some (.map 98 100)) (by kernel_rfl : Try.prog.underlying 98 = some (.int .u16)) rfl rfl rfl rfl rfl hf (by kernel_rfl) ?_
 conv => whnf
 repeat (first | (refine brF rfl ?_; conv => whnf) | (refine Exists.intro _ (And.intro (sload_all rfl (by first | rfl | fail)) ?_); conv => whnf) | (refine Exists.intro _ (And.intro (sput_all rfl (by first | rfl | fail)) ?_); conv => whnf) | (refine Exists.intro _ (And.intro rfl ?_); conv => whnf) | (refine And.intro (by first | omega | (simp; done) | fail) ?_; conv => whnf) | (refine And.intro ⟨rfl, Nat.le_of_ble_eq_true rfl⟩ ?_; conv => whnf) | fail)
 refine ⟨[], ?_, rfl, rfl, ?_, rfl⟩
 ·
  (repeat' (first | (refine wk_tup ?_) | (refine wk_agg ?_) | (refine wk_cons ?_ ?_))) <;> first | rfl | fail
 ·
  (repeat' (first | exact trivial | fail)) <;> fail
end Go.Sh
namespace Go.Sh
open Go.Proofs
set_option maxHeartbeats 4000000
def byS (k : UInt64) (m : Nat) : UInt8 := (shr64 k (8 * m)).toUInt8
def dvN (k : UInt64) : Nat → UInt64
 | 0 => k
 | m + 1 => dvN k m / 256
theorem dvN_n (k : UInt64) : ∀ m, (dvN k m).toNat = k.toNat / 256 ^ m
 | 0 => by show k.toNat = _; simp
 | m + 1 => by
  show (dvN k m / 256).toNat = _
  rw [UInt64.toNat_div, dvN_n k m]
  show k.toNat / 256 ^ m / 256 = _
  rw [Nat.div_div_eq_div_mul, Nat.pow_succ]
theorem byS_d (k : UInt64) (m : Nat) (hm : m < 8) : (dvN k m % 256).toUInt8 = byS k m := by
 unfold byS
 apply UInt8.toNat.inj
 rw [UInt64.toNat_toUInt8, UInt64.toNat_toUInt8, UInt64.toNat_mod, dvN_n]
 unfold shr64
 rw [if_pos (by omega), UInt64.toNat_shiftRight, UInt64.toNat_ofNat']
 have e : 8 * m % 2 ^ 64 % 64 = 8 * m := by omega
 rw [e, Nat.shiftRight_eq_div_pow]
 have h2 : (2 : Nat) ^ (8 * m) = 256 ^ m := by rw [Nat.pow_mul]
 rw [h2]
 show k.toNat / 256 ^ m % 256 % 256 = k.toNat / 256 ^ m % 256
 omega
theorem byS_z (k : UInt64) (m : Nat) (hm : 8 ≤ m) : (dvN k m % 256).toUInt8 = 0 := by
 apply UInt8.toNat.inj
 rw [UInt64.toNat_toUInt8, UInt64.toNat_mod, dvN_n]
 have h1 : k.toNat < 256 ^ 8 := k.toNat_lt
 have h2 : (256 : Nat) ^ 8 ≤ 256 ^ m := Nat.pow_le_pow_right (by decide) hm
 rw [Nat.div_eq_of_lt (by omega)]; rfl
def beL (k : UInt64) : Nat → List UInt8
 | 0 => []
 | m + 1 => beL k m ++ [byS k (7 - m)]
theorem beL_len (k : UInt64) : ∀ m, (beL k m).length = m
 | 0 => rfl
 | m + 1 => by show (beL k m ++ [_]).length = _; rw [List.length_append, beL_len k m]; rfl
def s16 (s : UInt16) : List UInt8 := [(shr16 s 8).toUInt8, s.toUInt8]
def infoL (t : List UInt8) (k : UInt64) (s : UInt16) : List UInt8 := t ++ beL k 8 ++ s16 s
theorem infoL_len (t : List UInt8) (k : UInt64) (s : UInt16) : (infoL t k s).length = t.length + 10 := by
 unfold infoL s16; rw [List.length_append, List.length_append, beL_len]; rfl
theorem beL_s (k : UInt64) (m : Nat) : beL k (m + 1) = beL k m ++ [byS k (7 - m)] := rfl
theorem rcat8y {E b : List UInt8} {n m : Nat} (hn : n = E.length) (hm : m = b.length) : (E ++ b).map SV.u8 = List.take (n * 1) (List.drop 0 (E.map SV.u8)) ++ List.take (m * 1) (List.drop 0 (b.map SV.u8)) := by
 subst hn; subst hm
 rw [Nat.mul_one, Nat.mul_one, List.drop_zero, List.drop_zero, List.take_of_length_le (l := b.map SV.u8) (by rw [List.length_map]; exact Nat.le_refl _), List.take_of_length_le (l := E.map SV.u8) (by rw [List.length_map]; exact Nat.le_refl _), List.map_append]
theorem s16_d (s : UInt16) : [(s / 256).toUInt8, (s % 256).toUInt8] = s16 s := by
 unfold s16
 have e1 : (s / 256).toUInt8 = (shr16 s 8).toUInt8 := by
  apply UInt8.toNat.inj
  rw [UInt16.toNat_toUInt8, UInt16.toNat_toUInt8, UInt16.toNat_div]
  unfold shr16
  rw [if_pos (by decide), UInt16.toNat_shiftRight, Nat.shiftRight_eq_div_pow]; rfl
 have e2 : (s % 256).toUInt8 = s.toUInt8 := by
  apply UInt8.toNat.inj
  rw [UInt16.toNat_toUInt8, UInt16.toNat_toUInt8, UInt16.toNat_mod]
  show s.toNat % 256 % 256 = s.toNat % 256
  omega
 rw [e1, e2]
theorem shrU {a : UInt64} {n : Int} {m : Nat} (h : n = (m : Int)) : snum .shr (.u64 a) (.i n) = some (.u64 (shr64 a m)) := by
 subst h; simp [snum, cnt, sshr]
section
attribute [local irreducible] beL
theorem f116 (t : List UInt8) (ht : t.length < 1000) (k : UInt64) (s : UInt16) : SCall Try.prog 116 [.s t, .u64 k, .u16 s] [] (.sl 0 0 (t.length + 10) 1 false) [some (.row 5 ((infoL t k s).map .u8))] := by
 refine scall_of ttOk (by kernel_rfl : Try.prog.funcs[116]? = some Try.f116) rfl rfl rfl ?_
 try simp only [List.length_cons, List.length_nil, Nat.zero_add, Nat.reduceAdd]
 refine sw_ok ttOk mixed (by kernel_rfl) ?_
 conv => whnf
 repeat (fail)
 refine loop_rule ttOk mixed (by kernel_rfl) (ι := { m : Nat // m ≤ 8 }) (fun m => [(1, .u64 k), (2, .u16 s), (7, .sl 0 0 (t.length + m.1) 1 false), (8, .i (7 - (m.1 : Int)))]) (fun m => [some (.row 5 ((t ++ beL k m.1).map .u8))]) (fun _ => 1) (fun m => 8 - m.1) ⟨0, by omega⟩ ?_ ?_
 ·
  have hz : t ++ beL k 0 = t := by rw [show beL k 0 = [] by unfold beL; rfl, List.append_nil]
  dsimp only
  rw [hz]
  refine Weak.sel [0] rfl rfl ?_ ?_ rfl rfl
  ·
   (repeat' (first | exact trivial | refine And.intro ?_ ?_ | fail)) <;> first | rfl | fail
  ·
   (repeat' (first | exact trivial | refine And.intro ?_ ?_ | fail)) <;> first | rfl | exact ren_eq (by first | (simp; done) | fail) (by first | rfl | fail) | fail
 ·
  rintro ⟨m, hm⟩
  dsimp only
  have hl := beL_len k m
  have hs := beL_s k m
  obtain ⟨Y, hY⟩ : ∃ Y, Y = t ++ beL k m := ⟨_, rfl⟩
  have hYl : Y.length = t.length + m := by rw [hY, List.length_append, hl]
  by_cases hm2 : m < 8
  ·
   have hge : decide ((7 - (m : Int)) ≥ 0) = true := by simp; omega
   have h8 : w64 (8 * (7 - (m : Int))) = ((8 * (7 - m) : Nat) : Int) := by simp only [w64_eq]; omega
   have hp : w64 (7 - (m : Int) - 1) = 7 - ((m + 1 : Nat) : Int) := by simp only [w64_eq]; omega
   have hYs : t ++ beL k (m + 1) = Y ++ [byS k (7 - m)] := by rw [hs, hY, List.append_assoc]
   have hap := rcat8y (E := Y) (b := [byS k (7 - m)]) (n := t.length + m) (m := 1) hYl.symm rfl
   have hp2 : t.length + m + 1 = t.length + (m + 1) := by omega
   rw [← hY]
   conv => whnf
   first | refine brT (by exact hge) ?_ | fail
   conv => whnf
   repeat (first | (refine Exists.intro _ (And.intro (shrU h8) ?_); conv => whnf) | (refine Exists.intro _ (And.intro rfl ?_); conv => whnf) | (refine And.intro (by first | omega | (simp [ti5]; omega)) ?_; conv => whnf) | fail)
   refine ⟨⟨m + 1, by omega⟩, by simp only; omega, ?_⟩
   dsimp only
   rw [hYs]
   refine Weak.sel [2] rfl rfl ?_ ?_ rfl rfl
   ·
    (repeat' (first | exact trivial | refine And.intro ?_ ?_ | fail)) <;> first | exact wk_i (by first | exact hp | exact hp.symm | fail) | rfl | fail
   ·
    (repeat' (first | exact trivial | exact ren_eq (plainL_u8 _) hap | refine And.intro ?_ ?_ | fail)) <;> first | rfl | fail
  ·
   obtain rfl : m = 8 := by omega
   have hge : decide ((7 - ((8 : Nat) : Int)) ≥ 0) = false := by decide
   have hap := rcat8y (E := Y) (b := s16 s) (n := t.length + 8) (m := 2) hYl.symm rfl
   have hI : infoL t k s = Y ++ s16 s := by unfold infoL; rw [hY]
   rw [← hY, hI]
   conv => whnf
   first | refine brF (by exact hge) ?_ | fail
   conv => whnf
   repeat (first | (refine Exists.intro _ (And.intro rfl ?_); conv => whnf) | (refine And.intro (by first | omega | (simp [ti5]; omega)) ?_; conv => whnf) | fail)
   refine ⟨[2], ?_, rfl, rfl, ?_, rfl⟩
   ·
    (repeat' (fail)) <;> first | rfl | fail
   ·
    (repeat' (first | exact trivial | exact ren_eq (plainL_u8 _) hap | refine And.intro ?_ ?_ | fail)) <;> first | rfl | fail
end
theorem f118 (t : List UInt8) (ht : t.length < 1000) (k : UInt64) (s : UInt16) : SCall Try.prog 118 [.s t, .u64 k, .u16 s] [] (.sl 0 0 (t.length + 10) 1 false) [some (.row 5 ((infoL t k s).map .u8))] := by
 have hD : [(dvN k 7 % 256).toUInt8, (dvN k 6 % 256).toUInt8, (dvN k 5 % 256).toUInt8, (dvN k 4 % 256).toUInt8, (dvN k 3 % 256).toUInt8, (dvN k 2 % 256).toUInt8, (dvN k 1 % 256).toUInt8, (dvN k 0 % 256).toUInt8] = beL k 8 := by
  rw [byS_d k 7 (by decide), byS_d k 6 (by decide), byS_d k 5 (by decide), byS_d k 4 (by decide), byS_d k 3 (by decide), byS_d k 2 (by decide), byS_d k 1 (by decide), byS_d k 0 (by decide)]; rfl
 have hS : [(s / 256).toUInt8, (s % 256).toUInt8] = s16 s := s16_d s
 have hap : (infoL t k s).map SV.u8 = List.take ((t.length + 8) * 1) (List.drop 0 (List.take (t.length * 1) (List.drop 0 (t.map SV.u8)) ++ List.take (8 * 1) (List.drop 0 ([(dvN k 7 % 256).toUInt8, (dvN k 6 % 256).toUInt8, (dvN k 5 % 256).toUInt8, (dvN k 4 % 256).toUInt8, (dvN k 3 % 256).toUInt8, (dvN k 2 % 256).toUInt8, (dvN k 1 % 256).toUInt8, (dvN k 0 % 256).toUInt8].map SV.u8)))) ++ List.take (2 * 1) (List.drop 0 ([(s / 256).toUInt8, (s % 256).toUInt8].map SV.u8)) := by
  rw [hD, hS, ← rcat8y (E := t) (b := beL k 8) rfl (beL_len k 8).symm, ← rcat8y (E := t ++ beL k 8) (b := s16 s) (m := 2) (by rw [List.length_append, beL_len]) rfl]; rfl
 have hlt : (t.length + 8 + 2) = t.length + 10 := rfl
 refine scall_of ttOk (by kernel_rfl : Try.prog.funcs[118]? = some Try.f118) rfl rfl rfl ?_
 try simp only [List.length_cons, List.length_nil, Nat.zero_add, Nat.reduceAdd]
 refine sw_ok ttOk mixed (by kernel_rfl) ?_
 conv => whnf
 repeat (first | (refine And.intro ⟨by first | omega | fail, by first | decide | fail⟩ ?_; conv => whnf) | fail)
 refine loop_rounds ttOk mixed (by kernel_rfl) 9 ?_
 conv => whnf
 repeat (first | (refine brT rfl ?_; conv => whnf) | (refine brF rfl ?_; conv => whnf) | (refine Exists.intro _ (And.intro rfl ?_); conv => whnf) | (refine And.intro (by first | omega | (simp; done) | (simp [ti5]; omega)) ?_; conv => whnf) | (refine And.intro (Nat.le_of_ble_eq_true rfl) ?_; conv => whnf) | (refine And.intro ⟨rfl, Nat.le_of_ble_eq_true rfl⟩ ?_; conv => whnf) | fail)
 refine ⟨[4], ?_, rfl, rfl, ?_, rfl⟩
 ·
  (repeat' (fail)) <;> first | rfl | fail
 ·
  (repeat' (first | exact trivial | exact ren_eq (plainL_u8 _) hap | refine And.intro ?_ ?_ | fail)) <;> first | rfl | fail
end Go.Sh
namespace Go.Sh
open Go.Proofs
set_option maxHeartbeats 4000000
def nonL (S : List UInt8) (c : UInt64) : List UInt8 := [S.getD 0 0, S.getD 1 0, S.getD 2 0, S.getD 3 0, S.getD 4 0 ^^^ byS c 7, S.getD 5 0 ^^^ byS c 6, S.getD 6 0 ^^^ byS c 5, S.getD 7 0 ^^^ byS c 4, S.getD 8 0 ^^^ byS c 3, S.getD 9 0 ^^^ byS c 2, S.getD 10 0 ^^^ byS c 1, S.getD 11 0 ^^^ byS c 0]
theorem ex12 {l : List UInt8} (h : l.length = 12) : ∃ a b c d e f g i j k m n, l = [a, b, c, d, e, f, g, i, j, k, m, n] := by
 match l, h with
 | [a, b, c, d, e, f, g, i, j, k, m, n], _ => exact ⟨a, b, c, d, e, f, g, i, j, k, m, n, rfl⟩
theorem f70_z (s : UInt16) (kid c : UInt64) (S : List UInt8) (hS : S.length = 12) : SCall Try.prog 70 [.agg (.u16 s :: .u64 kid :: .slnil :: S.map .u8), .u64 c] [] (.agg ((nonL S c).map .u8)) [] := by
 obtain ⟨a0, a1, a2, a3, a4, a5, a6, a7, a8, a9, a10, a11, rfl⟩ := ex12 hS
 refine scall_of ttOk (by kernel_rfl : Try.prog.funcs[70]? = some Try.f70) rfl rfl rfl ?_
 try simp only [List.length_cons, List.length_nil, Nat.zero_add, Nat.reduceAdd]
 refine sw_ok ttOk mixed (by kernel_rfl) ?_
 conv => whnf
 repeat (first | (refine Exists.intro _ (And.intro (sput_all rfl (by first | rfl | fail)) ?_); conv => whnf) | (refine Exists.intro _ (And.intro rfl ?_); conv => whnf) | (refine And.intro (by first | omega | (simp; done) | fail) ?_; conv => whnf) | fail)
 refine loop_rounds ttOk mixed (by kernel_rfl) 9 ?_
 conv => whnf
 repeat (first | (refine brT rfl ?_; conv => whnf) | (refine brF rfl ?_; conv => whnf) | (refine Exists.intro _ (And.intro (sload_all rfl (by first | rfl | fail)) ?_); conv => whnf) | (refine Exists.intro _ (And.intro (sput_all rfl (by first | rfl | fail)) ?_); conv => whnf) | (refine Exists.intro _ (And.intro rfl ?_); conv => whnf) | (refine And.intro (by first | omega | (simp; done) | fail) ?_; conv => whnf) | (refine And.intro (Nat.le_of_ble_eq_true rfl) ?_; conv => whnf) | (refine And.intro ⟨rfl, Nat.le_of_ble_eq_true rfl⟩ ?_; conv => whnf) | (refine And.intro (by kernel_rfl) ?_; conv => whnf) | fail)
 refine ⟨[], ?_, rfl, rfl, ?_, rfl⟩
 ·
  (repeat' (first | (refine wk_agg ?_) | (refine wk_cons ?_ ?_))) <;> first | rfl | fail
 ·
  (repeat' (first | exact trivial | fail)) <;> fail
theorem f70 (s : UInt16) (kid c : UInt64) (n : Nat) (fl : Bool) (D : List UInt8) (S : List UInt8) (hS : S.length = 12) : SCall Try.prog 70 [.agg (.u16 s :: .u64 kid :: .sl 0 0 n 1 fl :: S.map .u8), .u64 c] [some (.ro (D.map .u8))] (.agg ((nonL S c).map .u8)) [some (.ro (D.map .u8))] := by
 obtain ⟨a0, a1, a2, a3, a4, a5, a6, a7, a8, a9, a10, a11, rfl⟩ := ex12 hS
 refine scall_of ttOk (by kernel_rfl : Try.prog.funcs[70]? = some Try.f70) rfl rfl rfl ?_
 try simp only [List.length_cons, List.length_nil, Nat.zero_add, Nat.reduceAdd]
 refine sw_ok ttOk mixed (by kernel_rfl) ?_
 conv => whnf
 repeat (first | (refine Exists.intro _ (And.intro (sput_all rfl (by first | rfl | fail)) ?_); conv => whnf) | (refine Exists.intro _ (And.intro rfl ?_); conv => whnf) | (refine And.intro (by first | omega | (simp; done) | fail) ?_; conv => whnf) | fail)
 refine loop_rounds ttOk mixed (by kernel_rfl) 9 ?_
 conv => whnf
 repeat (first | (refine brT rfl ?_; conv => whnf) | (refine brF rfl ?_; conv => whnf) | (refine Exists.intro _ (And.intro (sload_all rfl (by first | rfl | fail)) ?_); conv => whnf) | (refine Exists.intro _ (And.intro (sput_all rfl (by first | rfl | fail)) ?_); conv => whnf) | (refine Exists.intro _ (And.intro rfl ?_); conv => whnf) | (refine And.intro (by first | omega | (simp; done) | fail) ?_; conv => whnf) | (refine And.intro (Nat.le_of_ble_eq_true rfl) ?_; conv => whnf) | (refine And.intro ⟨rfl, Nat.le_of_ble_eq_true rfl⟩ ?_; conv => whnf) | (refine And.intro (by kernel_rfl) ?_; conv => whnf) | fail)
 refine ⟨[0], ?_, rfl, rfl, ?_, rfl⟩
 ·
  (repeat' (first | (refine wk_agg ?_) | (refine wk_cons ?_ ?_))) <;> first | rfl | fail
 ·
  (repeat' (first | exact trivial | refine And.intro ?_ ?_ | fail)) <;> first | exact ren_eq (by first | (simp; done) | fail) (by first | rfl | fail) | fail
theorem f65 : SCall Try.prog 65 [] [] (.b true) [] := by
 have q := f70_z 0 0 1 (List.replicate 12 0) rfl
 refine scall_of ttOk (by kernel_rfl : Try.prog.funcs[65]? = some Try.f65) rfl rfl rfl ?_
 try simp only [List.length_cons, List.length_nil, Nat.zero_add, Nat.reduceAdd]
 refine sw_ok ttOk mixed (by kernel_rfl) ?_
 conv => whnf
 repeat (fail)
 refine ok1_callF [] [] true (f66_5) rfl rfl ⟨⟨rfl, by first | rfl | fail⟩, trivial, by first | rfl | fail, by first | rfl | fail, ?_⟩
 conv => whnf
 repeat (first | (refine Exists.intro _ (And.intro (sput_all rfl (by first | rfl | fail)) ?_); conv => whnf) | (refine And.intro ⟨rfl, Nat.le_of_ble_eq_true rfl⟩ ?_; conv => whnf) | fail)
 refine ok1_callF [] [] true (f66_o 0 (.inl rfl)) rfl rfl ⟨⟨rfl, by first | rfl | fail⟩, trivial, by first | rfl | fail, by first | rfl | fail, ?_⟩
 conv => whnf
 repeat (first | (refine Exists.intro _ (And.intro (sput_all rfl (by first | rfl | fail)) ?_); conv => whnf) | (refine And.intro ⟨rfl, Nat.le_of_ble_eq_true rfl⟩ ?_; conv => whnf) | fail)
 refine ok1_callF [] [] true (f66_o 6 (.inr (by decide))) rfl rfl ⟨⟨rfl, by first | rfl | fail⟩, trivial, by first | rfl | fail, by first | rfl | fail, ?_⟩
 conv => whnf
 repeat (first | (refine brT rfl ?_; conv => whnf) | (refine Exists.intro _ (And.intro (sload_all rfl (by first | rfl | fail)) ?_); conv => whnf) | (refine Exists.intro _ (And.intro (sput_all rfl (by first | rfl | fail)) ?_); conv => whnf) | (refine Exists.intro _ (And.intro rfl ?_); conv => whnf) | (refine And.intro ⟨rfl, rfl⟩ ?_; conv => whnf) | (refine And.intro ⟨rfl, Nat.le_of_ble_eq_true rfl⟩ ?_; conv => whnf) | fail)
 refine ok1_callF [] [] true (q) rfl rfl ⟨⟨rfl, by first | rfl | fail⟩, trivial, by first | rfl | fail, by first | rfl | fail, ?_⟩
 conv => whnf
 repeat (first | (refine brT rfl ?_; conv => whnf) | (refine Exists.intro _ (And.intro rfl ?_); conv => whnf) | (refine And.intro ⟨rfl, rfl⟩ ?_; conv => whnf) | fail)
 refine ⟨[], ?_, rfl, rfl, ?_, rfl⟩
 ·
  (repeat' (fail)) <;> first | rfl | fail
 ·
  (repeat' (first | exact trivial | fail)) <;> fail
end Go.Sh
namespace Go.Sh
open Go.Proofs
set_option maxHeartbeats 8000000
attribute [local irreducible] mac_n mac_w exO_n exO_w
theorem f50_nil_n (b : List UInt8) (hb : b.length < 10000000000000) (f : Bool) : SCall Try.prog 50 [.u8 1, .slnil, .sl 1 0 b.length 1 f] [some (.ro (b.map .u8)), some (.ro (b.map .u8))] (.sl 2 0 32 1 true) [some (.ro (b.map .u8)), some (.ro (b.map .u8)), some (.box ((mac_n [] b).map .u8))] :=
 SCall.nil [.u8 1] ((f50_n [] b (by decide) hb true f).sub 0 0 (b.map .u8) [] 3 rfl rfl rfl (plainL_u8 _) rfl (by decide) ⟨.inr ⟨rfl, rfl⟩, .inl rfl, .inr ⟨rfl, rfl⟩, trivial⟩ rfl ⟨.inl rfl, .inr (.inl (by simp [plainB])), trivial⟩ ⟨.inl rfl, .inr (.inl (by simp [plainB])), .inr (.inl (by simp [plainB])), trivial⟩) rfl
theorem f50_nil_w (b : List UInt8) (hb : b.length < 10000000000000) (f : Bool) : SCall Try.prog 50 [.u8 2, .slnil, .sl 1 0 b.length 1 f] [some (.ro (b.map .u8)), some (.ro (b.map .u8))] (.sl 2 0 64 1 true) [some (.ro (b.map .u8)), some (.ro (b.map .u8)), some (.box ((mac_w [] b).map .u8))] :=
 SCall.nil [.u8 2] ((f50_w [] b (by decide) hb true f).sub 0 0 (b.map .u8) [] 3 rfl rfl rfl (plainL_u8 _) rfl (by decide) ⟨.inr ⟨rfl, rfl⟩, .inl rfl, .inr ⟨rfl, rfl⟩, trivial⟩ rfl ⟨.inl rfl, .inr (.inl (by simp [plainB])), trivial⟩ ⟨.inl rfl, .inr (.inl (by simp [plainB])), .inr (.inl (by simp [plainB])), trivial⟩) rfl
def keyS : List UInt8 := [83, 70, 114, 97, 109, 101, 32, 49, 46, 48, 32, 83, 101, 99, 114, 101, 116, 32, 107, 101, 121, 32]
def saltS : List UInt8 := [83, 70, 114, 97, 109, 101, 32, 49, 46, 48, 32, 83, 101, 99, 114, 101, 116, 32, 115, 97, 108, 116, 32]
def ratS : List UInt8 := [83, 70, 114, 97, 109, 101, 32, 49, 46, 48, 32, 82, 97, 116, 99, 104, 101, 116]
theorem f115_n (K : UInt16) (A B C : Nat) (q66 : SCall Try.prog 66 [.u16 K] [] (.tup [infoS 1 A B C 32, .i 0]) []) (b : List UInt8) (h0 : 0 < b.length) (h1 : b.length ≤ 1024) (f : Bool) : SCall Try.prog 115 [.u16 K, .sl 0 0 b.length 1 f] [some (.ro (b.map .u8))] (.tup [infoS 1 A B C 32, .sl 1 0 32 1 true, .i 0]) [some (.ro (b.map .u8)), some (.box ((mac_n [] b).map .u8))] := by
 have q := f50_nil_n b (by omega) f
 have l := mac_len_n [] b
 obtain ⟨X, hX⟩ : ∃ X, X = mac_n [] b := ⟨_, rfl⟩
 rw [← hX] at q l ⊢
 have e1 : ((b.length : Int) == 0) = false := by rw [beq_eq_false_iff_ne]; omega
 have e2 : decide ((b.length : Int) > 1024) = false := by simp; omega
 refine scall_of ttOk (by kernel_rfl : Try.prog.funcs[115]? = some Try.f115) rfl rfl rfl ?_
 try simp only [List.length_cons, List.length_nil, Nat.zero_add, Nat.reduceAdd]
 refine sw_ok ttOk mixed (by kernel_rfl) ?_
 conv => whnf
 repeat (fail)
 refine ok1_callF [] [] true (q66) rfl rfl ⟨⟨rfl, by first | rfl | fail⟩, trivial, by first | rfl | fail, by first | rfl | fail, ?_⟩
 conv => whnf
 repeat (first | (refine brF rfl ?_; conv => whnf) | (refine Exists.intro _ (And.intro (sload_all rfl (by first | rfl | fail)) ?_); conv => whnf) | (refine Exists.intro _ (And.intro (sput_all rfl (by first | rfl | fail)) ?_); conv => whnf) | (refine gdT e1 ?_; conv => whnf) | (refine pkF e1 ?_; conv => whnf) | (refine gdF e2 ?_; conv => whnf) | (refine Exists.intro _ (And.intro rfl ?_); conv => whnf) | (refine And.intro ⟨rfl, Nat.le_of_ble_eq_true rfl⟩ ?_; conv => whnf) | fail)
 refine ok1_callF [0, 0] [false, false, true] false (q) rfl rfl ⟨⟨rfl, by first | rfl | fail⟩, by (repeat' (first | exact trivial | refine And.intro ?_ ?_)) <;> first | exact ren_eq (by first | (simp; done) | fail) (by first | rfl | fail) | fail, by first | simp [plainHf, plainB], by first | rfl | fail, ?_⟩
 conv => whnf
 repeat (first | (refine Exists.intro _ (And.intro (sload_all rfl (by first | rfl | fail)) ?_); conv => whnf) | (refine Exists.intro _ (And.intro (sput_all rfl (by first | rfl | fail)) ?_); conv => whnf) | (refine And.intro (by first | omega | (simp; done) | fail) ?_; conv => whnf) | (refine And.intro (by kernel_rfl) ?_; conv => whnf) | fail)
 refine ⟨[0, 3], ?_, rfl, rfl, ?_, rfl⟩
 ·
  (repeat' (first | (refine wk_tup ?_) | (refine wk_agg ?_) | (refine wk_cons ?_ ?_))) <;> first | rfl | fail
 ·
  (repeat' (first | exact trivial | refine And.intro ?_ ?_ | fail)) <;> first | exact ren_eq (by first | (simp; done) | fail) (by first | rfl | fail) | fail
theorem f115_n_x (K : UInt16) (A B C : Nat) (q66 : SCall Try.prog 66 [.u16 K] [] (.tup [infoS 1 A B C 32, .i 0]) []) (b : List UInt8) (h0 : b.length = 0 ∨ 1024 < b.length) (f : Bool) : SCall Try.prog 115 [.u16 K, .sl 0 0 b.length 1 f] [some (.ro (b.map .u8))] (.tup [infoS 1 A B C 32, .slnil, .i 2]) [some (.ro (b.map .u8))] := by
 refine scall_of ttOk (by kernel_rfl : Try.prog.funcs[115]? = some Try.f115) rfl rfl rfl ?_
 try simp only [List.length_cons, List.length_nil, Nat.zero_add, Nat.reduceAdd]
 refine sw_ok ttOk mixed (by kernel_rfl) ?_
 conv => whnf
 repeat (fail)
 refine ok1_callF [] [] true (q66) rfl rfl ⟨⟨rfl, by first | rfl | fail⟩, trivial, by first | rfl | fail, by first | rfl | fail, ?_⟩
 conv => whnf
 by_cases hz : b.length = 0
 ·
  have e1 : ((b.length : Int) == 0) = true := by rw [hz]; rfl
  repeat (first | (refine brT rfl ?_; conv => whnf) | (refine brF rfl ?_; conv => whnf) | (refine Exists.intro _ (And.intro (sload_all rfl (by first | rfl | fail)) ?_); conv => whnf) | (refine Exists.intro _ (And.intro (sput_all rfl (by first | rfl | fail)) ?_); conv => whnf) | (refine gdF e1 ?_; conv => whnf) | (refine pkT e1 ?_; conv => whnf) | (refine And.intro (by first | omega | (simp; done) | fail) ?_; conv => whnf) | (refine And.intro ⟨rfl, Nat.le_of_ble_eq_true rfl⟩ ?_; conv => whnf) | fail)
  refine ⟨[0], ?_, rfl, rfl, ?_, rfl⟩
  ·
   (repeat' (first | (refine wk_tup ?_) | (refine wk_agg ?_) | (refine wk_cons ?_ ?_))) <;> first | rfl | fail
  ·
   (repeat' (first | exact trivial | refine And.intro ?_ ?_ | fail)) <;> first | exact ren_eq (by first | (simp; done) | fail) (by first | rfl | fail) | fail
 ·
  have e1 : ((b.length : Int) == 0) = false := by rw [beq_eq_false_iff_ne]; omega
  have e2 : decide ((b.length : Int) > 1024) = true := by simp; omega
  repeat (first | (refine brF rfl ?_; conv => whnf) | (refine Exists.intro _ (And.intro (sload_all rfl (by first | rfl | fail)) ?_); conv => whnf) | (refine Exists.intro _ (And.intro (sput_all rfl (by first | rfl | fail)) ?_); conv => whnf) | (refine gdT e1 ?_; conv => whnf) | (refine pkF e1 ?_; conv => whnf) | (refine gdT e2 ?_; conv => whnf) | (refine And.intro (by first | omega | (simp; done) | fail) ?_; conv => whnf) | (refine And.intro ⟨rfl, Nat.le_of_ble_eq_true rfl⟩ ?_; conv => whnf) | fail)
  refine ⟨[0], ?_, rfl, rfl, ?_, rfl⟩
  ·
   (repeat' (first | (refine wk_tup ?_) | (refine wk_agg ?_) | (refine wk_cons ?_ ?_))) <;> first | rfl | fail
  ·
   (repeat' (first | exact trivial | refine And.intro ?_ ?_ | fail)) <;> first | exact ren_eq (by first | (simp; done) | fail) (by first | rfl | fail) | fail
theorem f68_n (K : UInt16) (A B C : Nat) (q66 : SCall Try.prog 66 [.u16 K] [] (.tup [infoS 1 A B C 32, .i 0]) []) (b : List UInt8) (h0 : 0 < b.length) (h1 : b.length ≤ 1024) (f : Bool) : SCall Try.prog 68 [.u16 K, .sl 0 0 b.length 1 f] [some (.ro (b.map .u8))] (.tup [.sl 1 0 32 1 true, .i 0]) [some (.ro (b.map .u8)), some (.row 5 ((exO_n (mac_n [] b) ratS 1).map .u8))] := by
 have q := f115_n K A B C q66 b h0 h1 f
 have l := mac_len_n [] b
 have q2 := f51_n (mac_n [] b) ratS (by omega) (by decide) 32 (by decide) (by decide) true true
 rw [show exO_n (mac_n [] b) ratS ((32 + (32 - 1)) / 32) = exO_n (mac_n [] b) ratS 1 from rfl, l] at q2
 have l2 := exO_len_n (mac_n [] b) ratS 1
 obtain ⟨X, hX⟩ : ∃ X, X = mac_n [] b := ⟨_, rfl⟩
 rw [← hX] at q q2 l l2 ⊢
 obtain ⟨Y, hY⟩ : ∃ Y, Y = exO_n X ratS 1 := ⟨_, rfl⟩
 rw [← hY] at q2 l2 ⊢
 refine scall_of ttOk (by kernel_rfl : Try.prog.funcs[68]? = some Try.f68) rfl rfl rfl ?_
 try simp only [List.length_cons, List.length_nil, Nat.zero_add, Nat.reduceAdd]
 refine sw_ok ttOk mixed (by kernel_rfl) ?_
 conv => whnf
 repeat (fail)
 refine ok1_callF [0] [false, true] false (q) rfl rfl ⟨⟨rfl, by first | rfl | fail⟩, by (repeat' (first | exact trivial | refine And.intro ?_ ?_)) <;> first | exact ren_eq (by first | (simp; done) | fail) (by first | rfl | fail) | fail, by first | simp [plainHf, plainB], by first | rfl | fail, ?_⟩
 conv => whnf
 repeat (first | (refine brF rfl ?_; conv => whnf) | (refine Exists.intro _ (And.intro (sput_all rfl (by first | rfl | fail)) ?_); conv => whnf) | (refine Exists.intro _ (And.intro rfl ?_); conv => whnf) | (refine And.intro (by first | omega | (simp; done) | fail) ?_; conv => whnf) | fail)
 refine ok1_callF [1, 3] [false, false, true] false (q2) rfl rfl ⟨⟨rfl, by first | rfl | fail⟩, by (repeat' (first | exact trivial | refine And.intro ?_ ?_)) <;> first | rfl | exact ren_eq (by first | (simp; done) | fail) (by first | rfl | fail) | fail, by first | simp [plainHf, plainB], by first | rfl | fail, ?_⟩
 conv => whnf
 repeat (fail)
 refine ⟨[0, 4], ?_, rfl, rfl, ?_, rfl⟩
 ·
  (repeat' (first | (refine wk_tup ?_) | (refine wk_cons ?_ ?_))) <;> first | rfl | fail
 ·
  (repeat' (first | exact trivial | refine And.intro ?_ ?_ | fail)) <;> first | rfl | exact ren_eq (by first | (simp; done) | fail) (by first | rfl | fail) | fail
theorem f68_n_x (K : UInt16) (A B C : Nat) (q66 : SCall Try.prog 66 [.u16 K] [] (.tup [infoS 1 A B C 32, .i 0]) []) (b : List UInt8) (h0 : b.length = 0 ∨ 1024 < b.length) (f : Bool) : SCall Try.prog 68 [.u16 K, .sl 0 0 b.length 1 f] [some (.ro (b.map .u8))] (.tup [.slnil, .i 2]) [some (.ro (b.map .u8))] := by
 have q := f115_n_x K A B C q66 b h0 f
 refine scall_of ttOk (by kernel_rfl : Try.prog.funcs[68]? = some Try.f68) rfl rfl rfl ?_
 try simp only [List.length_cons, List.length_nil, Nat.zero_add, Nat.reduceAdd]
 refine sw_ok ttOk mixed (by kernel_rfl) ?_
 conv => whnf
 repeat (fail)
 refine ok1_callF [0] [false] false (q) rfl rfl ⟨⟨rfl, by first | rfl | fail⟩, by (repeat' (first | exact trivial | refine And.intro ?_ ?_)) <;> first | exact ren_eq (by first | (simp; done) | fail) (by first | rfl | fail) | fail, by first | rfl | fail, by first | rfl | fail, ?_⟩
 conv => whnf
 repeat (first | (refine brT rfl ?_; conv => whnf) | (refine Exists.intro _ (And.intro (sput_all rfl (by first | rfl | fail)) ?_); conv => whnf) | (refine And.intro (by first | omega | (simp; done) | fail) ?_; conv => whnf) | fail)
 refine ⟨[0], ?_, rfl, rfl, ?_, rfl⟩
 ·
  (repeat' (first | (refine wk_tup ?_) | (refine wk_cons ?_ ?_))) <;> first | rfl | fail
 ·
  (repeat' (first | exact trivial | refine And.intro ?_ ?_ | fail)) <;> first | exact ren_eq (by first | (simp; done) | fail) (by first | rfl | fail) | fail
theorem f115_w (K : UInt16) (A B C : Nat) (q66 : SCall Try.prog 66 [.u16 K] [] (.tup [infoS 2 A B C 64, .i 0]) []) (b : List UInt8) (h0 : 0 < b.length) (h1 : b.length ≤ 1024) (f : Bool) : SCall Try.prog 115 [.u16 K, .sl 0 0 b.length 1 f] [some (.ro (b.map .u8))] (.tup [infoS 2 A B C 64, .sl 1 0 64 1 true, .i 0]) [some (.ro (b.map .u8)), some (.box ((mac_w [] b).map .u8))] := by
 have q := f50_nil_w b (by omega) f
 have l := mac_len_w [] b
 obtain ⟨X, hX⟩ : ∃ X, X = mac_w [] b := ⟨_, rfl⟩
 rw [← hX] at q l ⊢
 have e1 : ((b.length : Int) == 0) = false := by rw [beq_eq_false_iff_ne]; omega
 have e2 : decide ((b.length : Int) > 1024) = false := by simp; omega
 refine scall_of ttOk (by kernel_rfl : Try.prog.funcs[115]? = some Try.f115) rfl rfl rfl ?_
 try simp only [List.length_cons, List.length_nil, Nat.zero_add, Nat.reduceAdd]
 refine sw_ok ttOk mixed (by kernel_rfl) ?_
 conv => whnf
 repeat (fail)
 refine ok1_callF [] [] true (q66) rfl rfl ⟨⟨rfl, by first | rfl | fail⟩, trivial, by first | rfl | fail, by first | rfl | fail, ?_⟩
 conv => whnf
 repeat (first | (refine brF rfl ?_; conv => whnf) | (refine Exists.intro _ (And.intro (sload_all rfl (by first | rfl | fail)) ?_); conv => whnf) | (refine Exists.intro _ (And.intro (sput_all rfl (by first | rfl | fail)) ?_); conv => whnf) | (refine gdT e1 ?_; conv => whnf) | (refine pkF e1 ?_; conv => whnf) | (refine gdF e2 ?_; conv => whnf) | (refine Exists.intro _ (And.intro rfl ?_); conv => whnf) | (refine And.intro ⟨rfl, Nat.le_of_ble_eq_true rfl⟩ ?_; conv => whnf) | fail)
 refine ok1_callF [0, 0] [false, false, true] false (q) rfl rfl ⟨⟨rfl, by first | rfl | fail⟩, by (repeat' (first | exact trivial | refine And.intro ?_ ?_)) <;> first | exact ren_eq (by first | (simp; done) | fail) (by first | rfl | fail) | fail, by first | simp [plainHf, plainB], by first | rfl | fail, ?_⟩
 conv => whnf
 repeat (first | (refine Exists.intro _ (And.intro (sload_all rfl (by first | rfl | fail)) ?_); conv => whnf) | (refine Exists.intro _ (And.intro (sput_all rfl (by first | rfl | fail)) ?_); conv => whnf) | (refine And.intro (by first | omega | (simp; done) | fail) ?_; conv => whnf) | (refine And.intro (by kernel_rfl) ?_; conv => whnf) | fail)
 refine ⟨[0, 3], ?_, rfl, rfl, ?_, rfl⟩
 ·
  (repeat' (first | (refine wk_tup ?_) | (refine wk_agg ?_) | (refine wk_cons ?_ ?_))) <;> first | rfl | fail
 ·
  (repeat' (first | exact trivial | refine And.intro ?_ ?_ | fail)) <;> first | exact ren_eq (by first | (simp; done) | fail) (by first | rfl | fail) | fail
theorem f115_w_x (K : UInt16) (A B C : Nat) (q66 : SCall Try.prog 66 [.u16 K] [] (.tup [infoS 2 A B C 64, .i 0]) []) (b : List UInt8) (h0 : b.length = 0 ∨ 1024 < b.length) (f : Bool) : SCall Try.prog 115 [.u16 K, .sl 0 0 b.length 1 f] [some (.ro (b.map .u8))] (.tup [infoS 2 A B C 64, .slnil, .i 2]) [some (.ro (b.map .u8))] := by
 refine scall_of ttOk (by kernel_rfl : Try.prog.funcs[115]? = some Try.f115) rfl rfl rfl ?_
 try simp only [List.length_cons, List.length_nil, Nat.zero_add, Nat.reduceAdd]
 refine sw_ok ttOk mixed (by kernel_rfl) ?_
 conv => whnf
 repeat (fail)
 refine ok1_callF [] [] true (q66) rfl rfl ⟨⟨rfl, by first | rfl | fail⟩, trivial, by first | rfl | fail, by first | rfl | fail, ?_⟩
 conv => whnf
 by_cases hz : b.length = 0
 ·
  have e1 : ((b.length : Int) == 0) = true := by rw [hz]; rfl
  repeat (first | (refine brT rfl ?_; conv => whnf) | (refine brF rfl ?_; conv => whnf) | (refine Exists.intro _ (And.intro (sload_all rfl (by first | rfl | fail)) ?_); conv => whnf) | (refine Exists.intro _ (And.intro (sput_all rfl (by first | rfl | fail)) ?_); conv => whnf) | (refine gdF e1 ?_; conv => whnf) | (refine pkT e1 ?_; conv => whnf) | (refine And.intro (by first | omega | (simp; done) | fail) ?_; conv => whnf) | (refine And.intro ⟨rfl, Nat.le_of_ble_eq_true rfl⟩ ?_; conv => whnf) | fail)
  refine ⟨[0], ?_, rfl, rfl, ?_, rfl⟩
  ·
   (repeat' (first | (refine wk_tup ?_) | (refine wk_agg ?_) | (refine wk_cons ?_ ?_))) <;> first | rfl | fail
  ·
   (repeat' (first | exact trivial | refine And.intro ?_ ?_ | fail)) <;> first | exact ren_eq (by first | (simp; done) | fail) (by first | rfl | fail) | fail
 ·
  have e1 : ((b.length : Int) == 0) = false := by rw [beq_eq_false_iff_ne]; omega
  have e2 : decide ((b.length : Int) > 1024) = true := by simp; omega
  repeat (first | (refine brF rfl ?_; conv => whnf) | (refine Exists.intro _ (And.intro (sload_all rfl (by first | rfl | fail)) ?_); conv => whnf) | (refine Exists.intro _ (And.intro (sput_all rfl (by first | rfl | fail)) ?_); conv => whnf) | (refine gdT e1 ?_; conv => whnf) | (refine pkF e1 ?_; conv => whnf) | (refine gdT e2 ?_; conv => whnf) | (refine And.intro (by first | omega | (simp; done) | fail) ?_; conv => whnf) | (refine And.intro ⟨rfl, Nat.le_of_ble_eq_true rfl⟩ ?_; conv => whnf) | fail)
  refine ⟨[0], ?_, rfl, rfl, ?_, rfl⟩
  ·
   (repeat' (first | (refine wk_tup ?_) | (refine wk_agg ?_) | (refine wk_cons ?_ ?_))) <;> first | rfl | fail
  ·
   (repeat' (first | exact trivial | refine And.intro ?_ ?_ | fail)) <;> first | exact ren_eq (by first | (simp; done) | fail) (by first | rfl | fail) | fail
theorem f68_w (K : UInt16) (A B C : Nat) (q66 : SCall Try.prog 66 [.u16 K] [] (.tup [infoS 2 A B C 64, .i 0]) []) (b : List UInt8) (h0 : 0 < b.length) (h1 : b.length ≤ 1024) (f : Bool) : SCall Try.prog 68 [.u16 K, .sl 0 0 b.length 1 f] [some (.ro (b.map .u8))] (.tup [.sl 1 0 64 1 true, .i 0]) [some (.ro (b.map .u8)), some (.row 5 ((exO_w (mac_w [] b) ratS 1).map .u8))] := by
 have q := f115_w K A B C q66 b h0 h1 f
 have l := mac_len_w [] b
 have q2 := f51_w (mac_w [] b) ratS (by omega) (by decide) 64 (by decide) (by decide) true true
 rw [show exO_w (mac_w [] b) ratS ((64 + (64 - 1)) / 64) = exO_w (mac_w [] b) ratS 1 from rfl, l] at q2
 have l2 := exO_len_w (mac_w [] b) ratS 1
 obtain ⟨X, hX⟩ : ∃ X, X = mac_w [] b := ⟨_, rfl⟩
 rw [← hX] at q q2 l l2 ⊢
 obtain ⟨Y, hY⟩ : ∃ Y, Y = exO_w X ratS 1 := ⟨_, rfl⟩
 rw [← hY] at q2 l2 ⊢
 refine scall_of ttOk (by kernel_rfl : Try.prog.funcs[68]? = some Try.f68) rfl rfl rfl ?_
 try simp only [List.length_cons, List.length_nil, Nat.zero_add, Nat.reduceAdd]
 refine sw_ok ttOk mixed (by kernel_rfl) ?_
 conv => whnf
 repeat (fail)
 refine ok1_callF [0] [false, true] false (q) rfl rfl ⟨⟨rfl, by first | rfl | fail⟩, by (repeat' (first | exact trivial | refine And.intro ?_ ?_)) <;> first | exact ren_eq (by first | (simp; done) | fail) (by first | rfl | fail) | fail, by first | simp [plainHf, plainB], by first | rfl | fail, ?_⟩
 conv => whnf
 repeat (first | (refine brF rfl ?_; conv => whnf) | (refine Exists.intro _ (And.intro (sput_all rfl (by first | rfl | fail)) ?_); conv => whnf) | (refine Exists.intro _ (And.intro rfl ?_); conv => whnf) | (refine And.intro (by first | omega | (simp; done) | fail) ?_; conv => whnf) | fail)
 refine ok1_callF [1, 3] [false, false, true] false (q2) rfl rfl ⟨⟨rfl, by first | rfl | fail⟩, by (repeat' (first | exact trivial | refine And.intro ?_ ?_)) <;> first | rfl | exact ren_eq (by first | (simp; done) | fail) (by first | rfl | fail) | fail, by first | simp [plainHf, plainB], by first | rfl | fail, ?_⟩
 conv => whnf
 repeat (fail)
 refine ⟨[0, 4], ?_, rfl, rfl, ?_, rfl⟩
 ·
  (repeat' (first | (refine wk_tup ?_) | (refine wk_cons ?_ ?_))) <;> first | rfl | fail
 ·
  (repeat' (first | exact trivial | refine And.intro ?_ ?_ | fail)) <;> first | rfl | exact ren_eq (by first | (simp; done) | fail) (by first | rfl | fail) | fail
theorem f68_w_x (K : UInt16) (A B C : Nat) (q66 : SCall Try.prog 66 [.u16 K] [] (.tup [infoS 2 A B C 64, .i 0]) []) (b : List UInt8) (h0 : b.length = 0 ∨ 1024 < b.length) (f : Bool) : SCall Try.prog 68 [.u16 K, .sl 0 0 b.length 1 f] [some (.ro (b.map .u8))] (.tup [.slnil, .i 2]) [some (.ro (b.map .u8))] := by
 have q := f115_w_x K A B C q66 b h0 f
 refine scall_of ttOk (by kernel_rfl : Try.prog.funcs[68]? = some Try.f68) rfl rfl rfl ?_
 try simp only [List.length_cons, List.length_nil, Nat.zero_add, Nat.reduceAdd]
 refine sw_ok ttOk mixed (by kernel_rfl) ?_
 conv => whnf
 repeat (fail)
 refine ok1_callF [0] [false] false (q) rfl rfl ⟨⟨rfl, by first | rfl | fail⟩, by (repeat' (first | exact trivial | refine And.intro ?_ ?_)) <;> first | exact ren_eq (by first | (simp; done) | fail) (by first | rfl | fail) | fail, by first | rfl | fail, by first | rfl | fail, ?_⟩
 conv => whnf
 repeat (first | (refine brT rfl ?_; conv => whnf) | (refine Exists.intro _ (And.intro (sput_all rfl (by first | rfl | fail)) ?_); conv => whnf) | (refine And.intro (by first | omega | (simp; done) | fail) ?_; conv => whnf) | fail)
 refine ⟨[0], ?_, rfl, rfl, ?_, rfl⟩
 ·
  (repeat' (first | (refine wk_tup ?_) | (refine wk_cons ?_ ?_))) <;> first | rfl | fail
 ·
  (repeat' (first | exact trivial | refine And.intro ?_ ?_ | fail)) <;> first | exact ren_eq (by first | (simp; done) | fail) (by first | rfl | fail) | fail
end Go.Sh
namespace Go.Sh
open Go.Proofs
set_option maxHeartbeats 4000000
theorem f74 (c : UInt64) (S : List UInt8) (hS : S.length = 12) (f : Bool) : SCall Try.prog 74 [.sl 0 0 12 1 f, .u64 c] [some (.ro (S.map .u8))] (.sl 1 0 12 1 false) [some (.ro (S.map .u8)), some (.row 5 ((nonL S c).map .u8))] := by
 obtain ⟨a0, a1, a2, a3, a4, a5, a6, a7, a8, a9, a10, a11, rfl⟩ := ex12 hS
 have hap : (nonL [a0, a1, a2, a3, a4, a5, a6, a7, a8, a9, a10, a11] c).map SV.u8 = [a0 ^^^ (dvN c 11 % 256).toUInt8, a1 ^^^ (dvN c 10 % 256).toUInt8, a2 ^^^ (dvN c 9 % 256).toUInt8, a3 ^^^ (dvN c 8 % 256).toUInt8, a4 ^^^ (dvN c 7 % 256).toUInt8, a5 ^^^ (dvN c 6 % 256).toUInt8, a6 ^^^ (dvN c 5 % 256).toUInt8, a7 ^^^ (dvN c 4 % 256).toUInt8, a8 ^^^ (dvN c 3 % 256).toUInt8, a9 ^^^ (dvN c 2 % 256).toUInt8, a10 ^^^ (dvN c 1 % 256).toUInt8, a11 ^^^ (dvN c 0 % 256).toUInt8].map SV.u8 := by
  rw [byS_d c 7 (by decide), byS_d c 6 (by decide), byS_d c 5 (by decide), byS_d c 4 (by decide), byS_d c 3 (by decide), byS_d c 2 (by decide), byS_d c 1 (by decide), byS_d c 0 (by decide), byS_z c 8 (by decide), byS_z c 9 (by decide), byS_z c 10 (by decide), byS_z c 11 (by decide), UInt8.xor_zero, UInt8.xor_zero, UInt8.xor_zero, UInt8.xor_zero]; rfl
 have hlt : 12 + 0 = 12 := rfl
 refine scall_of ttOk (by kernel_rfl : Try.prog.funcs[74]? = some Try.f74) rfl rfl rfl ?_
 try simp only [List.length_cons, List.length_nil, Nat.zero_add, Nat.reduceAdd]
 refine sw_ok ttOk mixed (by kernel_rfl) ?_
 conv => whnf
 repeat (first | (refine Exists.intro _ (And.intro rfl ?_); conv => whnf) | (refine And.intro ⟨Nat.le_of_ble_eq_true rfl, Nat.le_of_ble_eq_true rfl, Nat.le_of_ble_eq_true rfl⟩ ?_; conv => whnf) | fail)
 refine loop_rounds ttOk mixed (by kernel_rfl) 13 ?_
 conv => whnf
 repeat (first | (refine brT rfl ?_; conv => whnf) | (refine brF rfl ?_; conv => whnf) | (refine Exists.intro _ (And.intro rfl ?_); conv => whnf) | (refine And.intro (by first | omega | (simp; done) | fail) ?_; conv => whnf) | (refine And.intro (Nat.le_of_ble_eq_true rfl) ?_; conv => whnf) | (refine And.intro ⟨rfl, Nat.le_of_ble_eq_true rfl⟩ ?_; conv => whnf) | fail)
 refine ⟨[0, 2], ?_, rfl, rfl, ?_, rfl⟩
 ·
  (repeat' (fail)) <;> first | rfl | fail
 ·
  (repeat' (first | exact trivial | exact ren_eq (plainL_u8 _) hap | refine And.intro ?_ ?_ | (refine wk_cons ?_ ?_))) <;> first | rfl | fail
theorem f69_1 : SCall Try.prog 69 [.u16 1] [] (.sl 0 0 5 1 true) [some (.row 3 [.i 1, .i 48, .i 16, .i 10, .i 32])] := by
 refine scall_of ttOk (by kernel_rfl : Try.prog.funcs[69]? = some Try.f69) rfl rfl rfl ?_
 try simp only [List.length_cons, List.length_nil, Nat.zero_add, Nat.reduceAdd]
 refine sw_ok ttOk mixed (by kernel_rfl) ?_
 conv => whnf
 repeat (first | (refine brT rfl ?_; conv => whnf) | (refine Exists.intro _ (And.intro rfl ?_); conv => whnf) | fail)
 refine ⟨[0], ?_, rfl, rfl, ?_, rfl⟩
 ·
  (repeat' (fail)) <;> first | rfl | fail
 ·
  (repeat' (first | exact trivial | refine And.intro ?_ ?_ | (refine wk_cons ?_ ?_))) <;> first | rfl | fail
theorem f69_2 : SCall Try.prog 69 [.u16 2] [] (.sl 0 0 5 1 true) [some (.row 3 [.i 1, .i 48, .i 16, .i 8, .i 32])] := by
 refine scall_of ttOk (by kernel_rfl : Try.prog.funcs[69]? = some Try.f69) rfl rfl rfl ?_
 try simp only [List.length_cons, List.length_nil, Nat.zero_add, Nat.reduceAdd]
 refine sw_ok ttOk mixed (by kernel_rfl) ?_
 conv => whnf
 repeat (first | (refine brT rfl ?_; conv => whnf) | (refine brF rfl ?_; conv => whnf) | (refine Exists.intro _ (And.intro rfl ?_); conv => whnf) | fail)
 refine ⟨[0], ?_, rfl, rfl, ?_, rfl⟩
 ·
  (repeat' (fail)) <;> first | rfl | fail
 ·
  (repeat' (first | exact trivial | refine And.intro ?_ ?_ | (refine wk_cons ?_ ?_))) <;> first | rfl | fail
theorem f69_3 : SCall Try.prog 69 [.u16 3] [] (.sl 0 0 5 1 true) [some (.row 3 [.i 1, .i 48, .i 16, .i 4, .i 32])] := by
 refine scall_of ttOk (by kernel_rfl : Try.prog.funcs[69]? = some Try.f69) rfl rfl rfl ?_
 try simp only [List.length_cons, List.length_nil, Nat.zero_add, Nat.reduceAdd]
 refine sw_ok ttOk mixed (by kernel_rfl) ?_
 conv => whnf
 repeat (first | (refine brT rfl ?_; conv => whnf) | (refine brF rfl ?_; conv => whnf) | (refine Exists.intro _ (And.intro rfl ?_); conv => whnf) | fail)
 refine ⟨[0], ?_, rfl, rfl, ?_, rfl⟩
 ·
  (repeat' (fail)) <;> first | rfl | fail
 ·
  (repeat' (first | exact trivial | refine And.intro ?_ ?_ | (refine wk_cons ?_ ?_))) <;> first | rfl | fail
theorem f69_4 : SCall Try.prog 69 [.u16 4] [] (.sl 0 0 5 1 true) [some (.row 3 [.i 1, .i 16, .i 16, .i 16, .i 32])] := by
 refine scall_of ttOk (by kernel_rfl : Try.prog.funcs[69]? = some Try.f69) rfl rfl rfl ?_
 try simp only [List.length_cons, List.length_nil, Nat.zero_add, Nat.reduceAdd]
 refine sw_ok ttOk mixed (by kernel_rfl) ?_
 conv => whnf
 repeat (first | (refine brT rfl ?_; conv => whnf) | (refine brF rfl ?_; conv => whnf) | (refine Exists.intro _ (And.intro rfl ?_); conv => whnf) | fail)
 refine ⟨[0], ?_, rfl, rfl, ?_, rfl⟩
 ·
  (repeat' (fail)) <;> first | rfl | fail
 ·
  (repeat' (first | exact trivial | refine And.intro ?_ ?_ | (refine wk_cons ?_ ?_))) <;> first | rfl | fail
theorem f69_5 : SCall Try.prog 69 [.u16 5] [] (.sl 0 0 5 1 true) [some (.row 3 [.i 2, .i 32, .i 32, .i 16, .i 64])] := by
 refine scall_of ttOk (by kernel_rfl : Try.prog.funcs[69]? = some Try.f69) rfl rfl rfl ?_
 try simp only [List.length_cons, List.length_nil, Nat.zero_add, Nat.reduceAdd]
 refine sw_ok ttOk mixed (by kernel_rfl) ?_
 conv => whnf
 repeat (first | (refine brT rfl ?_; conv => whnf) | (refine brF rfl ?_; conv => whnf) | (refine Exists.intro _ (And.intro rfl ?_); conv => whnf) | fail)
 refine ⟨[0], ?_, rfl, rfl, ?_, rfl⟩
 ·
  (repeat' (fail)) <;> first | rfl | fail
 ·
  (repeat' (first | exact trivial | refine And.intro ?_ ?_ | (refine wk_cons ?_ ?_))) <;> first | rfl | fail
theorem f69_o (n : UInt16) (h : n = 0 ∨ 5 < n.toNat) : SCall Try.prog 69 [.u16 n] [] .slnil [] := by
 have h2 : n.toNat = 0 ∨ 5 < n.toNat := h.imp (fun e => by rw [e]; rfl) id
 have e : ∀ k : UInt16, 1 ≤ k.toNat → k.toNat ≤ 5 → (n == k) = false := fun k h1 h3 => by rw [beq_eq_false_iff_ne]; intro e; subst e; omega
 have e1 : (n == UInt16.ofNat (Int.toNat 1)) = false := e _ (by decide) (by decide)
 have e2 : (n == UInt16.ofNat (Int.toNat 2)) = false := e _ (by decide) (by decide)
 have e3 : (n == UInt16.ofNat (Int.toNat 3)) = false := e _ (by decide) (by decide)
 have e4 : (n == UInt16.ofNat (Int.toNat 4)) = false := e _ (by decide) (by decide)
 have e5 : (n == UInt16.ofNat (Int.toNat 5)) = false := e _ (by decide) (by decide)
 refine scall_of ttOk (by kernel_rfl : Try.prog.funcs[69]? = some Try.f69) rfl rfl rfl ?_
 try simp only [List.length_cons, List.length_nil, Nat.zero_add, Nat.reduceAdd]
 refine sw_ok ttOk mixed (by kernel_rfl) ?_
 conv => whnf
 repeat (first | (refine gdF e1 ?_; conv => whnf) | (refine gdF e2 ?_; conv => whnf) | (refine gdF e3 ?_; conv => whnf) | (refine gdF e4 ?_; conv => whnf) | (refine gdF e5 ?_; conv => whnf) | fail)
 refine ⟨[], ?_, rfl, rfl, ?_, rfl⟩
 ·
  (repeat' (fail)) <;> first | rfl | fail
 ·
  (repeat' (first | exact trivial | fail)) <;> fail
end Go.Sh
namespace Go.Sh
open Go.Proofs
set_option maxHeartbeats 4000000
theorem rcat0 {b : List UInt8} {m : Nat} {B : SB} (hB : B.cells = b.map SV.u8) (hm : m = b.length) : List.take (0 * 1) (List.drop 0 (reps 0 (SV.u8 0).cells)) ++ List.take (m * 1) (List.drop 0 B.cells) = b.map SV.u8 := by
 rw [hB, Nat.mul_one, hm]; show ([] : List SV) ++ _ = _; simp
def exQ_n : Nat → SV
 | 0 => .slnil
 | _ + 1 => .sl 3 0 32 1 false
def exC_n (K I : List UInt8) : Nat → Option SB
 | 0 => none
 | i + 1 => some (.row 5 ((exT_n K I (i + 1)).map .u8))
section
attribute [local irreducible] mac_n exT_n exO_n
theorem f52_n (K I : List UInt8) (hK : K.length < 100000000000000) (hI : I.length < 1000000000000) (n : Nat) (hn1 : 1 ≤ n) (hn : n ≤ 8160) (fk fi : Bool) : SCall Try.prog 52 [.u8 1, .sl 0 0 K.length 1 fk, .sl 1 0 I.length 1 fi, .i (n : Int)] [some (.ro (K.map .u8)), some (.ro (I.map .u8))] (.sl 2 0 n 1 false) [some (.ro (K.map .u8)), some (.ro (I.map .u8)), some (.row 5 ((exO_n K I ((n + (32 - 1)) / 32)).map .u8))] := by
 have e1 : decide ((n : Int) < 1) = false := by simp; omega
 have e2 : decide ((n : Int) > w64 (255 * 32)) = false := by simp [w64_eq]; omega
 obtain ⟨m, hm⟩ : ∃ m, m = (n + (32 - 1)) / 32 := ⟨_, rfl⟩
 rw [← hm]
 refine scall_of ttOk (by kernel_rfl : Try.prog.funcs[52]? = some Try.f52) rfl rfl rfl ?_
 try simp only [List.length_cons, List.length_nil, Nat.zero_add, Nat.reduceAdd]
 refine sw_ok ttOk mixed (by kernel_rfl) ?_
 conv => whnf
 repeat (first | (refine gdT e1 ?_; conv => whnf) | fail)
 refine ok1_callF [] [] true (f95_n) rfl rfl ⟨⟨rfl, by first | rfl | fail⟩, trivial, by first | rfl | fail, by first | rfl | fail, ?_⟩
 conv => whnf
 repeat (first | (refine gdT e1 ?_; conv => whnf) | (refine pkF e1 ?_; conv => whnf) | (refine gdF e2 ?_; conv => whnf) | fail)
 refine SWp.weak (Weak.virt 9 5 1 rfl) ?_
 refine loop_rule ttOk mixed (by kernel_rfl) (ι := { i : Nat // i ≤ m }) (fun i => [(0, .u8 1), (1, .sl 0 0 K.length 1 fk), (2, .sl 1 0 I.length 1 fi), (3, .i n), (9, .sl 2 0 (32 * i.1) 1 false), (10, exQ_n i.1), (11, .i ((i.1 + 1 : Nat) : Int))]) (fun i => [some (.ro (K.map .u8)), some (.ro (I.map .u8)), some (.row 5 ((exO_n K I i.1).map .u8)), exC_n K I i.1]) (fun _ => 4) (fun i => m - i.1) ⟨0, by omega⟩ ?_ ?_
 ·
  have hz := exO_z_n K I
  dsimp only
  rw [hz]
  refine Weak.sel [0, 1, 2, 0] rfl rfl ?_ ?_ rfl rfl
  ·
   (repeat' (first | exact trivial | refine And.intro ?_ ?_ | fail)) <;> first | rfl | fail
  ·
   (repeat' (first | exact trivial | refine And.intro ?_ ?_ | fail)) <;> first | rfl | exact ren_eq (by first | (simp; done) | fail) (by first | rfl | fail) | fail
 ·
  rintro ⟨i, hi⟩
  dsimp only
  have hol := exO_len_n K I i
  have hos := exO_s_n K I i
  have htl := exT_len_n K I i
  have hts := exT_s_n K I i
  have hp : w64 (((i + 1 : Nat) : Int) + 1) = ((i + 1 + 1 : Nat) : Int) := by simp only [w64_eq]; omega
  by_cases hi2 : i < m
  ·
   have hlt : decide (((32 * i : Nat) : Int) < (n : Int)) = true := by simp; omega
   obtain ⟨O, hO⟩ : ∃ O, O = exO_n K I i := ⟨_, rfl⟩
   rw [← hO] at hol hos ⊢
   rcases i with _ | i
   ·
    have q := f48_n K (I ++ [u8i ((1 : Nat) : Int)]) hK (by simp; omega) fk false
    rw [← exT_1_n] at q
    have hIl : (I ++ [u8i ((1 : Nat) : Int)]).length = I.length + 1 := by simp
    rw [hIl] at q
    obtain ⟨T, hT⟩ : ∃ T, T = exT_n K I 1 := ⟨_, rfl⟩
    rw [← hT] at q
    have hTl : T.length = 32 := by rw [hT]; exact exT_len_n K I 0
    have hap : (O ++ T).map SV.u8 = List.take (32 * 0 * 1) (List.drop 0 (O.map SV.u8)) ++ List.take (32 * 1) (List.drop 0 (T.map SV.u8)) := by
     rw [List.drop_zero, List.drop_zero, List.take_of_length_le (l := O.map SV.u8) (by rw [List.length_map]; omega), List.take_of_length_le (l := T.map SV.u8) (by rw [List.length_map]; omega), List.map_append]
    have hz0 : 0 + I.length = I.length := Nat.zero_add _
    have hbk : List.take ((0 + I.length) * ti5.sz) (List.drop 0 (List.take (0 * ti5.sz) (List.drop 0 (reps 0 (SV.u8 0).cells)) ++ List.take (I.length * ti5.sz) (List.drop 0 (SB.ro (List.map SV.u8 I)).cells))) ++ List.take (1 * ti5.sz) (List.drop 0 (SB.row 5 (sput (reps 1 (SV.u8 0).cells) (0 * ti5.sz) (SV.u8 (u8i ((0 + 1 : Nat) : Int))))).cells) = (I ++ [u8i ((1 : Nat) : Int)]).map SV.u8 := by
     show List.take ((0 + I.length) * 1) (([] : List SV) ++ List.take (I.length * 1) (I.map SV.u8)) ++ [SV.u8 (u8i ((1 : Nat) : Int))] = _
     simp
    conv => whnf
    first | refine brT (by exact hlt) ?_ | fail
    conv => whnf
    repeat (first | (refine Exists.intro _ (And.intro rfl ?_); conv => whnf) | (refine And.intro (by first | omega | (simp [ti5]; omega)) ?_; conv => whnf) | fail)
    rw [hbk, hz0]
    refine ok1_callF [0, 7] [false, false, true] false (q) rfl rfl ⟨⟨rfl, by first | rfl | fail⟩, by (repeat' (first | exact trivial | refine And.intro ?_ ?_)) <;> first | exact ren_eq (by first | (simp; done) | fail) (by first | rfl | fail) | fail, by first | simp [plainHf, plainB], by first | rfl | fail, ?_⟩
    conv => whnf
    repeat (first | (refine And.intro (by first | omega | (simp [ti5]; omega)) ?_; conv => whnf) | fail)
    refine ⟨⟨1, by omega⟩, by simp only; omega, ?_⟩
    dsimp only
    rw [hos]
    unfold exQ_n exC_n
    dsimp only
    rw [← hT]
    refine Weak.sel [0, 1, 9, 8] rfl rfl ?_ ?_ rfl rfl
    ·
     (repeat' (first | exact trivial | refine And.intro ?_ ?_ | fail)) <;> first | exact wk_i (by first | exact hp | fail) | rfl | fail
    ·
     (repeat' (first | exact trivial | exact ren_eq (plainL_u8 _) hap | refine And.intro ?_ ?_ | fail)) <;> first | rfl | exact ren_eq (by first | (simp; done) | fail) (by first | rfl | fail) | fail
   ·
    obtain ⟨T0, hT0⟩ : ∃ T, T = exT_n K I (i + 1) := ⟨_, rfl⟩
    have htl0 := exT_len_n K I i
    rw [← hT0] at htl0
    have q := f48_n K (T0 ++ I ++ [u8i ((i + 1 + 1 : Nat) : Int)]) hK (by simp; omega) fk false
    have hIl : (T0 ++ I ++ [u8i ((i + 1 + 1 : Nat) : Int)]).length = 32 + I.length + 1 := by simp; omega
    rw [hIl, hT0, ← exT_s_n, ← hT0] at q
    obtain ⟨T, hT⟩ : ∃ T, T = exT_n K I (i + 1 + 1) := ⟨_, rfl⟩
    rw [← hT] at q
    have hTl : T.length = 32 := by rw [hT]; exact exT_len_n K I (i + 1)
    have hap : (O ++ T).map SV.u8 = List.take (32 * (i + 1) * 1) (List.drop 0 (O.map SV.u8)) ++ List.take (32 * 1) (List.drop 0 (T.map SV.u8)) := by
     rw [List.drop_zero, List.drop_zero, List.take_of_length_le (l := O.map SV.u8) (by rw [List.length_map]; omega), List.take_of_length_le (l := T.map SV.u8) (by rw [List.length_map]; omega), List.map_append]
    have hnx : 32 * (i + 1 + 1) = 32 * (i + 1) + 32 := by omega
    unfold exQ_n exC_n
    dsimp only
    rw [← hT0]
    have hz0 : 0 + 32 + I.length = 32 + I.length := by omega
    have hbk : List.take ((0 + 32 + I.length) * ti5.sz) (List.drop 0 (List.take ((0 + 32) * ti5.sz) (List.drop 0 (List.take (0 * ti5.sz) (List.drop 0 (reps 0 (SV.u8 0).cells)) ++ List.take (32 * ti5.sz) (List.drop 0 (SB.row 5 (List.map SV.u8 T0)).cells))) ++ List.take (I.length * ti5.sz) (List.drop 0 (SB.ro (List.map SV.u8 I)).cells))) ++ List.take (1 * ti5.sz) (List.drop 0 (SB.row 5 (sput (reps 1 (SV.u8 0).cells) (0 * ti5.sz) (SV.u8 (u8i ((i + 1 + 1 : Nat) : Int))))).cells) = (T0 ++ I ++ [u8i ((i + 1 + 1 : Nat) : Int)]).map SV.u8 := by
     show List.take ((0 + 32 + I.length) * 1) (List.take ((0 + 32) * 1) (([] : List SV) ++ List.take (32 * 1) (T0.map SV.u8)) ++ List.take (I.length * 1) (I.map SV.u8)) ++ [SV.u8 (u8i ((i + 1 + 1 : Nat) : Int))] = _
     rw [List.nil_append, List.take_of_length_le (l := T0.map SV.u8) (by rw [List.length_map]; omega), List.take_of_length_le (l := T0.map SV.u8) (by rw [List.length_map]; omega), List.take_of_length_le (l := I.map SV.u8) (by rw [List.length_map]; omega), List.take_of_length_le (by rw [List.length_append, List.length_map, List.length_map]; omega), List.map_append, List.map_append]; rfl
    conv => whnf
    first | refine brT (by exact hlt) ?_ | fail
    conv => whnf
    repeat (first | (refine Exists.intro _ (And.intro rfl ?_); conv => whnf) | (refine And.intro (by first | omega | (simp [ti5]; omega)) ?_; conv => whnf) | fail)
    rw [hbk, hz0]
    refine ok1_callF [0, 8] [false, false, true] false (q) rfl rfl ⟨⟨rfl, by first | rfl | fail⟩, by (repeat' (first | exact trivial | refine And.intro ?_ ?_)) <;> first | exact ren_eq (by first | (simp; done) | fail) (by first | rfl | fail) | fail, by first | simp [plainHf, plainB], by first | rfl | fail, ?_⟩
    conv => whnf
    repeat (first | (refine And.intro (by first | omega | (simp [ti5]; omega)) ?_; conv => whnf) | fail)
    refine ⟨⟨i + 1 + 1, by omega⟩, by simp only; omega, ?_⟩
    dsimp only
    rw [hos, ← hT]
    refine Weak.sel [0, 1, 10, 9] rfl rfl ?_ ?_ rfl rfl
    ·
     (repeat' (first | exact trivial | refine And.intro ?_ ?_ | fail)) <;> first | exact wk_i (by first | exact hp | exact hp.symm | fail) | rfl | fail
    ·
     (repeat' (first | exact trivial | exact ren_eq (plainL_u8 _) hap | refine And.intro ?_ ?_ | fail)) <;> first | rfl | exact ren_eq (by first | (simp; done) | fail) (by first | rfl | fail) | fail
  ·
   obtain rfl : i = m := by omega
   have hlt : decide (((32 * i : Nat) : Int) < (n : Int)) = false := by simp; omega
   rcases i with _ | i
   ·
    omega
   ·
    conv => whnf
    first | refine brF (by exact hlt) ?_ | fail
    conv => whnf
    repeat (first | (refine Exists.intro _ (And.intro rfl ?_); conv => whnf) | (refine And.intro (by first | omega | fail) ?_; conv => whnf) | fail)
    refine ⟨[0, 1, 2], ?_, rfl, rfl, ?_, rfl⟩
    ·
     (repeat' (fail)) <;> first | rfl | fail
    ·
     (repeat' (first | exact trivial | refine And.intro ?_ ?_ | fail)) <;> first | rfl | exact ren_eq (by first | (simp; done) | fail) (by first | rfl | fail) | fail
end
def exQ_w : Nat → SV
 | 0 => .slnil
 | _ + 1 => .sl 3 0 64 1 false
def exC_w (K I : List UInt8) : Nat → Option SB
 | 0 => none
 | i + 1 => some (.row 5 ((exT_w K I (i + 1)).map .u8))
section
attribute [local irreducible] mac_w exT_w exO_w
theorem f52_w (K I : List UInt8) (hK : K.length < 100000000000000) (hI : I.length < 1000000000000) (n : Nat) (hn1 : 1 ≤ n) (hn : n ≤ 16320) (fk fi : Bool) : SCall Try.prog 52 [.u8 2, .sl 0 0 K.length 1 fk, .sl 1 0 I.length 1 fi, .i (n : Int)] [some (.ro (K.map .u8)), some (.ro (I.map .u8))] (.sl 2 0 n 1 false) [some (.ro (K.map .u8)), some (.ro (I.map .u8)), some (.row 5 ((exO_w K I ((n + (64 - 1)) / 64)).map .u8))] := by
 have e1 : decide ((n : Int) < 1) = false := by simp; omega
 have e2 : decide ((n : Int) > w64 (255 * 64)) = false := by simp [w64_eq]; omega
 obtain ⟨m, hm⟩ : ∃ m, m = (n + (64 - 1)) / 64 := ⟨_, rfl⟩
 rw [← hm]
 refine scall_of ttOk (by kernel_rfl : Try.prog.funcs[52]? = some Try.f52) rfl rfl rfl ?_
 try simp only [List.length_cons, List.length_nil, Nat.zero_add, Nat.reduceAdd]
 refine sw_ok ttOk mixed (by kernel_rfl) ?_
 conv => whnf
 repeat (first | (refine gdT e1 ?_; conv => whnf) | fail)
 refine ok1_callF [] [] true (f95_w) rfl rfl ⟨⟨rfl, by first | rfl | fail⟩, trivial, by first | rfl | fail, by first | rfl | fail, ?_⟩
 conv => whnf
 repeat (first | (refine gdT e1 ?_; conv => whnf) | (refine pkF e1 ?_; conv => whnf) | (refine gdF e2 ?_; conv => whnf) | fail)
 refine SWp.weak (Weak.virt 9 5 1 rfl) ?_
 refine loop_rule ttOk mixed (by kernel_rfl) (ι := { i : Nat // i ≤ m }) (fun i => [(0, .u8 2), (1, .sl 0 0 K.length 1 fk), (2, .sl 1 0 I.length 1 fi), (3, .i n), (9, .sl 2 0 (64 * i.1) 1 false), (10, exQ_w i.1), (11, .i ((i.1 + 1 : Nat) : Int))]) (fun i => [some (.ro (K.map .u8)), some (.ro (I.map .u8)), some (.row 5 ((exO_w K I i.1).map .u8)), exC_w K I i.1]) (fun _ => 4) (fun i => m - i.1) ⟨0, by omega⟩ ?_ ?_
 ·
  have hz := exO_z_w K I
  dsimp only
  rw [hz]
  refine Weak.sel [0, 1, 2, 0] rfl rfl ?_ ?_ rfl rfl
  ·
   (repeat' (first | exact trivial | refine And.intro ?_ ?_ | fail)) <;> first | rfl | fail
  ·
   (repeat' (first | exact trivial | refine And.intro ?_ ?_ | fail)) <;> first | rfl | exact ren_eq (by first | (simp; done) | fail) (by first | rfl | fail) | fail
 ·
  rintro ⟨i, hi⟩
  dsimp only
  have hol := exO_len_w K I i
  have hos := exO_s_w K I i
  have htl := exT_len_w K I i
  have hts := exT_s_w K I i
  have hp : w64 (((i + 1 : Nat) : Int) + 1) = ((i + 1 + 1 : Nat) : Int) := by simp only [w64_eq]; omega
  by_cases hi2 : i < m
  ·
   have hlt : decide (((64 * i : Nat) : Int) < (n : Int)) = true := by simp; omega
   obtain ⟨O, hO⟩ : ∃ O, O = exO_w K I i := ⟨_, rfl⟩
   rw [← hO] at hol hos ⊢
   rcases i with _ | i
   ·
    have q := f48_w K (I ++ [u8i ((1 : Nat) : Int)]) hK (by simp; omega) fk false
    rw [← exT_1_w] at q
    have hIl : (I ++ [u8i ((1 : Nat) : Int)]).length = I.length + 1 := by simp
    rw [hIl] at q
    obtain ⟨T, hT⟩ : ∃ T, T = exT_w K I 1 := ⟨_, rfl⟩
    rw [← hT] at q
    have hTl : T.length = 64 := by rw [hT]; exact exT_len_w K I 0
    have hap : (O ++ T).map SV.u8 = List.take (64 * 0 * 1) (List.drop 0 (O.map SV.u8)) ++ List.take (64 * 1) (List.drop 0 (T.map SV.u8)) := by
     rw [List.drop_zero, List.drop_zero, List.take_of_length_le (l := O.map SV.u8) (by rw [List.length_map]; omega), List.take_of_length_le (l := T.map SV.u8) (by rw [List.length_map]; omega), List.map_append]
    have hz0 : 0 + I.length = I.length := Nat.zero_add _
    have hbk : List.take ((0 + I.length) * ti5.sz) (List.drop 0 (List.take (0 * ti5.sz) (List.drop 0 (reps 0 (SV.u8 0).cells)) ++ List.take (I.length * ti5.sz) (List.drop 0 (SB.ro (List.map SV.u8 I)).cells))) ++ List.take (1 * ti5.sz) (List.drop 0 (SB.row 5 (sput (reps 1 (SV.u8 0).cells) (0 * ti5.sz) (SV.u8 (u8i ((0 + 1 : Nat) : Int))))).cells) = (I ++ [u8i ((1 : Nat) : Int)]).map SV.u8 := by
     show List.take ((0 + I.length) * 1) (([] : List SV) ++ List.take (I.length * 1) (I.map SV.u8)) ++ [SV.u8 (u8i ((1 : Nat) : Int))] = _
     simp
    conv => whnf
    first | refine brT (by exact hlt) ?_ | fail
    conv => whnf
    repeat (first | (refine Exists.intro _ (And.intro rfl ?_); conv => whnf) | (refine And.intro (by first | omega | (simp [ti5]; omega)) ?_; conv => whnf) | fail)
    rw [hbk, hz0]
    refine ok1_callF [0, 7] [false, false, true] false (q) rfl rfl ⟨⟨rfl, by first | rfl | fail⟩, by (repeat' (first | exact trivial | refine And.intro ?_ ?_)) <;> first | exact ren_eq (by first | (simp; done) | fail) (by first | rfl | fail) | fail, by first | simp [plainHf, plainB], by first | rfl | fail, ?_⟩
    conv => whnf
    repeat (first | (refine And.intro (by first | omega | (simp [ti5]; omega)) ?_; conv => whnf) | fail)
    refine ⟨⟨1, by omega⟩, by simp only; omega, ?_⟩
    dsimp only
    rw [hos]
    unfold exQ_w exC_w
    dsimp only
    rw [← hT]
    refine Weak.sel [0, 1, 9, 8] rfl rfl ?_ ?_ rfl rfl
    ·
     (repeat' (first | exact trivial | refine And.intro ?_ ?_ | fail)) <;> first | exact wk_i (by first | exact hp | fail) | rfl | fail
    ·
     (repeat' (first | exact trivial | exact ren_eq (plainL_u8 _) hap | refine And.intro ?_ ?_ | fail)) <;> first | rfl | exact ren_eq (by first | (simp; done) | fail) (by first | rfl | fail) | fail
   ·
    obtain ⟨T0, hT0⟩ : ∃ T, T = exT_w K I (i + 1) := ⟨_, rfl⟩
    have htl0 := exT_len_w K I i
    rw [← hT0] at htl0
    have q := f48_w K (T0 ++ I ++ [u8i ((i + 1 + 1 : Nat) : Int)]) hK (by simp; omega) fk false
    have hIl : (T0 ++ I ++ [u8i ((i + 1 + 1 : Nat) : Int)]).length = 64 + I.length + 1 := by simp; omega
    rw [hIl, hT0, ← exT_s_w, ← hT0] at q
    obtain ⟨T, hT⟩ : ∃ T, T = exT_w K I (i + 1 + 1) := ⟨_, rfl⟩
    rw [← hT] at q
    have hTl : T.length = 64 := by rw [hT]; exact exT_len_w K I (i + 1)
    have hap : (O ++ T).map SV.u8 = List.take (64 * (i + 1) * 1) (List.drop 0 (O.map SV.u8)) ++ List.take (64 * 1) (List.drop 0 (T.map SV.u8)) := by
     rw [List.drop_zero, List.drop_zero, List.take_of_length_le (l := O.map SV.u8) (by rw [List.length_map]; omega), List.take_of_length_le (l := T.map SV.u8) (by rw [List.length_map]; omega), List.map_append]
    have hnx : 64 * (i + 1 + 1) = 64 * (i + 1) + 64 := by omega
    unfold exQ_w exC_w
    dsimp only
    rw [← hT0]
    have hz0 : 0 + 64 + I.length = 64 + I.length := by omega
    have hbk : List.take ((0 + 64 + I.length) * ti5.sz) (List.drop 0 (List.take ((0 + 64) * ti5.sz) (List.drop 0 (List.take (0 * ti5.sz) (List.drop 0 (reps 0 (SV.u8 0).cells)) ++ List.take (64 * ti5.sz) (List.drop 0 (SB.row 5 (List.map SV.u8 T0)).cells))) ++ List.take (I.length * ti5.sz) (List.drop 0 (SB.ro (List.map SV.u8 I)).cells))) ++ List.take (1 * ti5.sz) (List.drop 0 (SB.row 5 (sput (reps 1 (SV.u8 0).cells) (0 * ti5.sz) (SV.u8 (u8i ((i + 1 + 1 : Nat) : Int))))).cells) = (T0 ++ I ++ [u8i ((i + 1 + 1 : Nat) : Int)]).map SV.u8 := by
     show List.take ((0 + 64 + I.length) * 1) (List.take ((0 + 64) * 1) (([] : List SV) ++ List.take (64 * 1) (T0.map SV.u8)) ++ List.take (I.length * 1) (I.map SV.u8)) ++ [SV.u8 (u8i ((i + 1 + 1 : Nat) : Int))] = _
     rw [List.nil_append, List.take_of_length_le (l := T0.map SV.u8) (by rw [List.length_map]; omega), List.take_of_length_le (l := T0.map SV.u8) (by rw [List.length_map]; omega), List.take_of_length_le (l := I.map SV.u8) (by rw [List.length_map]; omega), List.take_of_length_le (by rw [List.length_append, List.length_map, List.length_map]; omega), List.map_append, List.map_append]; rfl
    conv => whnf
    first | refine brT (by exact hlt) ?_ | fail
    conv => whnf
    repeat (first | (refine Exists.intro _ (And.intro rfl ?_); conv => whnf) | (refine And.intro (by first | omega | (simp [ti5]; omega)) ?_; conv => whnf) | fail)
    rw [hbk, hz0]
    refine ok1_callF [0, 8] [false, false, true] false (q) rfl rfl ⟨⟨rfl, by first | rfl | fail⟩, by (repeat' (first | exact trivial | refine And.intro ?_ ?_)) <;> first | exact ren_eq (by first | (simp; done) | fail) (by first | rfl | fail) | fail, by first | simp [plainHf, plainB], by first | rfl | fail, ?_⟩
    conv => whnf
    repeat (first | (refine And.intro (by first | omega | (simp [ti5]; omega)) ?_; conv => whnf) | fail)
    refine ⟨⟨i + 1 + 1, by omega⟩, by simp only; omega, ?_⟩
    dsimp only
    rw [hos, ← hT]
    refine Weak.sel [0, 1, 10, 9] rfl rfl ?_ ?_ rfl rfl
    ·
     (repeat' (first | exact trivial | refine And.intro ?_ ?_ | fail)) <;> first | exact wk_i (by first | exact hp | exact hp.symm | fail) | rfl | fail
    ·
     (repeat' (first | exact trivial | exact ren_eq (plainL_u8 _) hap | refine And.intro ?_ ?_ | fail)) <;> first | rfl | exact ren_eq (by first | (simp; done) | fail) (by first | rfl | fail) | fail
  ·
   obtain rfl : i = m := by omega
   have hlt : decide (((64 * i : Nat) : Int) < (n : Int)) = false := by simp; omega
   rcases i with _ | i
   ·
    omega
   ·
    conv => whnf
    first | refine brF (by exact hlt) ?_ | fail
    conv => whnf
    repeat (first | (refine Exists.intro _ (And.intro rfl ?_); conv => whnf) | (refine And.intro (by first | omega | fail) ?_; conv => whnf) | fail)
    refine ⟨[0, 1, 2], ?_, rfl, rfl, ?_, rfl⟩
    ·
     (repeat' (fail)) <;> first | rfl | fail
    ·
     (repeat' (first | exact trivial | refine And.intro ?_ ?_ | fail)) <;> first | rfl | exact ren_eq (by first | (simp; done) | fail) (by first | rfl | fail) | fail
end
end Go.Sh
namespace Go.Sh
open Go.Proofs
set_option maxHeartbeats 8000000
attribute [local irreducible] mac_n mac_w exO_n exO_w
theorem f48_nil_n (b : List UInt8) (hb : b.length < 10000000000000) (f : Bool) : SCall Try.prog 48 [.u8 1, .slnil, .sl 1 0 b.length 1 f] [some (.ro (b.map .u8)), some (.ro (b.map .u8))] (.sl 2 0 32 1 false) [some (.ro (b.map .u8)), some (.ro (b.map .u8)), some (.row 5 ((mac_n [] b).map .u8))] :=
 SCall.nil [.u8 1] ((f48_n [] b (by decide) hb true f).sub 0 0 (b.map .u8) [] 3 rfl rfl rfl (plainL_u8 _) rfl (by decide) ⟨.inr ⟨rfl, rfl⟩, .inl rfl, .inr ⟨rfl, rfl⟩, trivial⟩ rfl ⟨.inl rfl, .inr (.inl (by simp [plainB])), trivial⟩ ⟨.inl rfl, .inr (.inl (by simp [plainB])), .inr (.inl (by simp [plainB])), trivial⟩) rfl
theorem f48_nil_w (b : List UInt8) (hb : b.length < 10000000000000) (f : Bool) : SCall Try.prog 48 [.u8 2, .slnil, .sl 1 0 b.length 1 f] [some (.ro (b.map .u8)), some (.ro (b.map .u8))] (.sl 2 0 64 1 false) [some (.ro (b.map .u8)), some (.ro (b.map .u8)), some (.row 5 ((mac_w [] b).map .u8))] :=
 SCall.nil [.u8 2] ((f48_w [] b (by decide) hb true f).sub 0 0 (b.map .u8) [] 3 rfl rfl rfl (plainL_u8 _) rfl (by decide) ⟨.inr ⟨rfl, rfl⟩, .inl rfl, .inr ⟨rfl, rfl⟩, trivial⟩ rfl ⟨.inl rfl, .inr (.inl (by simp [plainB])), trivial⟩ ⟨.inl rfl, .inr (.inl (by simp [plainB])), .inr (.inl (by simp [plainB])), trivial⟩) rfl
theorem f117_n (K : UInt16) (A B C : Nat) (q69 : SCall Try.prog 69 [.u16 K] [] (.sl 0 0 5 1 true) [some (.row 3 [.i 1, .i (A : Int), .i (B : Int), .i (C : Int), .i 32])]) (b T : List UInt8) (h1 : b.length ≤ 1024) (hT : T.length < 10000) (n : Nat) (hn1 : 1 ≤ n) (hn : n ≤ 8160) (f ft : Bool) : SCall Try.prog 117 [.u16 K, .sl 0 0 b.length 1 f, .sl 1 0 T.length 1 ft, .i (n : Int)] [some (.ro (b.map .u8)), some (.ro (T.map .u8))] (.sl 2 0 n 1 false) [some (.ro (b.map .u8)), some (.ro (T.map .u8)), some (.row 5 ((exO_n (mac_n [] b) T ((n + (32 - 1)) / 32)).map .u8))] := by
 have q := f48_nil_n b (by omega) f
 have l := mac_len_n [] b
 have q2 := f52_n (mac_n [] b) T (by omega) (by omega) n hn1 hn false ft
 rw [l] at q2
 have l2 := exO_len_n (mac_n [] b) T ((n + (32 - 1)) / 32)
 obtain ⟨X, hX⟩ : ∃ X, X = mac_n [] b := ⟨_, rfl⟩
 rw [← hX] at q q2 l l2 ⊢
 obtain ⟨Y, hY⟩ : ∃ Y, Y = exO_n X T ((n + (32 - 1)) / 32) := ⟨_, rfl⟩
 rw [← hY] at q2 l2 ⊢
 clear hX hY
 refine scall_of ttOk (by kernel_rfl : Try.prog.funcs[117]? = some Try.f117) rfl rfl rfl ?_
 try simp only [List.length_cons, List.length_nil, Nat.zero_add, Nat.reduceAdd]
 refine sw_ok ttOk mixed (by kernel_rfl) ?_
 conv => whnf
 repeat (fail)
 refine ok1_callF [] [true] false (q69) rfl rfl ⟨⟨rfl, by first | rfl | fail⟩, trivial, by first | rfl | fail, by first | rfl | fail, ?_⟩
 conv => whnf
 repeat (first | (refine Exists.intro _ (And.intro rfl ?_); conv => whnf) | (refine And.intro (by first | omega | fail) ?_; conv => whnf) | fail)
 refine ok1_callF [0, 0] [false, false, true] false (q) rfl rfl ⟨⟨rfl, by first | rfl | fail⟩, by (repeat' (first | exact trivial | refine And.intro ?_ ?_)) <;> first | exact ren_eq (by first | (simp; done) | fail) (by first | rfl | fail) | fail, by first | simp [plainHf, plainB], by first | rfl | fail, ?_⟩
 conv => whnf
 repeat (fail)
 refine ok1_callF [3, 1] [false, false, true] false (q2) rfl rfl ⟨⟨rfl, by first | rfl | fail⟩, by (repeat' (first | exact trivial | refine And.intro ?_ ?_)) <;> first | exact ren_eq (by first | (simp; done) | fail) (by first | rfl | fail) | fail, by first | simp [plainHf, plainB], by first | rfl | fail, ?_⟩
 conv => whnf
 repeat (fail)
 refine ⟨[0, 1, 4], ?_, rfl, rfl, ?_, rfl⟩
 ·
  (repeat' (fail)) <;> first | rfl | fail
 ·
  (repeat' (first | exact trivial | refine And.intro ?_ ?_ | fail)) <;> first | rfl | exact ren_eq (by first | (simp; done) | fail) (by first | rfl | fail) | fail
theorem f72_n (K : UInt16) (A B C : Nat) (q69 : SCall Try.prog 69 [.u16 K] [] (.sl 0 0 5 1 true) [some (.row 3 [.i 1, .i (A : Int), .i (B : Int), .i (C : Int), .i 32])]) (hA : 1 ≤ A) (hA2 : A ≤ 48) (b : List UInt8) (h1 : b.length ≤ 1024) (f : Bool) (kid : UInt64) : SCall Try.prog 72 [.u16 K, .sl 0 0 b.length 1 f, .u64 kid] [some (.ro (b.map .u8))] (.sl 1 0 A 1 false) [some (.ro (b.map .u8)), some (.row 5 ((exO_n (mac_n [] b) (infoL keyS kid K) ((A + (32 - 1)) / 32)).map .u8))] := by
 have p1 := f118 keyS (by decide) kid K
 have i1 := infoL_len keyS kid K
 have q2 := f117_n K A B C q69 b (infoL keyS kid K) h1 (by rw [i1]; decide) A hA (by omega) f false
 rw [i1] at q2
 obtain ⟨I1, hI1⟩ : ∃ Y, Y = infoL keyS kid K := ⟨_, rfl⟩
 rw [← hI1] at p1 q2 i1 ⊢
 obtain ⟨Y, hY⟩ : ∃ Y, Y = exO_n (mac_n [] b) I1 ((A + (32 - 1)) / 32) := ⟨_, rfl⟩
 rw [← hY] at q2 ⊢
 clear hI1 hY
 refine scall_of ttOk (by kernel_rfl : Try.prog.funcs[72]? = some Try.f72) rfl rfl rfl ?_
 try simp only [List.length_cons, List.length_nil, Nat.zero_add, Nat.reduceAdd]
 refine sw_ok ttOk mixed (by kernel_rfl) ?_
 conv => whnf
 repeat (fail)
 refine ok1_callF [] [true] false (p1) rfl rfl ⟨⟨rfl, by first | rfl | fail⟩, trivial, by first | simp [plainHf, plainB], by first | rfl | fail, ?_⟩
 conv => whnf
 repeat (fail)
 refine ok1_callF [] [true] false (q69) rfl rfl ⟨⟨rfl, by first | rfl | fail⟩, trivial, by first | rfl | fail, by first | rfl | fail, ?_⟩
 conv => whnf
 repeat (first | (refine Exists.intro _ (And.intro rfl ?_); conv => whnf) | (refine And.intro (by first | omega | fail) ?_; conv => whnf) | fail)
 refine ok1_callF [0, 1] [false, false, true] false (q2) rfl rfl ⟨⟨rfl, by first | rfl | fail⟩, by (repeat' (first | exact trivial | refine And.intro ?_ ?_)) <;> first | exact ren_eq (by first | (simp; done) | fail) (by first | rfl | fail) | fail, by first | simp [plainHf, plainB], by first | rfl | fail, ?_⟩
 conv => whnf
 repeat (fail)
 refine ⟨[0, 3], ?_, rfl, rfl, ?_, rfl⟩
 ·
  (repeat' (fail)) <;> first | rfl | fail
 ·
  (repeat' (first | exact trivial | refine And.intro ?_ ?_ | fail)) <;> first | rfl | exact ren_eq (by first | (simp; done) | fail) (by first | rfl | fail) | fail
theorem f71_n (K : UInt16) (A B C : Nat) (q69 : SCall Try.prog 69 [.u16 K] [] (.sl 0 0 5 1 true) [some (.row 3 [.i 1, .i (A : Int), .i (B : Int), .i (C : Int), .i 32])]) (b : List UInt8) (h1 : b.length ≤ 1024) (f : Bool) (kid : UInt64) : SCall Try.prog 71 [.u16 K, .sl 0 0 b.length 1 f, .u64 kid] [some (.ro (b.map .u8))] (.sl 1 0 12 1 false) [some (.ro (b.map .u8)), some (.row 5 ((exO_n (mac_n [] b) (infoL saltS kid K) 1).map .u8))] := by
 have p1 := f118 saltS (by decide) kid K
 have i1 := infoL_len saltS kid K
 have q2 := f117_n K A B C q69 b (infoL saltS kid K) h1 (by rw [i1]; decide) 12 (by decide) (by decide) f false
 rw [show exO_n (mac_n [] b) (infoL saltS kid K) ((12 + (32 - 1)) / 32) = exO_n (mac_n [] b) (infoL saltS kid K) 1 from rfl, i1] at q2
 obtain ⟨I1, hI1⟩ : ∃ Y, Y = infoL saltS kid K := ⟨_, rfl⟩
 rw [← hI1] at p1 q2 i1 ⊢
 obtain ⟨Y, hY⟩ : ∃ Y, Y = exO_n (mac_n [] b) I1 1 := ⟨_, rfl⟩
 rw [← hY] at q2 ⊢
 clear hI1 hY
 refine scall_of ttOk (by kernel_rfl : Try.prog.funcs[71]? = some Try.f71) rfl rfl rfl ?_
 try simp only [List.length_cons, List.length_nil, Nat.zero_add, Nat.reduceAdd]
 refine sw_ok ttOk mixed (by kernel_rfl) ?_
 conv => whnf
 repeat (fail)
 refine ok1_callF [] [true] false (p1) rfl rfl ⟨⟨rfl, by first | rfl | fail⟩, trivial, by first | simp [plainHf, plainB], by first | rfl | fail, ?_⟩
 conv => whnf
 repeat (fail)
 refine ok1_callF [0, 1] [false, false, true] false (q2) rfl rfl ⟨⟨rfl, by first | rfl | fail⟩, by (repeat' (first | exact trivial | refine And.intro ?_ ?_)) <;> first | exact ren_eq (by first | (simp; done) | fail) (by first | rfl | fail) | fail, by first | simp [plainHf, plainB], by first | rfl | fail, ?_⟩
 conv => whnf
 repeat (fail)
 refine ⟨[0, 2], ?_, rfl, rfl, ?_, rfl⟩
 ·
  (repeat' (fail)) <;> first | rfl | fail
 ·
  (repeat' (first | exact trivial | refine And.intro ?_ ?_ | fail)) <;> first | rfl | exact ren_eq (by first | (simp; done) | fail) (by first | rfl | fail) | fail
theorem f73_n (K : UInt16) (A B C : Nat) (q69 : SCall Try.prog 69 [.u16 K] [] (.sl 0 0 5 1 true) [some (.row 3 [.i 1, .i (A : Int), .i (B : Int), .i (C : Int), .i 32])]) (b : List UInt8) (h1 : b.length ≤ 1024) (f : Bool) : SCall Try.prog 73 [.u16 K, .sl 0 0 b.length 1 f] [some (.ro (b.map .u8))] (.sl 1 0 32 1 false) [some (.ro (b.map .u8)), some (.row 5 ((exO_n (mac_n [] b) ratS 1).map .u8))] := by
 have q2 := f117_n K A B C q69 b ratS h1 (by decide) 32 (by decide) (by decide) f true
 rw [show exO_n (mac_n [] b) ratS ((32 + (32 - 1)) / 32) = exO_n (mac_n [] b) ratS 1 from rfl] at q2
 obtain ⟨Y, hY⟩ : ∃ Y, Y = exO_n (mac_n [] b) ratS 1 := ⟨_, rfl⟩
 rw [← hY] at q2 ⊢
 clear hY
 refine scall_of ttOk (by kernel_rfl : Try.prog.funcs[73]? = some Try.f73) rfl rfl rfl ?_
 try simp only [List.length_cons, List.length_nil, Nat.zero_add, Nat.reduceAdd]
 refine sw_ok ttOk mixed (by kernel_rfl) ?_
 conv => whnf
 repeat (first | (refine Exists.intro _ (And.intro rfl ?_); conv => whnf) | fail)
 refine ok1_callF [] [true] false (q69) rfl rfl ⟨⟨rfl, by first | rfl | fail⟩, trivial, by first | rfl | fail, by first | rfl | fail, ?_⟩
 conv => whnf
 repeat (first | (refine Exists.intro _ (And.intro rfl ?_); conv => whnf) | (refine And.intro (by first | omega | fail) ?_; conv => whnf) | fail)
 refine ok1_callF [0, 1] [false, false, true] false (q2) rfl rfl ⟨⟨rfl, by first | rfl | fail⟩, by (repeat' (first | exact trivial | refine And.intro ?_ ?_)) <;> first | rfl | exact ren_eq (by first | (simp; done) | fail) (by first | rfl | fail) | fail, by first | simp [plainHf, plainB], by first | rfl | fail, ?_⟩
 conv => whnf
 repeat (fail)
 refine ⟨[0, 3], ?_, rfl, rfl, ?_, rfl⟩
 ·
  (repeat' (fail)) <;> first | rfl | fail
 ·
  (repeat' (first | exact trivial | refine And.intro ?_ ?_ | fail)) <;> first | rfl | exact ren_eq (by first | (simp; done) | fail) (by first | rfl | fail) | fail
theorem f117_w (K : UInt16) (A B C : Nat) (q69 : SCall Try.prog 69 [.u16 K] [] (.sl 0 0 5 1 true) [some (.row 3 [.i 2, .i (A : Int), .i (B : Int), .i (C : Int), .i 64])]) (b T : List UInt8) (h1 : b.length ≤ 1024) (hT : T.length < 10000) (n : Nat) (hn1 : 1 ≤ n) (hn : n ≤ 16320) (f ft : Bool) : SCall Try.prog 117 [.u16 K, .sl 0 0 b.length 1 f, .sl 1 0 T.length 1 ft, .i (n : Int)] [some (.ro (b.map .u8)), some (.ro (T.map .u8))] (.sl 2 0 n 1 false) [some (.ro (b.map .u8)), some (.ro (T.map .u8)), some (.row 5 ((exO_w (mac_w [] b) T ((n + (64 - 1)) / 64)).map .u8))] := by
 have q := f48_nil_w b (by omega) f
 have l := mac_len_w [] b
 have q2 := f52_w (mac_w [] b) T (by omega) (by omega) n hn1 hn false ft
 rw [l] at q2
 have l2 := exO_len_w (mac_w [] b) T ((n + (64 - 1)) / 64)
 obtain ⟨X, hX⟩ : ∃ X, X = mac_w [] b := ⟨_, rfl⟩
 rw [← hX] at q q2 l l2 ⊢
 obtain ⟨Y, hY⟩ : ∃ Y, Y = exO_w X T ((n + (64 - 1)) / 64) := ⟨_, rfl⟩
 rw [← hY] at q2 l2 ⊢
 clear hX hY
 refine scall_of ttOk (by kernel_rfl : Try.prog.funcs[117]? = some Try.f117) rfl rfl rfl ?_
 try simp only [List.length_cons, List.length_nil, Nat.zero_add, Nat.reduceAdd]
 refine sw_ok ttOk mixed (by kernel_rfl) ?_
 conv => whnf
 repeat (fail)
 refine ok1_callF [] [true] false (q69) rfl rfl ⟨⟨rfl, by first | rfl | fail⟩, trivial, by first | rfl | fail, by first | rfl | fail, ?_⟩
 conv => whnf
 repeat (first | (refine Exists.intro _ (And.intro rfl ?_); conv => whnf) | (refine And.intro (by first | omega | fail) ?_; conv => whnf) | fail)
 refine ok1_callF [0, 0] [false, false, true] false (q) rfl rfl ⟨⟨rfl, by first | rfl | fail⟩, by (repeat' (first | exact trivial | refine And.intro ?_ ?_)) <;> first | exact ren_eq (by first | (simp; done) | fail) (by first | rfl | fail) | fail, by first | simp [plainHf, plainB], by first | rfl | fail, ?_⟩
 conv => whnf
 repeat (fail)
 refine ok1_callF [3, 1] [false, false, true] false (q2) rfl rfl ⟨⟨rfl, by first | rfl | fail⟩, by (repeat' (first | exact trivial | refine And.intro ?_ ?_)) <;> first | exact ren_eq (by first | (simp; done) | fail) (by first | rfl | fail) | fail, by first | simp [plainHf, plainB], by first | rfl | fail, ?_⟩
 conv => whnf
 repeat (fail)
 refine ⟨[0, 1, 4], ?_, rfl, rfl, ?_, rfl⟩
 ·
  (repeat' (fail)) <;> first | rfl | fail
 ·
  (repeat' (first | exact trivial | refine And.intro ?_ ?_ | fail)) <;> first | rfl | exact ren_eq (by first | (simp; done) | fail) (by first | rfl | fail) | fail
theorem f72_w (K : UInt16) (A B C : Nat) (q69 : SCall Try.prog 69 [.u16 K] [] (.sl 0 0 5 1 true) [some (.row 3 [.i 2, .i (A : Int), .i (B : Int), .i (C : Int), .i 64])]) (hA : 1 ≤ A) (hA2 : A ≤ 48) (b : List UInt8) (h1 : b.length ≤ 1024) (f : Bool) (kid : UInt64) : SCall Try.prog 72 [.u16 K, .sl 0 0 b.length 1 f, .u64 kid] [some (.ro (b.map .u8))] (.sl 1 0 A 1 false) [some (.ro (b.map .u8)), some (.row 5 ((exO_w (mac_w [] b) (infoL keyS kid K) ((A + (64 - 1)) / 64)).map .u8))] := by
 have p1 := f118 keyS (by decide) kid K
 have i1 := infoL_len keyS kid K
 have q2 := f117_w K A B C q69 b (infoL keyS kid K) h1 (by rw [i1]; decide) A hA (by omega) f false
 rw [i1] at q2
 obtain ⟨I1, hI1⟩ : ∃ Y, Y = infoL keyS kid K := ⟨_, rfl⟩
 rw [← hI1] at p1 q2 i1 ⊢
 obtain ⟨Y, hY⟩ : ∃ Y, Y = exO_w (mac_w [] b) I1 ((A + (64 - 1)) / 64) := ⟨_, rfl⟩
 rw [← hY] at q2 ⊢
 clear hI1 hY
 refine scall_of ttOk (by kernel_rfl : Try.prog.funcs[72]? = some Try.f72) rfl rfl rfl ?_
 try simp only [List.length_cons, List.length_nil, Nat.zero_add, Nat.reduceAdd]
 refine sw_ok ttOk mixed (by kernel_rfl) ?_
 conv => whnf
 repeat (fail)
 refine ok1_callF [] [true] false (p1) rfl rfl ⟨⟨rfl, by first | rfl | fail⟩, trivial, by first | simp [plainHf, plainB], by first | rfl | fail, ?_⟩
 conv => whnf
 repeat (fail)
 refine ok1_callF [] [true] false (q69) rfl rfl ⟨⟨rfl, by first | rfl | fail⟩, trivial, by first | rfl | fail, by first | rfl | fail, ?_⟩
 conv => whnf
 repeat (first | (refine Exists.intro _ (And.intro rfl ?_); conv => whnf) | (refine And.intro (by first | omega | fail) ?_; conv => whnf) | fail)
 refine ok1_callF [0, 1] [false, false, true] false (q2) rfl rfl ⟨⟨rfl, by first | rfl | fail⟩, by (repeat' (first | exact trivial | refine And.intro ?_ ?_)) <;> first | exact ren_eq (by first | (simp; done) | fail) (by first | rfl | fail) | fail, by first | simp [plainHf, plainB], by first | rfl | fail, ?_⟩
 conv => whnf
 repeat (fail)
 refine ⟨[0, 3], ?_, rfl, rfl, ?_, rfl⟩
 ·
  (repeat' (fail)) <;> first | rfl | fail
 ·
  (repeat' (first | exact trivial | refine And.intro ?_ ?_ | fail)) <;> first | rfl | exact ren_eq (by first | (simp; done) | fail) (by first | rfl | fail) | fail
theorem f71_w (K : UInt16) (A B C : Nat) (q69 : SCall Try.prog 69 [.u16 K] [] (.sl 0 0 5 1 true) [some (.row 3 [.i 2, .i (A : Int), .i (B : Int), .i (C : Int), .i 64])]) (b : List UInt8) (h1 : b.length ≤ 1024) (f : Bool) (kid : UInt64) : SCall Try.prog 71 [.u16 K, .sl 0 0 b.length 1 f, .u64 kid] [some (.ro (b.map .u8))] (.sl 1 0 12 1 false) [some (.ro (b.map .u8)), some (.row 5 ((exO_w (mac_w [] b) (infoL saltS kid K) 1).map .u8))] := by
 have p1 := f118 saltS (by decide) kid K
 have i1 := infoL_len saltS kid K
 have q2 := f117_w K A B C q69 b (infoL saltS kid K) h1 (by rw [i1]; decide) 12 (by decide) (by decide) f false
 rw [show exO_w (mac_w [] b) (infoL saltS kid K) ((12 + (64 - 1)) / 64) = exO_w (mac_w [] b) (infoL saltS kid K) 1 from rfl, i1] at q2
 obtain ⟨I1, hI1⟩ : ∃ Y, Y = infoL saltS kid K := ⟨_, rfl⟩
 rw [← hI1] at p1 q2 i1 ⊢
 obtain ⟨Y, hY⟩ : ∃ Y, Y = exO_w (mac_w [] b) I1 1 := ⟨_, rfl⟩
 rw [← hY] at q2 ⊢
 clear hI1 hY
 refine scall_of ttOk (by kernel_rfl : Try.prog.funcs[71]? = some Try.f71) rfl rfl rfl ?_
 try simp only [List.length_cons, List.length_nil, Nat.zero_add, Nat.reduceAdd]
 refine sw_ok ttOk mixed (by kernel_rfl) ?_
 conv => whnf
 repeat (fail)
 refine ok1_callF [] [true] false (p1) rfl rfl ⟨⟨rfl, by first | rfl | fail⟩, trivial, by first | simp [plainHf, plainB], by first | rfl | fail, ?_⟩
 conv => whnf
 repeat (fail)
 refine ok1_callF [0, 1] [false, false, true] false (q2) rfl rfl ⟨⟨rfl, by first | rfl | fail⟩, by (repeat' (first | exact trivial | refine And.intro ?_ ?_)) <;> first | exact ren_eq (by first | (simp; done) | fail) (by first | rfl | fail) | fail, by first | simp [plainHf, plainB], by first | rfl | fail, ?_⟩
 conv => whnf
 repeat (fail)
 refine ⟨[0, 2], ?_, rfl, rfl, ?_, rfl⟩
 ·
  (repeat' (fail)) <;> first | rfl | fail
 ·
  (repeat' (first | exact trivial | refine And.intro ?_ ?_ | fail)) <;> first | rfl | exact ren_eq (by first | (simp; done) | fail) (by first | rfl | fail) | fail
theorem f73_w (K : UInt16) (A B C : Nat) (q69 : SCall Try.prog 69 [.u16 K] [] (.sl 0 0 5 1 true) [some (.row 3 [.i 2, .i (A : Int), .i (B : Int), .i (C : Int), .i 64])]) (b : List UInt8) (h1 : b.length ≤ 1024) (f : Bool) : SCall Try.prog 73 [.u16 K, .sl 0 0 b.length 1 f] [some (.ro (b.map .u8))] (.sl 1 0 64 1 false) [some (.ro (b.map .u8)), some (.row 5 ((exO_w (mac_w [] b) ratS 1).map .u8))] := by
 have q2 := f117_w K A B C q69 b ratS h1 (by decide) 64 (by decide) (by decide) f true
 rw [show exO_w (mac_w [] b) ratS ((64 + (64 - 1)) / 64) = exO_w (mac_w [] b) ratS 1 from rfl] at q2
 obtain ⟨Y, hY⟩ : ∃ Y, Y = exO_w (mac_w [] b) ratS 1 := ⟨_, rfl⟩
 rw [← hY] at q2 ⊢
 clear hY
 refine scall_of ttOk (by kernel_rfl : Try.prog.funcs[73]? = some Try.f73) rfl rfl rfl ?_
 try simp only [List.length_cons, List.length_nil, Nat.zero_add, Nat.reduceAdd]
 refine sw_ok ttOk mixed (by kernel_rfl) ?_
 conv => whnf
 repeat (first | (refine Exists.intro _ (And.intro rfl ?_); conv => whnf) | fail)
 refine ok1_callF [] [true] false (q69) rfl rfl ⟨⟨rfl, by first | rfl | fail⟩, trivial, by first | rfl | fail, by first | rfl | fail, ?_⟩
 conv => whnf
 repeat (first | (refine Exists.intro _ (And.intro rfl ?_); conv => whnf) | (refine And.intro (by first | omega | fail) ?_; conv => whnf) | fail)
 refine ok1_callF [0, 1] [false, false, true] false (q2) rfl rfl ⟨⟨rfl, by first | rfl | fail⟩, by (repeat' (first | exact trivial | refine And.intro ?_ ?_)) <;> first | rfl | exact ren_eq (by first | (simp; done) | fail) (by first | rfl | fail) | fail, by first | simp [plainHf, plainB], by first | rfl | fail, ?_⟩
 conv => whnf
 repeat (fail)
 refine ⟨[0, 3], ?_, rfl, rfl, ?_, rfl⟩
 ·
  (repeat' (fail)) <;> first | rfl | fail
 ·
  (repeat' (first | exact trivial | refine And.intro ?_ ?_ | fail)) <;> first | rfl | exact ren_eq (by first | (simp; done) | fail) (by first | rfl | fail) | fail
end Go.Sh
namespace Go.Sh
open Go.Proofs
set_option maxHeartbeats 8000000
theorem sput_salt {a b c : SV} {Y : List UInt8} (h : Y.length = 12) : sput [a, b, c, .u8 0, .u8 0, .u8 0, .u8 0, .u8 0, .u8 0, .u8 0, .u8 0, .u8 0, .u8 0, .u8 0, .u8 0] 3 (.agg (Y.map .u8)) = a :: b :: c :: Y.map .u8 := by
 have hl : (Y.map SV.u8).length = 12 := by rw [List.length_map, h]
 simp [sput, hl]
attribute [local irreducible] mac_n mac_w exO_n exO_w
theorem f67_n (K : UInt16) (A B C : Nat) (q66 : SCall Try.prog 66 [.u16 K] [] (.tup [infoS 1 A B C 32, .i 0]) []) (hA : 1 ≤ A) (hA2 : A ≤ 48) (b : List UInt8) (h0 : 0 < b.length) (h1 : b.length ≤ 1024) (f : Bool) (kid : UInt64) : SCall Try.prog 67 [.u16 K, .sl 0 0 b.length 1 f, .u64 kid] [some (.ro (b.map .u8))] (.tup [.agg (.u16 K :: .u64 kid :: .sl 1 0 A 1 true :: ((exO_n (mac_n [] b) (infoL saltS kid K) 1).take 12).map .u8), .i 0]) [some (.ro (b.map .u8)), some (.row 5 ((exO_n (mac_n [] b) (infoL keyS kid K) ((A + (32 - 1)) / 32)).map .u8))] := by
 have q := f115_n K A B C q66 b h0 h1 f
 have l := mac_len_n [] b
 have p1 := f116 keyS (by decide) kid K
 have p2 := f116 saltS (by decide) kid K
 have i1 := infoL_len keyS kid K
 have i2 := infoL_len saltS kid K
 have q2 := f51_n (mac_n [] b) (infoL keyS kid K) (by omega) (by rw [i1]; decide) A hA (by omega) true false
 have q3 := f51_n (mac_n [] b) (infoL saltS kid K) (by omega) (by rw [i2]; decide) 12 (by decide) (by decide) true false
 rw [l, i1] at q2
 rw [show exO_n (mac_n [] b) (infoL saltS kid K) ((12 + (32 - 1)) / 32) = exO_n (mac_n [] b) (infoL saltS kid K) 1 from rfl, l, i2] at q3
 have l2 := exO_len_n (mac_n [] b) (infoL keyS kid K) ((A + (32 - 1)) / 32)
 have l3 := exO_len_n (mac_n [] b) (infoL saltS kid K) 1
 obtain ⟨X, hX⟩ : ∃ X, X = mac_n [] b := ⟨_, rfl⟩
 rw [← hX] at q q2 q3 l l2 l3 ⊢
 obtain ⟨I1, hI1⟩ : ∃ Y, Y = infoL keyS kid K := ⟨_, rfl⟩
 obtain ⟨I2, hI2⟩ : ∃ Y, Y = infoL saltS kid K := ⟨_, rfl⟩
 rw [← hI1] at p1 q2 l2 i1 ⊢
 rw [← hI2] at p2 q3 l3 i2 ⊢
 obtain ⟨Y, hY⟩ : ∃ Y, Y = exO_n X I1 ((A + (32 - 1)) / 32) := ⟨_, rfl⟩
 obtain ⟨W, hW⟩ : ∃ Y, Y = exO_n X I2 1 := ⟨_, rfl⟩
 rw [← hY] at q2 l2 ⊢
 rw [← hW] at q3 l3 ⊢
 have l4 : (W.take 12).length = 12 := by rw [List.length_take]; omega
 have ht : List.take (min 12 (12 - 0) * 1) (List.take (12 * 1) (List.drop 0 (W.map SV.u8))) = (W.take 12).map .u8 := by
  show List.take 12 (List.take 12 (W.map SV.u8)) = _
  rw [List.take_take, List.map_take]; rfl
 have hld : sload true 15 (sput [.u16 K, .u64 kid, .sl 6 0 A 1 true, .u8 0, .u8 0, .u8 0, .u8 0, .u8 0, .u8 0, .u8 0, .u8 0, .u8 0, .u8 0, .u8 0, .u8 0] 3 (.agg (List.take (min 12 (12 - 0) * 1) (List.take (12 * 1) (List.drop 0 (W.map SV.u8)))))) 0 = some (.agg (.u16 K :: .u64 kid :: .sl 6 0 A 1 true :: (W.take 12).map .u8)) := by
  rw [ht, sput_salt l4]
  have hl2 : (SV.u16 K :: .u64 kid :: .sl 6 0 A 1 true :: (W.take 12).map SV.u8).length = 15 := by simp [l4]; omega
  simp only [sload, if_true, List.drop_zero]
  rw [if_pos (by omega), List.take_of_length_le (by omega)]
 clear hX hI1 hI2 hY hW
 refine scall_of ttOk (by kernel_rfl : Try.prog.funcs[67]? = some Try.f67) rfl rfl rfl ?_
 try simp only [List.length_cons, List.length_nil, Nat.zero_add, Nat.reduceAdd]
 refine sw_ok ttOk mixed (by kernel_rfl) ?_
 conv => whnf
 repeat (fail)
 refine ok1_callF [0] [false, true] false (q) rfl rfl ⟨⟨rfl, by first | rfl | fail⟩, by (repeat' (first | exact trivial | refine And.intro ?_ ?_)) <;> first | exact ren_eq (by first | (simp; done) | fail) (by first | rfl | fail) | fail, by first | simp [plainHf, plainB], by first | rfl | fail, ?_⟩
 conv => whnf
 repeat (first | (refine brF rfl ?_; conv => whnf) | (refine Exists.intro _ (And.intro (sput_all rfl (by first | rfl | fail)) ?_); conv => whnf) | (refine Exists.intro _ (And.intro rfl ?_); conv => whnf) | (refine And.intro (by first | omega | (simp; done) | fail) ?_; conv => whnf) | (refine And.intro ⟨rfl, Nat.le_of_ble_eq_true rfl⟩ ?_; conv => whnf) | fail)
 refine ok1_callF [] [true] false (p1) rfl rfl ⟨⟨rfl, by first | rfl | fail⟩, trivial, by first | simp [plainHf, plainB], by first | rfl | fail, ?_⟩
 conv => whnf
 repeat (first | (refine Exists.intro _ (And.intro rfl ?_); conv => whnf) | fail)
 refine ok1_callF [2, 5] [false, false, true] false (q2) rfl rfl ⟨⟨rfl, by first | rfl | fail⟩, by (repeat' (first | exact trivial | refine And.intro ?_ ?_)) <;> first | exact ren_eq (by first | (simp; done) | fail) (by first | rfl | fail) | fail, by first | simp [plainHf, plainB], by first | rfl | fail, ?_⟩
 conv => whnf
 repeat (first | (refine Exists.intro _ (And.intro rfl ?_); conv => whnf) | (refine And.intro ⟨rfl, Nat.le_of_ble_eq_true rfl⟩ ?_; conv => whnf) | (refine And.intro (by kernel_rfl) ?_; conv => whnf) | fail)
 refine ok1_callF [] [true] false (p2) rfl rfl ⟨⟨rfl, by first | rfl | fail⟩, trivial, by first | simp [plainHf, plainB], by first | rfl | fail, ?_⟩
 conv => whnf
 repeat (fail)
 refine ok1_callF [2, 7] [false, false, true] false (q3) rfl rfl ⟨⟨rfl, by first | rfl | fail⟩, by (repeat' (first | exact trivial | refine And.intro ?_ ?_)) <;> first | exact ren_eq (by first | (simp; done) | fail) (by first | rfl | fail) | fail, by first | simp [plainHf, plainB], by first | rfl | fail, ?_⟩
 conv => whnf
 repeat (first | (refine Exists.intro _ (And.intro (sload_all rfl (by first | rfl | (simp [l2, l3, l4]; done) | fail)) ?_); conv => whnf) | (refine Exists.intro _ (And.intro (sput_all rfl (by first | rfl | (simp [l2, l3, l4]; done) | fail)) ?_); conv => whnf) | (refine Exists.intro _ (And.intro (hld) ?_); conv => whnf) | (refine Exists.intro _ (And.intro rfl ?_); conv => whnf) | (refine And.intro (by first | omega | (simp; omega) | fail) ?_; conv => whnf) | (refine And.intro ⟨Nat.le_of_ble_eq_true rfl, Nat.le_of_ble_eq_true rfl, Nat.le_of_ble_eq_true rfl, Nat.le_of_ble_eq_true rfl⟩ ?_; conv => whnf) | (refine And.intro (by kernel_rfl) ?_; conv => whnf) | (refine And.intro ⟨by first | exact Nat.le_of_ble_eq_true rfl | fail, by first | (simp [l2, l3, l4]; done) | fail, by first | exact Nat.le_of_ble_eq_true rfl | fail⟩ ?_; conv => whnf) | fail)
 refine ⟨[0, 6], ?_, rfl, rfl, ?_, rfl⟩
 ·
  (repeat' (first | (refine wk_tup ?_) | (refine wk_agg ?_) | (refine wk_cons ?_ ?_))) <;> first | rfl | exact ren_m8 (by first | rfl | fail) | fail
 ·
  (repeat' (first | exact trivial | refine And.intro ?_ ?_ | fail)) <;> first | rfl | exact ren_eq (by first | (simp; done) | fail) (by first | rfl | fail) | fail
theorem f67_n_x (K : UInt16) (A B C : Nat) (q66 : SCall Try.prog 66 [.u16 K] [] (.tup [infoS 1 A B C 32, .i 0]) []) (b : List UInt8) (h0 : b.length = 0 ∨ 1024 < b.length) (f : Bool) (kid : UInt64) : SCall Try.prog 67 [.u16 K, .sl 0 0 b.length 1 f, .u64 kid] [some (.ro (b.map .u8))] (.tup [.agg (.u16 0 :: .u64 0 :: .slnil :: List.replicate 12 (.u8 0)), .i 2]) [some (.ro (b.map .u8))] := by
 have q := f115_n_x K A B C q66 b h0 f
 refine scall_of ttOk (by kernel_rfl : Try.prog.funcs[67]? = some Try.f67) rfl rfl rfl ?_
 try simp only [List.length_cons, List.length_nil, Nat.zero_add, Nat.reduceAdd]
 refine sw_ok ttOk mixed (by kernel_rfl) ?_
 conv => whnf
 repeat (fail)
 refine ok1_callF [0] [false] false (q) rfl rfl ⟨⟨rfl, by first | rfl | fail⟩, by (repeat' (first | exact trivial | refine And.intro ?_ ?_)) <;> first | exact ren_eq (by first | (simp; done) | fail) (by first | rfl | fail) | fail, by first | rfl | fail, by first | rfl | fail, ?_⟩
 conv => whnf
 repeat (first | (refine brT rfl ?_; conv => whnf) | (refine Exists.intro _ (And.intro (sload_all rfl (by first | rfl | fail)) ?_); conv => whnf) | (refine Exists.intro _ (And.intro (sput_all rfl (by first | rfl | fail)) ?_); conv => whnf) | (refine Exists.intro _ (And.intro rfl ?_); conv => whnf) | (refine And.intro (by first | omega | (simp; done) | fail) ?_; conv => whnf) | fail)
 refine ⟨[0], ?_, rfl, rfl, ?_, rfl⟩
 ·
  (repeat' (first | (refine wk_tup ?_) | (refine wk_agg ?_) | (refine wk_cons ?_ ?_))) <;> first | rfl | fail
 ·
  (repeat' (first | exact trivial | refine And.intro ?_ ?_ | fail)) <;> first | exact ren_eq (by first | (simp; done) | fail) (by first | rfl | fail) | fail
theorem f67_w (K : UInt16) (A B C : Nat) (q66 : SCall Try.prog 66 [.u16 K] [] (.tup [infoS 2 A B C 64, .i 0]) []) (hA : 1 ≤ A) (hA2 : A ≤ 48) (b : List UInt8) (h0 : 0 < b.length) (h1 : b.length ≤ 1024) (f : Bool) (kid : UInt64) : SCall Try.prog 67 [.u16 K, .sl 0 0 b.length 1 f, .u64 kid] [some (.ro (b.map .u8))] (.tup [.agg (.u16 K :: .u64 kid :: .sl 1 0 A 1 true :: ((exO_w (mac_w [] b) (infoL saltS kid K) 1).take 12).map .u8), .i 0]) [some (.ro (b.map .u8)), some (.row 5 ((exO_w (mac_w [] b) (infoL keyS kid K) ((A + (64 - 1)) / 64)).map .u8))] := by
 have q := f115_w K A B C q66 b h0 h1 f
 have l := mac_len_w [] b
 have p1 := f116 keyS (by decide) kid K
 have p2 := f116 saltS (by decide) kid K
 have i1 := infoL_len keyS kid K
 have i2 := infoL_len saltS kid K
 have q2 := f51_w (mac_w [] b) (infoL keyS kid K) (by omega) (by rw [i1]; decide) A hA (by omega) true false
 have q3 := f51_w (mac_w [] b) (infoL saltS kid K) (by omega) (by rw [i2]; decide) 12 (by decide) (by decide) true false
 rw [l, i1] at q2
 rw [show exO_w (mac_w [] b) (infoL saltS kid K) ((12 + (64 - 1)) / 64) = exO_w (mac_w [] b) (infoL saltS kid K) 1 from rfl, l, i2] at q3
 have l2 := exO_len_w (mac_w [] b) (infoL keyS kid K) ((A + (64 - 1)) / 64)
 have l3 := exO_len_w (mac_w [] b) (infoL saltS kid K) 1
 obtain ⟨X, hX⟩ : ∃ X, X = mac_w [] b := ⟨_, rfl⟩
 rw [← hX] at q q2 q3 l l2 l3 ⊢
 obtain ⟨I1, hI1⟩ : ∃ Y, Y = infoL keyS kid K := ⟨_, rfl⟩
 obtain ⟨I2, hI2⟩ : ∃ Y, Y = infoL saltS kid K := ⟨_, rfl⟩
 rw [← hI1] at p1 q2 l2 i1 ⊢
 rw [← hI2] at p2 q3 l3 i2 ⊢
 obtain ⟨Y, hY⟩ : ∃ Y, Y = exO_w X I1 ((A + (64 - 1)) / 64) := ⟨_, rfl⟩
 obtain ⟨W, hW⟩ : ∃ Y, Y = exO_w X I2 1 := ⟨_, rfl⟩
 rw [← hY] at q2 l2 ⊢
 rw [← hW] at q3 l3 ⊢
 have l4 : (W.take 12).length = 12 := by rw [List.length_take]; omega
 have ht : List.take (min 12 (12 - 0) * 1) (List.take (12 * 1) (List.drop 0 (W.map SV.u8))) = (W.take 12).map .u8 := by
  show List.take 12 (List.take 12 (W.map SV.u8)) = _
  rw [List.take_take, List.map_take]; rfl
 have hld : sload true 15 (sput [.u16 K, .u64 kid, .sl 6 0 A 1 true, .u8 0, .u8 0, .u8 0, .u8 0, .u8 0, .u8 0, .u8 0, .u8 0, .u8 0, .u8 0, .u8 0, .u8 0] 3 (.agg (List.take (min 12 (12 - 0) * 1) (List.take (12 * 1) (List.drop 0 (W.map SV.u8)))))) 0 = some (.agg (.u16 K :: .u64 kid :: .sl 6 0 A 1 true :: (W.take 12).map .u8)) := by
  rw [ht, sput_salt l4]
  have hl2 : (SV.u16 K :: .u64 kid :: .sl 6 0 A 1 true :: (W.take 12).map SV.u8).length = 15 := by simp [l4]; omega
  simp only [sload, if_true, List.drop_zero]
  rw [if_pos (by omega), List.take_of_length_le (by omega)]
 clear hX hI1 hI2 hY hW
 refine scall_of ttOk (by kernel_rfl : Try.prog.funcs[67]? = some Try.f67) rfl rfl rfl ?_
 try simp only [List.length_cons, List.length_nil, Nat.zero_add, Nat.reduceAdd]
 refine sw_ok ttOk mixed (by kernel_rfl) ?_
 conv => whnf
 repeat (fail)
 refine ok1_callF [0] [false, true] false (q) rfl rfl ⟨⟨rfl, by first | rfl | fail⟩, by (repeat' (first | exact trivial | refine And.intro ?_ ?_)) <;> first | exact ren_eq (by first | (simp; done) | fail) (by first | rfl | fail) | fail, by first | simp [plainHf, plainB], by first | rfl | fail, ?_⟩
 conv => whnf
 repeat (first | (refine brF rfl ?_; conv => whnf) | (refine Exists.intro _ (And.intro (sput_all rfl (by first | rfl | fail)) ?_); conv => whnf) | (refine Exists.intro _ (And.intro rfl ?_); conv => whnf) | (refine And.intro (by first | omega | (simp; done) | fail) ?_; conv => whnf) | (refine And.intro ⟨rfl, Nat.le_of_ble_eq_true rfl⟩ ?_; conv => whnf) | fail)
 refine ok1_callF [] [true] false (p1) rfl rfl ⟨⟨rfl, by first | rfl | fail⟩, trivial, by first | simp [plainHf, plainB], by first | rfl | fail, ?_⟩
 conv => whnf
 repeat (first | (refine Exists.intro _ (And.intro rfl ?_); conv => whnf) | fail)
 refine ok1_callF [2, 5] [false, false, true] false (q2) rfl rfl ⟨⟨rfl, by first | rfl | fail⟩, by (repeat' (first | exact trivial | refine And.intro ?_ ?_)) <;> first | exact ren_eq (by first | (simp; done) | fail) (by first | rfl | fail) | fail, by first | simp [plainHf, plainB], by first | rfl | fail, ?_⟩
 conv => whnf
 repeat (first | (refine Exists.intro _ (And.intro rfl ?_); conv => whnf) | (refine And.intro ⟨rfl, Nat.le_of_ble_eq_true rfl⟩ ?_; conv => whnf) | (refine And.intro (by kernel_rfl) ?_; conv => whnf) | fail)
 refine ok1_callF [] [true] false (p2) rfl rfl ⟨⟨rfl, by first | rfl | fail⟩, trivial, by first | simp [plainHf, plainB], by first | rfl | fail, ?_⟩
 conv => whnf
 repeat (fail)
 refine ok1_callF [2, 7] [false, false, true] false (q3) rfl rfl ⟨⟨rfl, by first | rfl | fail⟩, by (repeat' (first | exact trivial | refine And.intro ?_ ?_)) <;> first | exact ren_eq (by first | (simp; done) | fail) (by first | rfl | fail) | fail, by first | simp [plainHf, plainB], by first | rfl | fail, ?_⟩
 conv => whnf
 repeat (first | (refine Exists.intro _ (And.intro (sload_all rfl (by first | rfl | (simp [l2, l3, l4]; done) | fail)) ?_); conv => whnf) | (refine Exists.intro _ (And.intro (sput_all rfl (by first | rfl | (simp [l2, l3, l4]; done) | fail)) ?_); conv => whnf) | (refine Exists.intro _ (And.intro (hld) ?_); conv => whnf) | (refine Exists.intro _ (And.intro rfl ?_); conv => whnf) | (refine And.intro (by first | omega | (simp; omega) | fail) ?_; conv => whnf) | (refine And.intro ⟨Nat.le_of_ble_eq_true rfl, Nat.le_of_ble_eq_true rfl, Nat.le_of_ble_eq_true rfl, Nat.le_of_ble_eq_true rfl⟩ ?_; conv => whnf) | (refine And.intro (by kernel_rfl) ?_; conv => whnf) | (refine And.intro ⟨by first | exact Nat.le_of_ble_eq_true rfl | fail, by first | (simp [l2, l3, l4]; done) | fail, by first | exact Nat.le_of_ble_eq_true rfl | fail⟩ ?_; conv => whnf) | fail)
 refine ⟨[0, 6], ?_, rfl, rfl, ?_, rfl⟩
 ·
  (repeat' (first | (refine wk_tup ?_) | (refine wk_agg ?_) | (refine wk_cons ?_ ?_))) <;> first | rfl | exact ren_m8 (by first | rfl | fail) | fail
 ·
  (repeat' (first | exact trivial | refine And.intro ?_ ?_ | fail)) <;> first | rfl | exact ren_eq (by first | (simp; done) | fail) (by first | rfl | fail) | fail
theorem f67_w_x (K : UInt16) (A B C : Nat) (q66 : SCall Try.prog 66 [.u16 K] [] (.tup [infoS 2 A B C 64, .i 0]) []) (b : List UInt8) (h0 : b.length = 0 ∨ 1024 < b.length) (f : Bool) (kid : UInt64) : SCall Try.prog 67 [.u16 K, .sl 0 0 b.length 1 f, .u64 kid] [some (.ro (b.map .u8))] (.tup [.agg (.u16 0 :: .u64 0 :: .slnil :: List.replicate 12 (.u8 0)), .i 2]) [some (.ro (b.map .u8))] := by
 have q := f115_w_x K A B C q66 b h0 f
 refine scall_of ttOk (by kernel_rfl : Try.prog.funcs[67]? = some Try.f67) rfl rfl rfl ?_
 try simp only [List.length_cons, List.length_nil, Nat.zero_add, Nat.reduceAdd]
 refine sw_ok ttOk mixed (by kernel_rfl) ?_
 conv => whnf
 repeat (fail)
 refine ok1_callF [0] [false] false (q) rfl rfl ⟨⟨rfl, by first | rfl | fail⟩, by (repeat' (first | exact trivial | refine And.intro ?_ ?_)) <;> first | exact ren_eq (by first | (simp; done) | fail) (by first | rfl | fail) | fail, by first | rfl | fail, by first | rfl | fail, ?_⟩
 conv => whnf
 repeat (first | (refine brT rfl ?_; conv => whnf) | (refine Exists.intro _ (And.intro (sload_all rfl (by first | rfl | fail)) ?_); conv => whnf) | (refine Exists.intro _ (And.intro (sput_all rfl (by first | rfl | fail)) ?_); conv => whnf) | (refine Exists.intro _ (And.intro rfl ?_); conv => whnf) | (refine And.intro (by first | omega | (simp; done) | fail) ?_; conv => whnf) | fail)
 refine ⟨[0], ?_, rfl, rfl, ?_, rfl⟩
 ·
  (repeat' (first | (refine wk_tup ?_) | (refine wk_agg ?_) | (refine wk_cons ?_ ?_))) <;> first | rfl | fail
 ·
  (repeat' (first | exact trivial | refine And.intro ?_ ?_ | fail)) <;> first | exact ren_eq (by first | (simp; done) | fail) (by first | rfl | fail) | fail
theorem f115_o (n : UInt16) (h : n = 0 ∨ 5 < n.toNat) (b : List UInt8) (f : Bool) : SCall Try.prog 115 [.u16 n, .sl 0 0 b.length 1 f] [some (.ro (b.map .u8))] (.tup [infoS 0 0 0 0 0, .slnil, .i 130]) [some (.ro (b.map .u8))] := by
 have q := f66_o n h
 refine scall_of ttOk (by kernel_rfl : Try.prog.funcs[115]? = some Try.f115) rfl rfl rfl ?_
 try simp only [List.length_cons, List.length_nil, Nat.zero_add, Nat.reduceAdd]
 refine sw_ok ttOk mixed (by kernel_rfl) ?_
 conv => whnf
 repeat (fail)
 refine ok1_callF [] [] true (q) rfl rfl ⟨⟨rfl, by first | rfl | fail⟩, trivial, by first | rfl | fail, by first | rfl | fail, ?_⟩
 conv => whnf
 repeat (first | (refine brT rfl ?_; conv => whnf) | (refine Exists.intro _ (And.intro (sload_all rfl (by first | rfl | fail)) ?_); conv => whnf) | (refine Exists.intro _ (And.intro (sput_all rfl (by first | rfl | fail)) ?_); conv => whnf) | (refine And.intro (by first | omega | (simp; done) | fail) ?_; conv => whnf) | (refine And.intro ⟨rfl, Nat.le_of_ble_eq_true rfl⟩ ?_; conv => whnf) | fail)
 refine ⟨[0], ?_, rfl, rfl, ?_, rfl⟩
 ·
  (repeat' (first | (refine wk_tup ?_) | (refine wk_agg ?_) | (refine wk_cons ?_ ?_))) <;> first | rfl | fail
 ·
  (repeat' (first | exact trivial | refine And.intro ?_ ?_ | fail)) <;> first | exact ren_eq (by first | (simp; done) | fail) (by first | rfl | fail) | fail
theorem f67_o (n : UInt16) (h : n = 0 ∨ 5 < n.toNat) (b : List UInt8) (f : Bool) (kid : UInt64) : SCall Try.prog 67 [.u16 n, .sl 0 0 b.length 1 f, .u64 kid] [some (.ro (b.map .u8))] (.tup [.agg (.u16 0 :: .u64 0 :: .slnil :: List.replicate 12 (.u8 0)), .i 130]) [some (.ro (b.map .u8))] := by
 have q := f115_o n h b f
 refine scall_of ttOk (by kernel_rfl : Try.prog.funcs[67]? = some Try.f67) rfl rfl rfl ?_
 try simp only [List.length_cons, List.length_nil, Nat.zero_add, Nat.reduceAdd]
 refine sw_ok ttOk mixed (by kernel_rfl) ?_
 conv => whnf
 repeat (fail)
 refine ok1_callF [0] [false] false (q) rfl rfl ⟨⟨rfl, by first | rfl | fail⟩, by (repeat' (first | exact trivial | refine And.intro ?_ ?_)) <;> first | exact ren_eq (by first | (simp; done) | fail) (by first | rfl | fail) | fail, by first | rfl | fail, by first | rfl | fail, ?_⟩
 conv => whnf
 repeat (first | (refine brT rfl ?_; conv => whnf) | (refine Exists.intro _ (And.intro (sload_all rfl (by first | rfl | fail)) ?_); conv => whnf) | (refine Exists.intro _ (And.intro (sput_all rfl (by first | rfl | fail)) ?_); conv => whnf) | (refine Exists.intro _ (And.intro rfl ?_); conv => whnf) | (refine And.intro (by first | omega | (simp; done) | fail) ?_; conv => whnf) | fail)
 refine ⟨[0], ?_, rfl, rfl, ?_, rfl⟩
 ·
  (repeat' (first | (refine wk_tup ?_) | (refine wk_agg ?_) | (refine wk_cons ?_ ?_))) <;> first | rfl | fail
 ·
  (repeat' (first | exact trivial | refine And.intro ?_ ?_ | fail)) <;> first | exact ren_eq (by first | (simp; done) | fail) (by first | rfl | fail) | fail
theorem f68_o (n : UInt16) (h : n = 0 ∨ 5 < n.toNat) (b : List UInt8) (f : Bool) : SCall Try.prog 68 [.u16 n, .sl 0 0 b.length 1 f] [some (.ro (b.map .u8))] (.tup [.slnil, .i 130]) [some (.ro (b.map .u8))] := by
 have q := f115_o n h b f
 refine scall_of ttOk (by kernel_rfl : Try.prog.funcs[68]? = some Try.f68) rfl rfl rfl ?_
 try simp only [List.length_cons, List.length_nil, Nat.zero_add, Nat.reduceAdd]
 refine sw_ok ttOk mixed (by kernel_rfl) ?_
 conv => whnf
 repeat (fail)
 refine ok1_callF [0] [false] false (q) rfl rfl ⟨⟨rfl, by first | rfl | fail⟩, by (repeat' (first | exact trivial | refine And.intro ?_ ?_)) <;> first | exact ren_eq (by first | (simp; done) | fail) (by first | rfl | fail) | fail, by first | rfl | fail, by first | rfl | fail, ?_⟩
 conv => whnf
 repeat (first | (refine brT rfl ?_; conv => whnf) | (refine Exists.intro _ (And.intro (sput_all rfl (by first | rfl | fail)) ?_); conv => whnf) | (refine And.intro (by first | omega | (simp; done) | fail) ?_; conv => whnf) | fail)
 refine ⟨[0], ?_, rfl, rfl, ?_, rfl⟩
 ·
  (repeat' (first | (refine wk_tup ?_) | (refine wk_cons ?_ ?_))) <;> first | rfl | fail
 ·
  (repeat' (first | exact trivial | refine And.intro ?_ ?_ | fail)) <;> first | exact ren_eq (by first | (simp; done) | fail) (by first | rfl | fail) | fail
end Go.Sh
namespace Go.Sh
open Go.Proofs
set_option maxHeartbeats 8000000
theorem nonL_len (S : List UInt8) (c : UInt64) : (nonL S c).length = 12 := rfl
theorem u16_cases (n : UInt16) : n = 1 ∨ n = 2 ∨ n = 3 ∨ n = 4 ∨ n = 5 ∨ n = 0 ∨ 5 < n.toNat := by
 have e : ∀ k : UInt16, n.toNat = k.toNat → n = k := fun k h => UInt16.toNat.inj h
 by_cases h : 5 < n.toNat
 ·
  simp [h]
 ·
  have h2 : n.toNat = 0 ∨ n.toNat = 1 ∨ n.toNat = 2 ∨ n.toNat = 3 ∨ n.toNat = 4 ∨ n.toNat = 5 := by omega
  rcases h2 with h | h | h | h | h | h
  ·
   have := e 0 h; simp [this]
  ·
   have := e 1 h; simp [this]
  ·
   have := e 2 h; simp [this]
  ·
   have := e 3 h; simp [this]
  ·
   have := e 4 h; simp [this]
  ·
   have := e 5 h; simp [this]
theorem bys3 {a b c : SV} {S : List UInt8} (h : S.length = 12) : bytesOf (((a :: b :: c :: S.map SV.u8).drop 3).take 12) = some S := by
 show bytesOf (List.take 12 (S.map SV.u8)) = _
 rw [List.take_of_length_le (by rw [List.length_map]; omega), bytesOf_map]
theorem f17_big (n : UInt16) (b : List UInt8) (hb : 2000 < b.length) (kid c : UInt64) : SCall Try.prog 17 [.u16 n, .sl 0 0 b.length 1 false, .u64 kid, .u64 c] [some (.ro (b.map .u8))] (.b true) [some (.ro (b.map .u8))] := by
 have e1 : decide ((b.length : Int) > 2000) = true := by simp; omega
 refine scall_of ttOk (by kernel_rfl : Try.prog.funcs[17]? = some Try.f17) rfl rfl rfl ?_
 try simp only [List.length_cons, List.length_nil, Nat.zero_add, Nat.reduceAdd]
 refine sw_ok ttOk mixed (by kernel_rfl) ?_
 conv => whnf
 repeat (fail)
 refine ok1_callF [] [] true (f65) rfl rfl ⟨⟨rfl, by first | rfl | fail⟩, trivial, by first | rfl | fail, by first | rfl | fail, ?_⟩
 conv => whnf
 repeat (first | (refine brF rfl ?_; conv => whnf) | (refine gdT e1 ?_; conv => whnf) | fail)
 refine ⟨[0], ?_, rfl, rfl, ?_, rfl⟩
 ·
  (repeat' (fail)) <;> first | rfl | fail
 ·
  (repeat' (first | exact trivial | refine And.intro ?_ ?_ | fail)) <;> first | exact ren_eq (by first | (simp; done) | fail) (by first | rfl | fail) | fail
theorem f17_o (n : UInt16) (h : n = 0 ∨ 5 < n.toNat) (b : List UInt8) (hb : b.length ≤ 2000) (kid c : UInt64) : SCall Try.prog 17 [.u16 n, .sl 0 0 b.length 1 false, .u64 kid, .u64 c] [some (.ro (b.map .u8))] (.b true) [some (.ro (b.map .u8))] := by
 have e1 : decide ((b.length : Int) > 2000) = false := by simp; omega
 have q1 := f66_o n h
 have q2 := f67_o n h b false kid
 have q3 := f68_o n h b false
 have q4 := f69_o n h
 refine scall_of ttOk (by kernel_rfl : Try.prog.funcs[17]? = some Try.f17) rfl rfl rfl ?_
 try simp only [List.length_cons, List.length_nil, Nat.zero_add, Nat.reduceAdd]
 refine sw_ok ttOk mixed (by kernel_rfl) ?_
 conv => whnf
 repeat (fail)
 refine ok1_callF [] [] true (f65) rfl rfl ⟨⟨rfl, by first | rfl | fail⟩, trivial, by first | rfl | fail, by first | rfl | fail, ?_⟩
 conv => whnf
 repeat (first | (refine brF rfl ?_; conv => whnf) | (refine gdF e1 ?_; conv => whnf) | fail)
 refine ok1_callF [] [] true (q1) rfl rfl ⟨⟨rfl, by first | rfl | fail⟩, trivial, by first | rfl | fail, by first | rfl | fail, ?_⟩
 conv => whnf
 repeat (first | (refine Exists.intro _ (And.intro (sput_all rfl (by first | rfl | fail)) ?_); conv => whnf) | (refine And.intro ⟨rfl, Nat.le_of_ble_eq_true rfl⟩ ?_; conv => whnf) | fail)
 refine ok1_callF [0] [false] false (q2) rfl rfl ⟨⟨rfl, by first | rfl | fail⟩, by (repeat' (first | exact trivial | refine And.intro ?_ ?_)) <;> first | exact ren_eq (by first | (simp; done) | fail) (by first | rfl | fail) | fail, by first | rfl | fail, by first | rfl | fail, ?_⟩
 conv => whnf
 repeat (first | (refine Exists.intro _ (And.intro (sput_all rfl (by first | rfl | fail)) ?_); conv => whnf) | (refine And.intro (by first | omega | (simp; done) | fail) ?_; conv => whnf) | fail)
 refine ok1_callF [0] [false] false (q3) rfl rfl ⟨⟨rfl, by first | rfl | fail⟩, by (repeat' (first | exact trivial | refine And.intro ?_ ?_)) <;> first | exact ren_eq (by first | (simp; done) | fail) (by first | rfl | fail) | fail, by first | rfl | fail, by first | rfl | fail, ?_⟩
 conv => whnf
 repeat (fail)
 refine ok1_callF [] [] false (q4) rfl rfl ⟨⟨rfl, by first | rfl | fail⟩, trivial, by first | rfl | fail, by first | rfl | fail, ?_⟩
 conv => whnf
 repeat (first | (refine brT rfl ?_; conv => whnf) | (refine Exists.intro _ (And.intro rfl ?_); conv => whnf) | fail)
 refine ⟨[0], ?_, rfl, rfl, ?_, rfl⟩
 ·
  (repeat' (fail)) <;> first | rfl | fail
 ·
  (repeat' (first | exact trivial | refine And.intro ?_ ?_ | fail)) <;> first | exact ren_eq (by first | (simp; done) | fail) (by first | rfl | fail) | fail
attribute [local irreducible] mac_n mac_w exO_n exO_w nonL
theorem f17_n_x (K : UInt16) (A B C : Nat) (hA : 1 ≤ A) (hA2 : A ≤ 48) (q66 : SCall Try.prog 66 [.u16 K] [] (.tup [infoS 1 A B C 32, .i 0]) []) (q69 : SCall Try.prog 69 [.u16 K] [] (.sl 0 0 5 1 true) [some (.row 3 [.i 1, .i (A : Int), .i (B : Int), .i (C : Int), .i 32])]) (b : List UInt8) (hb : b.length = 0 ∨ 1024 < b.length) (h2 : b.length ≤ 2000) (kid c : UInt64) : SCall Try.prog 17 [.u16 K, .sl 0 0 b.length 1 false, .u64 kid, .u64 c] [some (.ro (b.map .u8))] (.b true) [some (.ro (b.map .u8))] := by
 have e0 : decide ((b.length : Int) > 2000) = false := by simp; omega
 have q2 := f67_n_x K A B C q66 b hb false kid
 have q3 := f68_n_x K A B C q66 b hb false
 refine scall_of ttOk (by kernel_rfl : Try.prog.funcs[17]? = some Try.f17) rfl rfl rfl ?_
 try simp only [List.length_cons, List.length_nil, Nat.zero_add, Nat.reduceAdd]
 refine sw_ok ttOk mixed (by kernel_rfl) ?_
 conv => whnf
 repeat (fail)
 refine ok1_callF [] [] true (f65) rfl rfl ⟨⟨rfl, by first | rfl | fail⟩, trivial, by first | rfl | fail, by first | rfl | fail, ?_⟩
 conv => whnf
 repeat (first | (refine brF rfl ?_; conv => whnf) | (refine gdF e0 ?_; conv => whnf) | fail)
 refine ok1_callF [] [] true (q66) rfl rfl ⟨⟨rfl, by first | rfl | fail⟩, trivial, by first | rfl | fail, by first | rfl | fail, ?_⟩
 conv => whnf
 repeat (first | (refine Exists.intro _ (And.intro (sput_all rfl (by first | rfl | fail)) ?_); conv => whnf) | (refine And.intro ⟨rfl, Nat.le_of_ble_eq_true rfl⟩ ?_; conv => whnf) | fail)
 refine ok1_callF [0] [false] false (q2) rfl rfl ⟨⟨rfl, by first | rfl | fail⟩, by (repeat' (first | exact trivial | refine And.intro ?_ ?_)) <;> first | exact ren_eq (by first | (simp; done) | fail) (by first | rfl | fail) | fail, by first | rfl | fail, by first | rfl | fail, ?_⟩
 conv => whnf
 repeat (first | (refine Exists.intro _ (And.intro (sput_all rfl (by first | rfl | fail)) ?_); conv => whnf) | (refine And.intro (by first | omega | (simp; done) | fail) ?_; conv => whnf) | fail)
 refine ok1_callF [0] [false] false (q3) rfl rfl ⟨⟨rfl, by first | rfl | fail⟩, by (repeat' (first | exact trivial | refine And.intro ?_ ?_)) <;> first | exact ren_eq (by first | (simp; done) | fail) (by first | rfl | fail) | fail, by first | rfl | fail, by first | rfl | fail, ?_⟩
 conv => whnf
 repeat (fail)
 refine ok1_callF [] [true] false (q69) rfl rfl ⟨⟨rfl, by first | rfl | fail⟩, trivial, by first | rfl | fail, by first | rfl | fail, ?_⟩
 conv => whnf
 repeat (first | (refine brF rfl ?_; conv => whnf) | (refine gdT rfl ?_; conv => whnf) | (refine Exists.intro _ (And.intro rfl ?_); conv => whnf) | (refine gdT (by first | (simp; done) | fail) ?_; conv => whnf) | (refine pkF (by first | (simp; done) | fail) ?_; conv => whnf) | (refine And.intro (by first | omega | fail) ?_; conv => whnf) | (refine And.intro (by kernel_rfl) ?_; conv => whnf) | fail)
 by_cases hz : b.length = 0
 ·
  have e1 : ((b.length : Int) == 0) = true := by rw [hz]; rfl
  repeat (first | (refine brT rfl ?_; conv => whnf) | (refine gdF e1 ?_; conv => whnf) | (refine pkT e1 ?_; conv => whnf) | (refine Exists.intro _ (And.intro rfl ?_); conv => whnf) | fail)
  refine ⟨[0], ?_, rfl, rfl, ?_, rfl⟩
  ·
   (repeat' (fail)) <;> first | rfl | fail
  ·
   (repeat' (first | exact trivial | refine And.intro ?_ ?_ | fail)) <;> first | exact ren_eq (by first | (simp; done) | fail) (by first | rfl | fail) | fail
 ·
  have e1 : ((b.length : Int) == 0) = false := by rw [beq_eq_false_iff_ne]; omega
  have e2 : decide ((b.length : Int) > 1024) = true := by simp; omega
  repeat (first | (refine brT rfl ?_; conv => whnf) | (refine gdT e1 ?_; conv => whnf) | (refine pkF e1 ?_; conv => whnf) | (refine gdT e2 ?_; conv => whnf) | (refine Exists.intro _ (And.intro rfl ?_); conv => whnf) | fail)
  refine ⟨[0], ?_, rfl, rfl, ?_, rfl⟩
  ·
   (repeat' (fail)) <;> first | rfl | fail
  ·
   (repeat' (first | exact trivial | refine And.intro ?_ ?_ | fail)) <;> first | exact ren_eq (by first | (simp; done) | fail) (by first | rfl | fail) | fail
theorem f17_n (K : UInt16) (A B C : Nat) (hA : 1 ≤ A) (hA2 : A ≤ 48) (q66 : SCall Try.prog 66 [.u16 K] [] (.tup [infoS 1 A B C 32, .i 0]) []) (q69 : SCall Try.prog 69 [.u16 K] [] (.sl 0 0 5 1 true) [some (.row 3 [.i 1, .i (A : Int), .i (B : Int), .i (C : Int), .i 32])]) (b : List UInt8) (h0 : 0 < b.length) (h1 : b.length ≤ 1024) (kid c : UInt64) : SCall Try.prog 17 [.u16 K, .sl 0 0 b.length 1 false, .u64 kid, .u64 c] [some (.ro (b.map .u8))] (.b true) [some (.ro (b.map .u8))] := by
 have q67 := f67_n K A B C q66 hA hA2 b h0 h1 false kid
 have q68 := f68_n K A B C q66 b h0 h1 false
 have q71 := f71_n K A B C q69 b h1 false kid
 have q72 := f72_n K A B C q69 hA hA2 b h1 false kid
 have q73 := f73_n K A B C q69 b h1 false
 have l1 := exO_len_n (mac_n [] b) (infoL keyS kid K) ((A + (32 - 1)) / 32)
 have l2 := exO_len_n (mac_n [] b) (infoL saltS kid K) 1
 have l3 := exO_len_n (mac_n [] b) ratS 1
 obtain ⟨Y, hY⟩ : ∃ Y, Y = exO_n (mac_n [] b) (infoL keyS kid K) ((A + (32 - 1)) / 32) := ⟨_, rfl⟩
 obtain ⟨V, hV⟩ : ∃ Y, Y = exO_n (mac_n [] b) ratS 1 := ⟨_, rfl⟩
 obtain ⟨W, hW⟩ : ∃ Y, Y = exO_n (mac_n [] b) (infoL saltS kid K) 1 := ⟨_, rfl⟩
 rw [← hY] at q67 q72 l1
 rw [← hV] at q68 q73 l3
 rw [← hW] at q67 q71 l2
 have lS : (W.take 12).length = 12 := by rw [List.length_take]; omega
 obtain ⟨S, hS⟩ : ∃ Y, Y = W.take 12 := ⟨_, rfl⟩
 rw [← hS] at q67 lS
 have r1 := f70 K kid c A true Y S lS
 have hL : ((W.map SV.u8).drop 0).take (S.map SV.u8).length = S.map SV.u8 := by rw [List.length_map, lS, List.drop_zero, hS, List.map_take]
 have r2 := (f74 c S lS false).sub 0 0 (W.map .u8) (S.map .u8) 3 rfl rfl hL (plainL_u8 _) (plainL_u8 _) (by decide) ⟨.inl rfl, .inr ⟨rfl, rfl⟩, trivial⟩ rfl ⟨.inl rfl, trivial⟩ ⟨.inl rfl, .inr (.inl (by simp [plainB])), trivial⟩
 have n1 := nonL_len S c
 have e0 : decide ((b.length : Int) > 2000) = false := by simp; omega
 have e1 : ((b.length : Int) == 0) = false := by rw [beq_eq_false_iff_ne]; omega
 have e2 : decide ((b.length : Int) > 1024) = false := by simp; omega
 have e3 : ((List.take A (List.drop 0 Y)) == (List.take A (List.drop 0 Y))) = true := by simp
 have e4 : (List.take 12 (List.drop 0 S) == List.take 12 (List.drop 0 W)) = true := by rw [hS, List.drop_zero, List.drop_zero, List.take_take]; simp
 have e5 : ((List.take 32 (List.drop 0 V)) == (List.take 32 (List.drop 0 V))) = true := by simp
 obtain ⟨N1, hN1⟩ : ∃ N, N = nonL S c := ⟨_, rfl⟩
 rw [← hN1] at r1 r2 n1
 have e6 : ((List.take 12 (List.drop 0 N1)) == (List.take 12 (List.drop 0 N1))) = true := by simp
 have e7 : ((K : UInt16) == K) = true := by simp
 have g1 : ((A : Int) != (A : Int)) = false := by simp
 have g2 : ((B : Int) != (B : Int)) = false := by simp
 have g3 : ((C : Int) != (C : Int)) = false := by simp
 have lY : A ≤ Y.length := by omega
 have e8 : (kid == kid) = true := by simp
 have lW : 12 ≤ W.length := by omega
 clear hY hV hW hS hL hN1
 refine scall_of ttOk (by kernel_rfl : Try.prog.funcs[17]? = some Try.f17) rfl rfl rfl ?_
 try simp only [List.length_cons, List.length_nil, Nat.zero_add, Nat.reduceAdd]
 refine sw_ok ttOk mixed (by kernel_rfl) ?_
 conv => whnf
 repeat (fail)
 refine ok1_callF [] [] true (f65) rfl rfl ⟨⟨rfl, by first | rfl | fail⟩, trivial, by first | rfl | fail, by first | rfl | fail, ?_⟩
 conv => whnf
 repeat (first | (refine brF rfl ?_; conv => whnf) | (refine gdF e0 ?_; conv => whnf) | fail)
 refine ok1_callF [] [] true (q66) rfl rfl ⟨⟨rfl, by first | rfl | fail⟩, trivial, by first | rfl | fail, by first | rfl | fail, ?_⟩
 conv => whnf
 repeat (first | (refine Exists.intro _ (And.intro (sput_all rfl (by first | rfl | fail)) ?_); conv => whnf) | (refine And.intro ⟨rfl, Nat.le_of_ble_eq_true rfl⟩ ?_; conv => whnf) | fail)
 refine ok1_callE [0] [some (.ro (b.map .u8)), some (.row 5 (Y.map .u8))] (.tup [.agg (.u16 K :: .u64 kid :: .sl 2 0 A 1 true :: S.map .u8), .i 0]) (q67) rfl rfl ⟨⟨rfl, by first | rfl | fail⟩, by (repeat' (first | exact trivial | refine And.intro ?_ ?_)) <;> first | exact ren_m8 rfl | fail, by (repeat' (first | exact trivial | refine And.intro ?_ ?_)) <;> first | exact renB_plain _ (by first | (simp; done) | fail) | rfl, by first | (simp [renV, renL, renL_plain]; rfl), ?_⟩
 conv => whnf
 repeat (first | (refine Exists.intro _ (And.intro (sput_all rfl (by first | rfl | (simp [lS]; done) | fail)) ?_); conv => whnf) | (refine And.intro (by first | omega | (simp; omega) | fail) ?_; conv => whnf) | fail)
 refine ok1_callF [0] [false, true] false (q68) rfl rfl ⟨⟨rfl, by first | rfl | fail⟩, by (repeat' (first | exact trivial | refine And.intro ?_ ?_)) <;> first | exact ren_eq (by first | (simp; done) | fail) (by first | rfl | fail) | fail, by first | simp [plainHf, plainB], by first | rfl | fail, ?_⟩
 conv => whnf
 repeat (fail)
 refine ok1_callF [] [true] false (q69) rfl rfl ⟨⟨rfl, by first | rfl | fail⟩, trivial, by first | rfl | fail, by first | rfl | fail, ?_⟩
 conv => whnf
 repeat (first | (refine brF rfl ?_; conv => whnf) | (refine gdT rfl ?_; conv => whnf) | (refine Exists.intro _ (And.intro rfl ?_); conv => whnf) | (refine gdT (by first | (simp; done) | fail) ?_; conv => whnf) | (refine pkF (by first | (simp; done) | fail) ?_; conv => whnf) | (refine And.intro (by first | omega | fail) ?_; conv => whnf) | (refine And.intro (by kernel_rfl) ?_; conv => whnf) | fail)
 repeat (first | (refine Exists.intro _ (And.intro (sload_all rfl (by first | rfl | (simp [lS]; done) | fail)) ?_); conv => whnf) | (refine gdT e1 ?_; conv => whnf) | (refine pkF e1 ?_; conv => whnf) | (refine gdF e2 ?_; conv => whnf) | fail)
 refine ok1_callF [2] [true] true (r1) rfl rfl ⟨⟨rfl, by first | ((repeat' (first | exact ren_m8 rfl | exact rfl | (refine wk_agg ?_) | (refine wk_cons ?_ ?_))); done) | fail⟩, by (repeat' (first | exact trivial | refine And.intro ?_ ?_)) <;> first | exact ren_eq (by first | (simp; done) | fail) (by first | rfl | fail) | fail, by first | simp [plainHf, plainB], by first | simp [plainRf, plainR, plainT, plainW], ?_⟩
 conv => whnf
 repeat (first | (refine Exists.intro _ (And.intro (sput_all rfl (by first | rfl | (simp [lS, n1]; done) | fail)) ?_); conv => whnf) | (refine And.intro (by first | omega | (simp; omega) | fail) ?_; conv => whnf) | fail)
 refine ok1_callF [0] [false, true] false (q71) rfl rfl ⟨⟨rfl, by first | rfl | fail⟩, by (repeat' (first | exact trivial | refine And.intro ?_ ?_)) <;> first | exact ren_eq (by first | (simp; done) | fail) (by first | rfl | fail) | fail, by first | simp [plainHf, plainB], by first | rfl | fail, ?_⟩
 conv => whnf
 repeat (first | (refine Exists.intro _ (And.intro (bytesOf_cut rfl) ?_); conv => whnf) | (refine brT rfl ?_; conv => whnf) | (refine gdT e7 ?_; conv => whnf) | (refine pkT e7 ?_; conv => whnf) | (refine gdT e8 ?_; conv => whnf) | (refine Exists.intro _ (And.intro rfl ?_); conv => whnf) | (refine And.intro (by first | omega | (simp; omega) | fail) ?_; conv => whnf) | fail)
 refine ok1_callF [0] [false, true] false (q72) rfl rfl ⟨⟨rfl, by first | rfl | fail⟩, by (repeat' (first | exact trivial | refine And.intro ?_ ?_)) <;> first | exact ren_eq (by first | (simp; done) | fail) (by first | rfl | fail) | fail, by first | simp [plainHf, plainB], by first | rfl | fail, ?_⟩
 conv => whnf
 repeat (first | (refine Exists.intro _ (And.intro (bytesOf_cut rfl) ?_); conv => whnf) | (refine gdT e8 ?_; conv => whnf) | (refine pkT e8 ?_; conv => whnf) | (refine gdT e3 ?_; conv => whnf) | (refine pkT e3 ?_; conv => whnf) | (refine gdT e4 ?_; conv => whnf) | (refine Exists.intro _ (And.intro rfl ?_); conv => whnf) | (refine And.intro (by first | omega | (simp; omega) | fail) ?_; conv => whnf) | fail)
 refine ok1_callF [0] [false, true] false (q73) rfl rfl ⟨⟨rfl, by first | rfl | fail⟩, by (repeat' (first | exact trivial | refine And.intro ?_ ?_)) <;> first | exact ren_eq (by first | (simp; done) | fail) (by first | rfl | fail) | fail, by first | simp [plainHf, plainB], by first | rfl | fail, ?_⟩
 conv => whnf
 repeat (first | (refine Exists.intro _ (And.intro (bytesOf_cut rfl) ?_); conv => whnf) | (refine gdT e4 ?_; conv => whnf) | (refine pkT e4 ?_; conv => whnf) | (refine gdT e5 ?_; conv => whnf) | (refine Exists.intro _ (And.intro rfl ?_); conv => whnf) | (refine And.intro (by first | omega | (simp; omega) | fail) ?_; conv => whnf) | fail)
 refine ok1_callF [7] [false, true] false (r2) rfl rfl ⟨⟨rfl, by first | rfl | fail⟩, by (repeat' (first | exact trivial | refine And.intro ?_ ?_)) <;> first | exact ren_eq (by first | (simp; done) | fail) (by first | rfl | fail) | fail, by first | simp [plainHf, plainB], by first | rfl | fail, ?_⟩
 conv => whnf
 repeat (first | (refine Exists.intro _ (And.intro (bytesOf_cut rfl) ?_); conv => whnf) | (refine gdT e5 ?_; conv => whnf) | (refine pkT e5 ?_; conv => whnf) | (refine And.intro (by first | omega | (simp; omega) | fail) ?_; conv => whnf) | (refine And.intro (by kernel_rfl) ?_; conv => whnf) | fail)
 rw [show (List.take (12 - 0) (List.drop (0 + 0 * ti5.sz) N1) == List.take 12 (List.drop 0 N1)) = true from e6]
 refine ⟨[0], ?_, rfl, rfl, ?_, rfl⟩
 ·
  (repeat' (fail)) <;> first | rfl | fail
 ·
  (repeat' (first | exact trivial | refine And.intro ?_ ?_ | fail)) <;> first | exact ren_eq (by first | (simp; done) | fail) (by first | rfl | fail) | fail
theorem f17_w_x (K : UInt16) (A B C : Nat) (hA : 1 ≤ A) (hA2 : A ≤ 48) (q66 : SCall Try.prog 66 [.u16 K] [] (.tup [infoS 2 A B C 64, .i 0]) []) (q69 : SCall Try.prog 69 [.u16 K] [] (.sl 0 0 5 1 true) [some (.row 3 [.i 2, .i (A : Int), .i (B : Int), .i (C : Int), .i 64])]) (b : List UInt8) (hb : b.length = 0 ∨ 1024 < b.length) (h2 : b.length ≤ 2000) (kid c : UInt64) : SCall Try.prog 17 [.u16 K, .sl 0 0 b.length 1 false, .u64 kid, .u64 c] [some (.ro (b.map .u8))] (.b true) [some (.ro (b.map .u8))] := by
 have e0 : decide ((b.length : Int) > 2000) = false := by simp; omega
 have q2 := f67_w_x K A B C q66 b hb false kid
 have q3 := f68_w_x K A B C q66 b hb false
 refine scall_of ttOk (by kernel_rfl : Try.prog.funcs[17]? = some Try.f17) rfl rfl rfl ?_
 try simp only [List.length_cons, List.length_nil, Nat.zero_add, Nat.reduceAdd]
 refine sw_ok ttOk mixed (by kernel_rfl) ?_
 conv => whnf
 repeat (fail)
 refine ok1_callF [] [] true (f65) rfl rfl ⟨⟨rfl, by first | rfl | fail⟩, trivial, by first | rfl | fail, by first | rfl | fail, ?_⟩
 conv => whnf
 repeat (first | (refine brF rfl ?_; conv => whnf) | (refine gdF e0 ?_; conv => whnf) | fail)
 refine ok1_callF [] [] true (q66) rfl rfl ⟨⟨rfl, by first | rfl | fail⟩, trivial, by first | rfl | fail, by first | rfl | fail, ?_⟩
 conv => whnf
 repeat (first | (refine Exists.intro _ (And.intro (sput_all rfl (by first | rfl | fail)) ?_); conv => whnf) | (refine And.intro ⟨rfl, Nat.le_of_ble_eq_true rfl⟩ ?_; conv => whnf) | fail)
 refine ok1_callF [0] [false] false (q2) rfl rfl ⟨⟨rfl, by first | rfl | fail⟩, by (repeat' (first | exact trivial | refine And.intro ?_ ?_)) <;> first | exact ren_eq (by first | (simp; done) | fail) (by first | rfl | fail) | fail, by first | rfl | fail, by first | rfl | fail, ?_⟩
 conv => whnf
 repeat (first | (refine Exists.intro _ (And.intro (sput_all rfl (by first | rfl | fail)) ?_); conv => whnf) | (refine And.intro (by first | omega | (simp; done) | fail) ?_; conv => whnf) | fail)
 refine ok1_callF [0] [false] false (q3) rfl rfl ⟨⟨rfl, by first | rfl | fail⟩, by (repeat' (first | exact trivial | refine And.intro ?_ ?_)) <;> first | exact ren_eq (by first | (simp; done) | fail) (by first | rfl | fail) | fail, by first | rfl | fail, by first | rfl | fail, ?_⟩
 conv => whnf
 repeat (fail)
 refine ok1_callF [] [true] false (q69) rfl rfl ⟨⟨rfl, by first | rfl | fail⟩, trivial, by first | rfl | fail, by first | rfl | fail, ?_⟩
 conv => whnf
 repeat (first | (refine brF rfl ?_; conv => whnf) | (refine gdT rfl ?_; conv => whnf) | (refine Exists.intro _ (And.intro rfl ?_); conv => whnf) | (refine gdT (by first | (simp; done) | fail) ?_; conv => whnf) | (refine pkF (by first | (simp; done) | fail) ?_; conv => whnf) | (refine And.intro (by first | omega | fail) ?_; conv => whnf) | (refine And.intro (by kernel_rfl) ?_; conv => whnf) | fail)
 by_cases hz : b.length = 0
 ·
  have e1 : ((b.length : Int) == 0) = true := by rw [hz]; rfl
  repeat (first | (refine brT rfl ?_; conv => whnf) | (refine gdF e1 ?_; conv => whnf) | (refine pkT e1 ?_; conv => whnf) | (refine Exists.intro _ (And.intro rfl ?_); conv => whnf) | fail)
  refine ⟨[0], ?_, rfl, rfl, ?_, rfl⟩
  ·
   (repeat' (fail)) <;> first | rfl | fail
  ·
   (repeat' (first | exact trivial | refine And.intro ?_ ?_ | fail)) <;> first | exact ren_eq (by first | (simp; done) | fail) (by first | rfl | fail) | fail
 ·
  have e1 : ((b.length : Int) == 0) = false := by rw [beq_eq_false_iff_ne]; omega
  have e2 : decide ((b.length : Int) > 1024) = true := by simp; omega
  repeat (first | (refine brT rfl ?_; conv => whnf) | (refine gdT e1 ?_; conv => whnf) | (refine pkF e1 ?_; conv => whnf) | (refine gdT e2 ?_; conv => whnf) | (refine Exists.intro _ (And.intro rfl ?_); conv => whnf) | fail)
  refine ⟨[0], ?_, rfl, rfl, ?_, rfl⟩
  ·
   (repeat' (fail)) <;> first | rfl | fail
  ·
   (repeat' (first | exact trivial | refine And.intro ?_ ?_ | fail)) <;> first | exact ren_eq (by first | (simp; done) | fail) (by first | rfl | fail) | fail
theorem f17_w (K : UInt16) (A B C : Nat) (hA : 1 ≤ A) (hA2 : A ≤ 48) (q66 : SCall Try.prog 66 [.u16 K] [] (.tup [infoS 2 A B C 64, .i 0]) []) (q69 : SCall Try.prog 69 [.u16 K] [] (.sl 0 0 5 1 true) [some (.row 3 [.i 2, .i (A : Int), .i (B : Int), .i (C : Int), .i 64])]) (b : List UInt8) (h0 : 0 < b.length) (h1 : b.length ≤ 1024) (kid c : UInt64) : SCall Try.prog 17 [.u16 K, .sl 0 0 b.length 1 false, .u64 kid, .u64 c] [some (.ro (b.map .u8))] (.b true) [some (.ro (b.map .u8))] := by
 have q67 := f67_w K A B C q66 hA hA2 b h0 h1 false kid
 have q68 := f68_w K A B C q66 b h0 h1 false
 have q71 := f71_w K A B C q69 b h1 false kid
 have q72 := f72_w K A B C q69 hA hA2 b h1 false kid
 have q73 := f73_w K A B C q69 b h1 false
 have l1 := exO_len_w (mac_w [] b) (infoL keyS kid K) ((A + (64 - 1)) / 64)
 have l2 := exO_len_w (mac_w [] b) (infoL saltS kid K) 1
 have l3 := exO_len_w (mac_w [] b) ratS 1
 obtain ⟨Y, hY⟩ : ∃ Y, Y = exO_w (mac_w [] b) (infoL keyS kid K) ((A + (64 - 1)) / 64) := ⟨_, rfl⟩
 obtain ⟨V, hV⟩ : ∃ Y, Y = exO_w (mac_w [] b) ratS 1 := ⟨_, rfl⟩
 obtain ⟨W, hW⟩ : ∃ Y, Y = exO_w (mac_w [] b) (infoL saltS kid K) 1 := ⟨_, rfl⟩
 rw [← hY] at q67 q72 l1
 rw [← hV] at q68 q73 l3
 rw [← hW] at q67 q71 l2
 have lS : (W.take 12).length = 12 := by rw [List.length_take]; omega
 obtain ⟨S, hS⟩ : ∃ Y, Y = W.take 12 := ⟨_, rfl⟩
 rw [← hS] at q67 lS
 have r1 := f70 K kid c A true Y S lS
 have hL : ((W.map SV.u8).drop 0).take (S.map SV.u8).length = S.map SV.u8 := by rw [List.length_map, lS, List.drop_zero, hS, List.map_take]
 have r2 := (f74 c S lS false).sub 0 0 (W.map .u8) (S.map .u8) 3 rfl rfl hL (plainL_u8 _) (plainL_u8 _) (by decide) ⟨.inl rfl, .inr ⟨rfl, rfl⟩, trivial⟩ rfl ⟨.inl rfl, trivial⟩ ⟨.inl rfl, .inr (.inl (by simp [plainB])), trivial⟩
 have n1 := nonL_len S c
 have e0 : decide ((b.length : Int) > 2000) = false := by simp; omega
 have e1 : ((b.length : Int) == 0) = false := by rw [beq_eq_false_iff_ne]; omega
 have e2 : decide ((b.length : Int) > 1024) = false := by simp; omega
 have e3 : ((List.take A (List.drop 0 Y)) == (List.take A (List.drop 0 Y))) = true := by simp
 have e4 : (List.take 12 (List.drop 0 S) == List.take 12 (List.drop 0 W)) = true := by rw [hS, List.drop_zero, List.drop_zero, List.take_take]; simp
 have e5 : ((List.take 64 (List.drop 0 V)) == (List.take 64 (List.drop 0 V))) = true := by simp
 obtain ⟨N1, hN1⟩ : ∃ N, N = nonL S c := ⟨_, rfl⟩
 rw [← hN1] at r1 r2 n1
 have e6 : ((List.take 12 (List.drop 0 N1)) == (List.take 12 (List.drop 0 N1))) = true := by simp
 have e7 : ((K : UInt16) == K) = true := by simp
 have g1 : ((A : Int) != (A : Int)) = false := by simp
 have g2 : ((B : Int) != (B : Int)) = false := by simp
 have g3 : ((C : Int) != (C : Int)) = false := by simp
 have lY : A ≤ Y.length := by omega
 have e8 : (kid == kid) = true := by simp
 have lW : 12 ≤ W.length := by omega
 clear hY hV hW hS hL hN1
 refine scall_of ttOk (by kernel_rfl : Try.prog.funcs[17]? = some Try.f17) rfl rfl rfl ?_
 try simp only [List.length_cons, List.length_nil, Nat.zero_add, Nat.reduceAdd]
 refine sw_ok ttOk mixed (by kernel_rfl) ?_
 conv => whnf
 repeat (fail)
 refine ok1_callF [] [] true (f65) rfl rfl ⟨⟨rfl, by first | rfl | fail⟩, trivial, by first | rfl | fail, by first | rfl | fail, ?_⟩
 conv => whnf
 repeat (first | (refine brF rfl ?_; conv => whnf) | (refine gdF e0 ?_; conv => whnf) | fail)
 refine ok1_callF [] [] true (q66) rfl rfl ⟨⟨rfl, by first | rfl | fail⟩, trivial, by first | rfl | fail, by first | rfl | fail, ?_⟩
 conv => whnf
 repeat (first | (refine Exists.intro _ (And.intro (sput_all rfl (by first | rfl | fail)) ?_); conv => whnf) | (refine And.intro ⟨rfl, Nat.le_of_ble_eq_true rfl⟩ ?_; conv => whnf) | fail)
 refine ok1_callE [0] [some (.ro (b.map .u8)), some (.row 5 (Y.map .u8))] (.tup [.agg (.u16 K :: .u64 kid :: .sl 2 0 A 1 true :: S.map .u8), .i 0]) (q67) rfl rfl ⟨⟨rfl, by first | rfl | fail⟩, by (repeat' (first | exact trivial | refine And.intro ?_ ?_)) <;> first | exact ren_m8 rfl | fail, by (repeat' (first | exact trivial | refine And.intro ?_ ?_)) <;> first | exact renB_plain _ (by first | (simp; done) | fail) | rfl, by first | (simp [renV, renL, renL_plain]; rfl), ?_⟩
 conv => whnf
 repeat (first | (refine Exists.intro _ (And.intro (sput_all rfl (by first | rfl | (simp [lS]; done) | fail)) ?_); conv => whnf) | (refine And.intro (by first | omega | (simp; omega) | fail) ?_; conv => whnf) | fail)
 refine ok1_callF [0] [false, true] false (q68) rfl rfl ⟨⟨rfl, by first | rfl | fail⟩, by (repeat' (first | exact trivial | refine And.intro ?_ ?_)) <;> first | exact ren_eq (by first | (simp; done) | fail) (by first | rfl | fail) | fail, by first | simp [plainHf, plainB], by first | rfl | fail, ?_⟩
 conv => whnf
 repeat (fail)
 refine ok1_callF [] [true] false (q69) rfl rfl ⟨⟨rfl, by first | rfl | fail⟩, trivial, by first | rfl | fail, by first | rfl | fail, ?_⟩
 conv => whnf
 repeat (first | (refine brF rfl ?_; conv => whnf) | (refine gdT rfl ?_; conv => whnf) | (refine Exists.intro _ (And.intro rfl ?_); conv => whnf) | (refine gdT (by first | (simp; done) | fail) ?_; conv => whnf) | (refine pkF (by first | (simp; done) | fail) ?_; conv => whnf) | (refine And.intro (by first | omega | fail) ?_; conv => whnf) | (refine And.intro (by kernel_rfl) ?_; conv => whnf) | fail)
 repeat (first | (refine Exists.intro _ (And.intro (sload_all rfl (by first | rfl | (simp [lS]; done) | fail)) ?_); conv => whnf) | (refine gdT e1 ?_; conv => whnf) | (refine pkF e1 ?_; conv => whnf) | (refine gdF e2 ?_; conv => whnf) | fail)
 refine ok1_callF [2] [true] true (r1) rfl rfl ⟨⟨rfl, by first | ((repeat' (first | exact ren_m8 rfl | exact rfl | (refine wk_agg ?_) | (refine wk_cons ?_ ?_))); done) | fail⟩, by (repeat' (first | exact trivial | refine And.intro ?_ ?_)) <;> first | exact ren_eq (by first | (simp; done) | fail) (by first | rfl | fail) | fail, by first | simp [plainHf, plainB], by first | simp [plainRf, plainR, plainT, plainW], ?_⟩
 conv => whnf
 repeat (first | (refine Exists.intro _ (And.intro (sput_all rfl (by first | rfl | (simp [lS, n1]; done) | fail)) ?_); conv => whnf) | (refine And.intro (by first | omega | (simp; omega) | fail) ?_; conv => whnf) | fail)
 refine ok1_callF [0] [false, true] false (q71) rfl rfl ⟨⟨rfl, by first | rfl | fail⟩, by (repeat' (first | exact trivial | refine And.intro ?_ ?_)) <;> first | exact ren_eq (by first | (simp; done) | fail) (by first | rfl | fail) | fail, by first | simp [plainHf, plainB], by first | rfl | fail, ?_⟩
 conv => whnf
 repeat (first | (refine Exists.intro _ (And.intro (bytesOf_cut rfl) ?_); conv => whnf) | (refine brT rfl ?_; conv => whnf) | (refine gdT e7 ?_; conv => whnf) | (refine pkT e7 ?_; conv => whnf) | (refine gdT e8 ?_; conv => whnf) | (refine Exists.intro _ (And.intro rfl ?_); conv => whnf) | (refine And.intro (by first | omega | (simp; omega) | fail) ?_; conv => whnf) | fail)
 refine ok1_callF [0] [false, true] false (q72) rfl rfl ⟨⟨rfl, by first | rfl | fail⟩, by (repeat' (first | exact trivial | refine And.intro ?_ ?_)) <;> first | exact ren_eq (by first | (simp; done) | fail) (by first | rfl | fail) | fail, by first | simp [plainHf, plainB], by first | rfl | fail, ?_⟩
 conv => whnf
 repeat (first | (refine Exists.intro _ (And.intro (bytesOf_cut rfl) ?_); conv => whnf) | (refine gdT e8 ?_; conv => whnf) | (refine pkT e8 ?_; conv => whnf) | (refine gdT e3 ?_; conv => whnf) | (refine pkT e3 ?_; conv => whnf) | (refine gdT e4 ?_; conv => whnf) | (refine Exists.intro _ (And.intro rfl ?_); conv => whnf) | (refine And.intro (by first | omega | (simp; omega) | fail) ?_; conv => whnf) | fail)
 refine ok1_callF [0] [false, true] false (q73) rfl rfl ⟨⟨rfl, by first | rfl | fail⟩, by (repeat' (first | exact trivial | refine And.intro ?_ ?_)) <;> first | exact ren_eq (by first | (simp; done) | fail) (by first | rfl | fail) | fail, by first | simp [plainHf, plainB], by first | rfl | fail, ?_⟩
 conv => whnf
 repeat (first | (refine Exists.intro _ (And.intro (bytesOf_cut rfl) ?_); conv => whnf) | (refine gdT e4 ?_; conv => whnf) | (refine pkT e4 ?_; conv => whnf) | (refine gdT e5 ?_; conv => whnf) | (refine Exists.intro _ (And.intro rfl ?_); conv => whnf) | (refine And.intro (by first | omega | (simp; omega) | fail) ?_; conv => whnf) | fail)
 refine ok1_callF [7] [false, true] false (r2) rfl rfl ⟨⟨rfl, by first | rfl | fail⟩, by (repeat' (first | exact trivial | refine And.intro ?_ ?_)) <;> first | exact ren_eq (by first | (simp; done) | fail) (by first | rfl | fail) | fail, by first | simp [plainHf, plainB], by first | rfl | fail, ?_⟩
 conv => whnf
 repeat (first | (refine Exists.intro _ (And.intro (bytesOf_cut rfl) ?_); conv => whnf) | (refine gdT e5 ?_; conv => whnf) | (refine pkT e5 ?_; conv => whnf) | (refine And.intro (by first | omega | (simp; omega) | fail) ?_; conv => whnf) | (refine And.intro (by kernel_rfl) ?_; conv => whnf) | fail)
 rw [show (List.take (12 - 0) (List.drop (0 + 0 * ti5.sz) N1) == List.take 12 (List.drop 0 N1)) = true from e6]
 refine ⟨[0], ?_, rfl, rfl, ?_, rfl⟩
 ·
  (repeat' (fail)) <;> first | rfl | fail
 ·
  (repeat' (first | exact trivial | refine And.intro ?_ ?_ | fail)) <;> first | exact ren_eq (by first | (simp; done) | fail) (by first | rfl | fail) | fail
theorem f17 (n : UInt16) (b : List UInt8) (kid c : UInt64) : SCall Try.prog 17 [.u16 n, .sl 0 0 b.length 1 false, .u64 kid, .u64 c] [some (.ro (b.map .u8))] (.b true) [some (.ro (b.map .u8))] := by
 by_cases h2 : 2000 < b.length
 ·
  exact f17_big n b h2 kid c
 ·
  by_cases hb : b.length = 0 ∨ 1024 < b.length
  ·
   rcases u16_cases n with rfl | rfl | rfl | rfl | rfl | h
   ·
    exact f17_n_x 1 48 16 10 (by decide) (by decide) f66_1 f69_1 b hb (by omega) kid c
   ·
    exact f17_n_x 2 48 16 8 (by decide) (by decide) f66_2 f69_2 b hb (by omega) kid c
   ·
    exact f17_n_x 3 48 16 4 (by decide) (by decide) f66_3 f69_3 b hb (by omega) kid c
   ·
    exact f17_n_x 4 16 16 16 (by decide) (by decide) f66_4 f69_4 b hb (by omega) kid c
   ·
    exact f17_w_x 5 32 32 16 (by decide) (by decide) f66_5 f69_5 b hb (by omega) kid c
   ·
    exact f17_o n h b (by omega) kid c
  ·
   rcases u16_cases n with rfl | rfl | rfl | rfl | rfl | h
   ·
    exact f17_n 1 48 16 10 (by decide) (by decide) f66_1 f69_1 b (by omega) (by omega) kid c
   ·
    exact f17_n 2 48 16 8 (by decide) (by decide) f66_2 f69_2 b (by omega) (by omega) kid c
   ·
    exact f17_n 3 48 16 4 (by decide) (by decide) f66_3 f69_3 b (by omega) (by omega) kid c
   ·
    exact f17_n 4 16 16 16 (by decide) (by decide) f66_4 f69_4 b (by omega) (by omega) kid c
   ·
    exact f17_w 5 32 32 16 (by decide) (by decide) f66_5 f69_5 b (by omega) (by omega) kid c
   ·
    exact f17_o n h b (by omega) kid c
end Go.Sh
