/- The meaning of Go's operations on numbers, in the shadow's typed numbers, and that the model's are these. -/
import Derived.Test.YtaknbogocnkmnaaSh1
namespace Go.Sh

def w64 (n : Int) : Int := IntKind.i64.wrap n
theorem w64_of {n : Int} (h : -9223372036854775808 ≤ n) (k : n < 9223372036854775808) : w64 n = n := by
  unfold w64; rw [IntKind.wrap_i64]; omega
theorem w64_eq (n : Int) : w64 n = (n + 9223372036854775808) % 18446744073709551616 - 9223372036854775808 := IntKind.wrap_i64 n

def shl8 (a : UInt8) (n : Nat) : UInt8 := if n < 8 then a <<< UInt8.ofNat n else 0
def shr8 (a : UInt8) (n : Nat) : UInt8 := if n < 8 then a >>> UInt8.ofNat n else 0
def shl16 (a : UInt16) (n : Nat) : UInt16 := if n < 16 then a <<< UInt16.ofNat n else 0
def shr16 (a : UInt16) (n : Nat) : UInt16 := if n < 16 then a >>> UInt16.ofNat n else 0
def shl32 (a : UInt32) (n : Nat) : UInt32 := if n < 32 then a <<< UInt32.ofNat n else 0
def shr32 (a : UInt32) (n : Nat) : UInt32 := if n < 32 then a >>> UInt32.ofNat n else 0
def shl64 (a : UInt64) (n : Nat) : UInt64 := if n < 64 then a <<< UInt64.ofNat n else 0
def shr64 (a : UInt64) (n : Nat) : UInt64 := if n < 64 then a >>> UInt64.ofNat n else 0
def u8i (n : Int) : UInt8 := UInt8.ofNat (n % 256).toNat
def u16i (n : Int) : UInt16 := UInt16.ofNat (n % 65536).toNat
def u32i (n : Int) : UInt32 := UInt32.ofNat (n % 4294967296).toNat
def u64i (n : Int) : UInt64 := UInt64.ofNat (n % 18446744073709551616).toNat

def cnt : SV → Option Nat
  | .i n => if 0 ≤ n then some n.toNat else none
  | .u64 c => some c.toNat
  | .u32 c => some c.toNat
  | .u8 c => some c.toNat
  | _ => none

def sshl (n : Nat) : SV → Option SV
  | .u8 a => some (.u8 (shl8 a n))
  | .u16 a => some (.u16 (shl16 a n))
  | .u32 a => some (.u32 (shl32 a n))
  | .u64 a => some (.u64 (shl64 a n))
  | .i a => some (.i (w64 (a * 2 ^ min n 64)))
  | _ => none
def sshr (n : Nat) : SV → Option SV
  | .u8 a => some (.u8 (shr8 a n))
  | .u16 a => some (.u16 (shr16 a n))
  | .u32 a => some (.u32 (shr32 a n))
  | .u64 a => some (.u64 (shr64 a n))
  | .i a => some (.i (a.fdiv (2 ^ min n 64)))
  | _ => none

/-- The operators on numbers of one kind, shifts apart. -/
def sarith (op : BinOp) : SV → SV → Option SV
  | .i a, .i c => match op with
    | .add => some (.i (w64 (a + c))) | .sub => some (.i (w64 (a - c))) | .mul => some (.i (w64 (a * c)))
    | .quo => if c = 0 then none else some (.i (w64 (a.tdiv c))) | .rem => if c = 0 then none else some (.i (a.tmod c))
    | .eql => some (.b (a == c)) | .neq => some (.b (a != c)) | .lss => some (.b (decide (a < c))) | .leq => some (.b (decide (a ≤ c)))
    | .gtr => some (.b (decide (a > c))) | .geq => some (.b (decide (a ≥ c))) | _ => none
  | .u8 a, .u8 c => match op with
    | .add => some (.u8 (a + c)) | .sub => some (.u8 (a - c)) | .mul => some (.u8 (a * c))
    | .quo => if c = 0 then none else some (.u8 (a / c)) | .rem => if c = 0 then none else some (.u8 (a % c))
    | .and => some (.u8 (a &&& c)) | .or => some (.u8 (a ||| c)) | .xor => some (.u8 (a ^^^ c))
    | .eql => some (.b (a == c)) | .neq => some (.b (a != c)) | .lss => some (.b (decide (a < c))) | .leq => some (.b (decide (a ≤ c)))
    | .gtr => some (.b (decide (a > c))) | .geq => some (.b (decide (a ≥ c))) | _ => none
  | .u16 a, .u16 c => match op with
    | .add => some (.u16 (a + c)) | .sub => some (.u16 (a - c)) | .mul => some (.u16 (a * c))
    | .quo => if c = 0 then none else some (.u16 (a / c)) | .rem => if c = 0 then none else some (.u16 (a % c))
    | .and => some (.u16 (a &&& c)) | .or => some (.u16 (a ||| c)) | .xor => some (.u16 (a ^^^ c))
    | .eql => some (.b (a == c)) | .neq => some (.b (a != c)) | .lss => some (.b (decide (a < c))) | .leq => some (.b (decide (a ≤ c)))
    | .gtr => some (.b (decide (a > c))) | .geq => some (.b (decide (a ≥ c))) | _ => none
  | .u32 a, .u32 c => match op with
    | .add => some (.u32 (a + c)) | .sub => some (.u32 (a - c)) | .mul => some (.u32 (a * c))
    | .quo => if c = 0 then none else some (.u32 (a / c)) | .rem => if c = 0 then none else some (.u32 (a % c))
    | .and => some (.u32 (a &&& c)) | .or => some (.u32 (a ||| c)) | .xor => some (.u32 (a ^^^ c))
    | .eql => some (.b (a == c)) | .neq => some (.b (a != c)) | .lss => some (.b (decide (a < c))) | .leq => some (.b (decide (a ≤ c)))
    | .gtr => some (.b (decide (a > c))) | .geq => some (.b (decide (a ≥ c))) | _ => none
  | .u64 a, .u64 c => match op with
    | .add => some (.u64 (a + c)) | .sub => some (.u64 (a - c)) | .mul => some (.u64 (a * c))
    | .quo => if c = 0 then none else some (.u64 (a / c)) | .rem => if c = 0 then none else some (.u64 (a % c))
    | .and => some (.u64 (a &&& c)) | .or => some (.u64 (a ||| c)) | .xor => some (.u64 (a ^^^ c))
    | .eql => some (.b (a == c)) | .neq => some (.b (a != c)) | .lss => some (.b (decide (a < c))) | .leq => some (.b (decide (a ≤ c)))
    | .gtr => some (.b (decide (a > c))) | .geq => some (.b (decide (a ≥ c))) | _ => none
  | .s a, .s c => match op with
    | .eql => some (.b (a == c)) | .neq => some (.b (!(a == c)))
    | .add => if a.length + c.length < 9223372036854775808 then some (.s (a ++ c)) else none
    | _ => none
  | _, _ => none

def snum (op : BinOp) (x y : SV) : Option SV :=
  match op with
  | .shl => (cnt y).bind fun n => sshl n x
  | .shr => (cnt y).bind fun n => sshr n x
  | _ => sarith op x y

section
variable {P : Program} {ρ : Ren} {w : World}

theorem ite_eq_tmod_zero {a : Int} : (if a = 0 then (1:Nat) else 0) = if a = 0 then 1 else 0 := rfl

theorem cnt_spec {y : SV} {n : Nat} {v : Value} (h : cnt y = some n) (hy : Rel ρ y v) : ∃ k : IntKind, v = .int k (n : Int) := by
  cases y <;> simp only [cnt, Rel] at h hy <;> try (cases h; done)
  · rename_i m
    split at h
    · cases h; exact ⟨_, by rw [hy]; congr 1; omega⟩
    · cases h
  all_goals (cases h; exact ⟨_, hy⟩)

set_option maxRecDepth 4000 in
theorem shl8_toNat (a : UInt8) (n : Nat) : (((shl8 a n).toNat : Nat) : Int) = IntKind.u8.wrap ((a.toNat : Int) * 2 ^ min n 8) := by
  rw [IntKind.wrap_u8]
  unfold shl8
  have h2 : (2 : Int) ^ 8 = 256 := by decide
  split
  · rename_i h
    rw [Nat.min_eq_left (by omega), UInt8.toNat_shiftLeft, UInt8.toNat_ofNat', Nat.shiftLeft_eq]
    rw [Nat.mod_eq_of_lt (by omega : n % 2 ^ 8 < 8), Nat.mod_eq_of_lt (by omega : n < 2 ^ 8)]
    generalize hq : a.toNat * 2 ^ n = q
    have e : (a.toNat : Int) * 2 ^ n = (q : Int) := by rw [← hq]; simp only [Int.natCast_mul, Int.natCast_pow]; rfl
    rw [e]; omega
  · rename_i h
    rw [Nat.min_eq_right (by omega), h2]
    show (0 : Int) = _
    omega
set_option maxRecDepth 4000 in
theorem shl16_toNat (a : UInt16) (n : Nat) : (((shl16 a n).toNat : Nat) : Int) = IntKind.u16.wrap ((a.toNat : Int) * 2 ^ min n 16) := by
  rw [IntKind.wrap_u16]
  unfold shl16
  have h2 : (2 : Int) ^ 16 = 65536 := by decide
  split
  · rename_i h
    rw [Nat.min_eq_left (by omega), UInt16.toNat_shiftLeft, UInt16.toNat_ofNat', Nat.shiftLeft_eq]
    rw [Nat.mod_eq_of_lt (by omega : n % 2 ^ 16 < 16), Nat.mod_eq_of_lt (by omega : n < 2 ^ 16)]
    generalize hq : a.toNat * 2 ^ n = q
    have e : (a.toNat : Int) * 2 ^ n = (q : Int) := by rw [← hq]; simp only [Int.natCast_mul, Int.natCast_pow]; rfl
    rw [e]; omega
  · rename_i h
    rw [Nat.min_eq_right (by omega), h2]
    show (0 : Int) = _
    omega
set_option maxRecDepth 4000 in
theorem shl32_toNat (a : UInt32) (n : Nat) : (((shl32 a n).toNat : Nat) : Int) = IntKind.u32.wrap ((a.toNat : Int) * 2 ^ min n 32) := by
  rw [IntKind.wrap_u32]
  unfold shl32
  have h2 : (2 : Int) ^ 32 = 4294967296 := by decide
  split
  · rename_i h
    rw [Nat.min_eq_left (by omega), UInt32.toNat_shiftLeft, UInt32.toNat_ofNat', Nat.shiftLeft_eq]
    rw [Nat.mod_eq_of_lt (by omega : n % 2 ^ 32 < 32), Nat.mod_eq_of_lt (by omega : n < 2 ^ 32)]
    generalize hq : a.toNat * 2 ^ n = q
    have e : (a.toNat : Int) * 2 ^ n = (q : Int) := by rw [← hq]; simp only [Int.natCast_mul, Int.natCast_pow]; rfl
    rw [e]; omega
  · rename_i h
    rw [Nat.min_eq_right (by omega), h2]
    show (0 : Int) = _
    omega
set_option maxRecDepth 4000 in
theorem shl64_toNat (a : UInt64) (n : Nat) : (((shl64 a n).toNat : Nat) : Int) = IntKind.u64.wrap ((a.toNat : Int) * 2 ^ min n 64) := by
  rw [IntKind.wrap_u64]
  unfold shl64
  have h2 : (2 : Int) ^ 64 = 18446744073709551616 := by decide
  split
  · rename_i h
    rw [Nat.min_eq_left (by omega), UInt64.toNat_shiftLeft, UInt64.toNat_ofNat', Nat.shiftLeft_eq]
    rw [Nat.mod_eq_of_lt (by omega : n % 2 ^ 64 < 64), Nat.mod_eq_of_lt (by omega : n < 2 ^ 64)]
    generalize hq : a.toNat * 2 ^ n = q
    have e : (a.toNat : Int) * 2 ^ n = (q : Int) := by rw [← hq]; simp only [Int.natCast_mul, Int.natCast_pow]; rfl
    rw [e]; omega
  · rename_i h
    rw [Nat.min_eq_right (by omega), h2]
    show (0 : Int) = _
    omega

theorem fdiv_nat (a n : Nat) : ((a : Int)).fdiv (2 ^ n) = ((a / 2 ^ n : Nat) : Int) := by
  rw [Int.fdiv_eq_ediv_of_nonneg _ (by exact Int.le_of_lt (Int.pow_pos (by decide)))]
  push_cast; rfl

theorem shr8_toNat (a : UInt8) (n : Nat) : (((shr8 a n).toNat : Nat) : Int) = ((a.toNat : Int)).fdiv (2 ^ min n 8) := by
  rw [fdiv_nat]
  unfold shr8
  have ha := a.toNat_lt
  split
  · rename_i h
    rw [Nat.min_eq_left (by omega), UInt8.toNat_shiftRight, UInt8.toNat_ofNat', Nat.shiftRight_eq_div_pow]
    rw [Nat.mod_eq_of_lt (by omega : n % 2 ^ 8 < 8), Nat.mod_eq_of_lt (by omega : n < 2 ^ 8)]
  · rename_i h
    rw [Nat.min_eq_right (by omega), Nat.div_eq_of_lt ha]; rfl
theorem shr16_toNat (a : UInt16) (n : Nat) : (((shr16 a n).toNat : Nat) : Int) = ((a.toNat : Int)).fdiv (2 ^ min n 16) := by
  rw [fdiv_nat]
  unfold shr16
  have ha := a.toNat_lt
  split
  · rename_i h
    rw [Nat.min_eq_left (by omega), UInt16.toNat_shiftRight, UInt16.toNat_ofNat', Nat.shiftRight_eq_div_pow]
    rw [Nat.mod_eq_of_lt (by omega : n % 2 ^ 16 < 16), Nat.mod_eq_of_lt (by omega : n < 2 ^ 16)]
  · rename_i h
    rw [Nat.min_eq_right (by omega), Nat.div_eq_of_lt ha]; rfl
theorem shr32_toNat (a : UInt32) (n : Nat) : (((shr32 a n).toNat : Nat) : Int) = ((a.toNat : Int)).fdiv (2 ^ min n 32) := by
  rw [fdiv_nat]
  unfold shr32
  have ha := a.toNat_lt
  split
  · rename_i h
    rw [Nat.min_eq_left (by omega), UInt32.toNat_shiftRight, UInt32.toNat_ofNat', Nat.shiftRight_eq_div_pow]
    rw [Nat.mod_eq_of_lt (by omega : n % 2 ^ 32 < 32), Nat.mod_eq_of_lt (by omega : n < 2 ^ 32)]
  · rename_i h
    rw [Nat.min_eq_right (by omega), Nat.div_eq_of_lt ha]; rfl
theorem shr64_toNat (a : UInt64) (n : Nat) : (((shr64 a n).toNat : Nat) : Int) = ((a.toNat : Int)).fdiv (2 ^ min n 64) := by
  rw [fdiv_nat]
  unfold shr64
  have ha := a.toNat_lt
  split
  · rename_i h
    rw [Nat.min_eq_left (by omega), UInt64.toNat_shiftRight, UInt64.toNat_ofNat', Nat.shiftRight_eq_div_pow]
    rw [Nat.mod_eq_of_lt (by omega : n % 2 ^ 64 < 64), Nat.mod_eq_of_lt (by omega : n < 2 ^ 64)]
  · rename_i h
    rw [Nat.min_eq_right (by omega), Nat.div_eq_of_lt ha]; rfl

theorem run_shl {k yk : IntKind} (a : Int) (n : Nat) (t : TypeId) : (binOp .shl t (.int k a) (.int yk (n : Int))).run P w = .ok (.int k (k.wrap (a * 2 ^ min n k.bits))) w := by
  have h : ¬ ((n : Int) < 0) := by omega
  simp [binOp, Op.shift, h]
theorem run_shr {k yk : IntKind} (a : Int) (n : Nat) (t : TypeId) : (binOp .shr t (.int k a) (.int yk (n : Int))).run P w = .ok (.int k (a.fdiv (2 ^ min n k.bits))) w := by
  have h : ¬ ((n : Int) < 0) := by omega
  simp [binOp, Op.shift, h]

theorem sshl_ok {n : Nat} {x z : SV} {v : Value} {yk : IntKind} (t : TypeId) (h : sshl n x = some z) (hx : Rel ρ x v) :
    ∃ u, (binOp .shl t v (.int yk (n : Int))).run P w = .ok u w ∧ Rel ρ z u := by
  cases x <;> simp only [sshl, Rel] at h hx <;> try (cases h; done)
  all_goals (cases h; subst hx; refine ⟨_, run_shl _ _ _, ?_⟩; simp only [Rel])
  · rfl
  · rw [shl8_toNat]; rfl
  · rw [shl16_toNat]; rfl
  · rw [shl32_toNat]; rfl
  · rw [shl64_toNat]; rfl

theorem sshr_ok {n : Nat} {x z : SV} {v : Value} {yk : IntKind} (t : TypeId) (h : sshr n x = some z) (hx : Rel ρ x v) :
    ∃ u, (binOp .shr t v (.int yk (n : Int))).run P w = .ok u w ∧ Rel ρ z u := by
  cases x <;> simp only [sshr, Rel] at h hx <;> try (cases h; done)
  all_goals (cases h; subst hx; refine ⟨_, run_shr _ _ _, ?_⟩; simp only [Rel])
  · rfl
  · rw [shr8_toNat]; rfl
  · rw [shr16_toNat]; rfl
  · rw [shr32_toNat]; rfl
  · rw [shr64_toNat]; rfl

theorem tmod_nat (a b : Nat) : (a : Int).tmod b = ((a % b : Nat) : Int) := rfl
theorem tdiv_nat (a b : Nat) : (a : Int).tdiv b = ((a / b : Nat) : Int) := rfl
theorem ofInt_nat (k m : Nat) : BitVec.ofInt k (m : Int) = BitVec.ofNat k m := BitVec.ofInt_natCast k m

theorem byteArray_toList (l : List UInt8) : (⟨⟨l⟩⟩ : ByteArray).toList = l := by
  rw [ByteArray.toList_eq]

def arithOf (op : BinOp) (k : IntKind) (a c : Int) : Sem Value :=
  match op with
  | .add | .sub | .mul => Op.intArith op k a c
  | .quo | .rem => Op.intDiv op k a c
  | .and | .or | .xor | .andNot => Op.intBits op k a c
  | _ => Op.intCmp op a c
theorem run_arith {op : BinOp} {k : IntKind} (a c : Int) (t : TypeId) (h : op ≠ .shl ∧ op ≠ .shr) : (binOp op t (.int k a) (.int k c)).run P w = (arithOf op k a c).run P w := by
  cases op <;> first | (exact absurd rfl h.1) | (exact absurd rfl h.2) | (simp [binOp, arithOf])

theorem i_ok {op : BinOp} {a c : Int} {z : SV} (t : TypeId) (h : sarith op (.i a) (.i c) = some z) :
    ∃ r, (binOp op t (.int .i64 a) (.int .i64 c)).run P w = .ok r w ∧ Rel ρ z r := by
  cases op <;> simp only [sarith] at h <;> (try (cases h; done)) <;> rw [run_arith a c t (by decide)]
  · cases h; exact ⟨_, rfl, by simp only [Rel, w64]⟩
  · cases h; exact ⟨_, rfl, by simp only [Rel, w64]⟩
  · cases h; exact ⟨_, rfl, by simp only [Rel, w64]⟩
  · by_cases hc : c = 0
    · rw [if_pos hc] at h; cases h
    · rw [if_neg hc] at h; cases h
      exact ⟨_, by simp only [arithOf, Op.intDiv, if_neg hc]; rfl, by simp only [Rel, w64]⟩
  · by_cases hc : c = 0
    · rw [if_pos hc] at h; cases h
    · rw [if_neg hc] at h; cases h
      exact ⟨_, by simp only [arithOf, Op.intDiv, if_neg hc]; rfl, by simp only [Rel]⟩
  · cases h; exact ⟨_, rfl, by simp only [Rel]⟩
  · cases h; exact ⟨_, rfl, by simp only [Rel]⟩
  · cases h; exact ⟨_, rfl, by simp only [Rel]⟩
  · cases h; exact ⟨_, rfl, by simp only [Rel]⟩
  · cases h; exact ⟨_, rfl, by simp only [Rel]⟩
  · cases h; exact ⟨_, rfl, by simp only [Rel]⟩

theorem u8_bits (x : BitVec 8) : IntKind.u8.wrap (x.toNat : Int) = (x.toNat : Int) := by
  rw [IntKind.wrap_u8]; have := x.isLt; omega
theorem u8_ofInt (a : UInt8) : BitVec.ofInt IntKind.u8.bits (a.toNat : Int) = a.toBitVec := by
  show BitVec.ofInt 8 (a.toNat : Int) = _
  rw [BitVec.ofInt_natCast]; simp
theorem u8_ok {op : BinOp} {a c : UInt8} {z : SV} (t : TypeId) (h : sarith op (.u8 a) (.u8 c) = some z) :
    ∃ r, (binOp op t (.int .u8 (a.toNat : Int)) (.int .u8 (c.toNat : Int))).run P w = .ok r w ∧ Rel ρ z r := by
  have ha := a.toNat_lt
  have hc := c.toNat_lt
  cases op <;> simp only [sarith] at h <;> (try (cases h; done)) <;> rw [run_arith _ _ t (by decide)]
  · cases h; refine ⟨_, rfl, ?_⟩; simp only [Rel]; rw [IntKind.wrap_u8, UInt8.toNat_add]; congr 1
  · cases h; refine ⟨_, rfl, ?_⟩; simp only [Rel]; rw [IntKind.wrap_u8, UInt8.toNat_sub]; congr 1; omega
  · cases h; refine ⟨_, rfl, ?_⟩; simp only [Rel]; rw [IntKind.wrap_u8, UInt8.toNat_mul]; congr 1
  · by_cases h0 : c = 0
    · rw [if_pos h0] at h; cases h
    · rw [if_neg h0] at h; cases h
      have hn : ¬ ((c.toNat : Int) = 0) := fun e => h0 (UInt8.toNat_inj.1 (by simpa using e))
      refine ⟨_, by simp only [arithOf, Op.intDiv, if_neg hn]; rfl, ?_⟩
      simp only [Rel]; rw [tdiv_nat, IntKind.wrap_u8, UInt8.toNat_div]; congr 1
      have : a.toNat / c.toNat ≤ a.toNat := Nat.div_le_self _ _
      generalize a.toNat / c.toNat = q at this ⊢
      omega
  · by_cases h0 : c = 0
    · rw [if_pos h0] at h; cases h
    · rw [if_neg h0] at h; cases h
      have hn : ¬ ((c.toNat : Int) = 0) := fun e => h0 (UInt8.toNat_inj.1 (by simpa using e))
      refine ⟨_, by simp only [arithOf, Op.intDiv, if_neg hn]; rfl, ?_⟩
      simp only [Rel]; rw [tmod_nat, UInt8.toNat_mod]
  · cases h; refine ⟨_, rfl, ?_⟩; simp only [Rel, u8_ofInt]; exact congrArg _ (u8_bits _)
  · cases h; refine ⟨_, rfl, ?_⟩; simp only [Rel, u8_ofInt]; exact congrArg _ (u8_bits _)
  · cases h; refine ⟨_, rfl, ?_⟩; simp only [Rel, u8_ofInt]; exact congrArg _ (u8_bits _)
  · cases h; refine ⟨_, rfl, ?_⟩; simp only [Rel]; congr 1; rw [Bool.eq_iff_iff]; simp [← UInt8.toNat_inj]; omega
  · cases h; refine ⟨_, rfl, ?_⟩; simp only [Rel]; congr 1; rw [Bool.eq_iff_iff]; simp [← UInt8.toNat_inj]; omega
  · cases h; refine ⟨_, rfl, ?_⟩; simp only [Rel]; congr 1; rw [Bool.eq_iff_iff]; simp [UInt8.lt_iff_toNat_lt]
  · cases h; refine ⟨_, rfl, ?_⟩; simp only [Rel]; congr 1; rw [Bool.eq_iff_iff]; simp [UInt8.le_iff_toNat_le]
  · cases h; refine ⟨_, rfl, ?_⟩; simp only [Rel]; congr 1; rw [Bool.eq_iff_iff]; simp [UInt8.lt_iff_toNat_lt]
  · cases h; refine ⟨_, rfl, ?_⟩; simp only [Rel]; congr 1; rw [Bool.eq_iff_iff]; simp [UInt8.le_iff_toNat_le]

theorem u16_bits (x : BitVec 16) : IntKind.u16.wrap (x.toNat : Int) = (x.toNat : Int) := by
  rw [IntKind.wrap_u16]; have := x.isLt; omega
theorem u16_ofInt (a : UInt16) : BitVec.ofInt IntKind.u16.bits (a.toNat : Int) = a.toBitVec := by
  show BitVec.ofInt 16 (a.toNat : Int) = _
  rw [BitVec.ofInt_natCast]; simp
theorem u16_ok {op : BinOp} {a c : UInt16} {z : SV} (t : TypeId) (h : sarith op (.u16 a) (.u16 c) = some z) :
    ∃ r, (binOp op t (.int .u16 (a.toNat : Int)) (.int .u16 (c.toNat : Int))).run P w = .ok r w ∧ Rel ρ z r := by
  have ha := a.toNat_lt
  have hc := c.toNat_lt
  cases op <;> simp only [sarith] at h <;> (try (cases h; done)) <;> rw [run_arith _ _ t (by decide)]
  · cases h; refine ⟨_, rfl, ?_⟩; simp only [Rel]; rw [IntKind.wrap_u16, UInt16.toNat_add]; congr 1
  · cases h; refine ⟨_, rfl, ?_⟩; simp only [Rel]; rw [IntKind.wrap_u16, UInt16.toNat_sub]; congr 1; omega
  · cases h; refine ⟨_, rfl, ?_⟩; simp only [Rel]; rw [IntKind.wrap_u16, UInt16.toNat_mul]; congr 1
  · by_cases h0 : c = 0
    · rw [if_pos h0] at h; cases h
    · rw [if_neg h0] at h; cases h
      have hn : ¬ ((c.toNat : Int) = 0) := fun e => h0 (UInt16.toNat_inj.1 (by simpa using e))
      refine ⟨_, by simp only [arithOf, Op.intDiv, if_neg hn]; rfl, ?_⟩
      simp only [Rel]; rw [tdiv_nat, IntKind.wrap_u16, UInt16.toNat_div]; congr 1
      have : a.toNat / c.toNat ≤ a.toNat := Nat.div_le_self _ _
      generalize a.toNat / c.toNat = q at this ⊢
      omega
  · by_cases h0 : c = 0
    · rw [if_pos h0] at h; cases h
    · rw [if_neg h0] at h; cases h
      have hn : ¬ ((c.toNat : Int) = 0) := fun e => h0 (UInt16.toNat_inj.1 (by simpa using e))
      refine ⟨_, by simp only [arithOf, Op.intDiv, if_neg hn]; rfl, ?_⟩
      simp only [Rel]; rw [tmod_nat, UInt16.toNat_mod]
  · cases h; refine ⟨_, rfl, ?_⟩; simp only [Rel, u16_ofInt]; exact congrArg _ (u16_bits _)
  · cases h; refine ⟨_, rfl, ?_⟩; simp only [Rel, u16_ofInt]; exact congrArg _ (u16_bits _)
  · cases h; refine ⟨_, rfl, ?_⟩; simp only [Rel, u16_ofInt]; exact congrArg _ (u16_bits _)
  · cases h; refine ⟨_, rfl, ?_⟩; simp only [Rel]; congr 1; rw [Bool.eq_iff_iff]; simp [← UInt16.toNat_inj]; omega
  · cases h; refine ⟨_, rfl, ?_⟩; simp only [Rel]; congr 1; rw [Bool.eq_iff_iff]; simp [← UInt16.toNat_inj]; omega
  · cases h; refine ⟨_, rfl, ?_⟩; simp only [Rel]; congr 1; rw [Bool.eq_iff_iff]; simp [UInt16.lt_iff_toNat_lt]
  · cases h; refine ⟨_, rfl, ?_⟩; simp only [Rel]; congr 1; rw [Bool.eq_iff_iff]; simp [UInt16.le_iff_toNat_le]
  · cases h; refine ⟨_, rfl, ?_⟩; simp only [Rel]; congr 1; rw [Bool.eq_iff_iff]; simp [UInt16.lt_iff_toNat_lt]
  · cases h; refine ⟨_, rfl, ?_⟩; simp only [Rel]; congr 1; rw [Bool.eq_iff_iff]; simp [UInt16.le_iff_toNat_le]

theorem u32_bits (x : BitVec 32) : IntKind.u32.wrap (x.toNat : Int) = (x.toNat : Int) := by
  rw [IntKind.wrap_u32]; have := x.isLt; omega
theorem u32_ofInt (a : UInt32) : BitVec.ofInt IntKind.u32.bits (a.toNat : Int) = a.toBitVec := by
  show BitVec.ofInt 32 (a.toNat : Int) = _
  rw [BitVec.ofInt_natCast]; simp
theorem u32_ok {op : BinOp} {a c : UInt32} {z : SV} (t : TypeId) (h : sarith op (.u32 a) (.u32 c) = some z) :
    ∃ r, (binOp op t (.int .u32 (a.toNat : Int)) (.int .u32 (c.toNat : Int))).run P w = .ok r w ∧ Rel ρ z r := by
  have ha := a.toNat_lt
  have hc := c.toNat_lt
  cases op <;> simp only [sarith] at h <;> (try (cases h; done)) <;> rw [run_arith _ _ t (by decide)]
  · cases h; refine ⟨_, rfl, ?_⟩; simp only [Rel]; rw [IntKind.wrap_u32, UInt32.toNat_add]; congr 1
  · cases h; refine ⟨_, rfl, ?_⟩; simp only [Rel]; rw [IntKind.wrap_u32, UInt32.toNat_sub]; congr 1; omega
  · cases h; refine ⟨_, rfl, ?_⟩; simp only [Rel]; rw [IntKind.wrap_u32, UInt32.toNat_mul]; congr 1
  · by_cases h0 : c = 0
    · rw [if_pos h0] at h; cases h
    · rw [if_neg h0] at h; cases h
      have hn : ¬ ((c.toNat : Int) = 0) := fun e => h0 (UInt32.toNat_inj.1 (by simpa using e))
      refine ⟨_, by simp only [arithOf, Op.intDiv, if_neg hn]; rfl, ?_⟩
      simp only [Rel]; rw [tdiv_nat, IntKind.wrap_u32, UInt32.toNat_div]; congr 1
      have : a.toNat / c.toNat ≤ a.toNat := Nat.div_le_self _ _
      generalize a.toNat / c.toNat = q at this ⊢
      omega
  · by_cases h0 : c = 0
    · rw [if_pos h0] at h; cases h
    · rw [if_neg h0] at h; cases h
      have hn : ¬ ((c.toNat : Int) = 0) := fun e => h0 (UInt32.toNat_inj.1 (by simpa using e))
      refine ⟨_, by simp only [arithOf, Op.intDiv, if_neg hn]; rfl, ?_⟩
      simp only [Rel]; rw [tmod_nat, UInt32.toNat_mod]
  · cases h; refine ⟨_, rfl, ?_⟩; simp only [Rel, u32_ofInt]; exact congrArg _ (u32_bits _)
  · cases h; refine ⟨_, rfl, ?_⟩; simp only [Rel, u32_ofInt]; exact congrArg _ (u32_bits _)
  · cases h; refine ⟨_, rfl, ?_⟩; simp only [Rel, u32_ofInt]; exact congrArg _ (u32_bits _)
  · cases h; refine ⟨_, rfl, ?_⟩; simp only [Rel]; congr 1; rw [Bool.eq_iff_iff]; simp [← UInt32.toNat_inj]; omega
  · cases h; refine ⟨_, rfl, ?_⟩; simp only [Rel]; congr 1; rw [Bool.eq_iff_iff]; simp [← UInt32.toNat_inj]; omega
  · cases h; refine ⟨_, rfl, ?_⟩; simp only [Rel]; congr 1; rw [Bool.eq_iff_iff]; simp [UInt32.lt_iff_toNat_lt]
  · cases h; refine ⟨_, rfl, ?_⟩; simp only [Rel]; congr 1; rw [Bool.eq_iff_iff]; simp [UInt32.le_iff_toNat_le]
  · cases h; refine ⟨_, rfl, ?_⟩; simp only [Rel]; congr 1; rw [Bool.eq_iff_iff]; simp [UInt32.lt_iff_toNat_lt]
  · cases h; refine ⟨_, rfl, ?_⟩; simp only [Rel]; congr 1; rw [Bool.eq_iff_iff]; simp [UInt32.le_iff_toNat_le]

theorem u64_bits (x : BitVec 64) : IntKind.u64.wrap (x.toNat : Int) = (x.toNat : Int) := by
  rw [IntKind.wrap_u64]; have := x.isLt; omega
theorem u64_ofInt (a : UInt64) : BitVec.ofInt IntKind.u64.bits (a.toNat : Int) = a.toBitVec := by
  show BitVec.ofInt 64 (a.toNat : Int) = _
  rw [BitVec.ofInt_natCast]; simp
theorem u64_ok {op : BinOp} {a c : UInt64} {z : SV} (t : TypeId) (h : sarith op (.u64 a) (.u64 c) = some z) :
    ∃ r, (binOp op t (.int .u64 (a.toNat : Int)) (.int .u64 (c.toNat : Int))).run P w = .ok r w ∧ Rel ρ z r := by
  have ha := a.toNat_lt
  have hc := c.toNat_lt
  cases op <;> simp only [sarith] at h <;> (try (cases h; done)) <;> rw [run_arith _ _ t (by decide)]
  · cases h; refine ⟨_, rfl, ?_⟩; simp only [Rel]; rw [IntKind.wrap_u64, UInt64.toNat_add]; congr 1
  · cases h; refine ⟨_, rfl, ?_⟩; simp only [Rel]; rw [IntKind.wrap_u64, UInt64.toNat_sub]; congr 1; omega
  · cases h; refine ⟨_, rfl, ?_⟩; simp only [Rel]; rw [IntKind.wrap_u64, UInt64.toNat_mul]; congr 1
  · by_cases h0 : c = 0
    · rw [if_pos h0] at h; cases h
    · rw [if_neg h0] at h; cases h
      have hn : ¬ ((c.toNat : Int) = 0) := fun e => h0 (UInt64.toNat_inj.1 (by simpa using e))
      refine ⟨_, by simp only [arithOf, Op.intDiv, if_neg hn]; rfl, ?_⟩
      simp only [Rel]; rw [tdiv_nat, IntKind.wrap_u64, UInt64.toNat_div]; congr 1
      have : a.toNat / c.toNat ≤ a.toNat := Nat.div_le_self _ _
      generalize a.toNat / c.toNat = q at this ⊢
      omega
  · by_cases h0 : c = 0
    · rw [if_pos h0] at h; cases h
    · rw [if_neg h0] at h; cases h
      have hn : ¬ ((c.toNat : Int) = 0) := fun e => h0 (UInt64.toNat_inj.1 (by simpa using e))
      refine ⟨_, by simp only [arithOf, Op.intDiv, if_neg hn]; rfl, ?_⟩
      simp only [Rel]; rw [tmod_nat, UInt64.toNat_mod]
  · cases h; refine ⟨_, rfl, ?_⟩; simp only [Rel, u64_ofInt]; exact congrArg _ (u64_bits _)
  · cases h; refine ⟨_, rfl, ?_⟩; simp only [Rel, u64_ofInt]; exact congrArg _ (u64_bits _)
  · cases h; refine ⟨_, rfl, ?_⟩; simp only [Rel, u64_ofInt]; exact congrArg _ (u64_bits _)
  · cases h; refine ⟨_, rfl, ?_⟩; simp only [Rel]; congr 1; rw [Bool.eq_iff_iff]; simp [← UInt64.toNat_inj]; omega
  · cases h; refine ⟨_, rfl, ?_⟩; simp only [Rel]; congr 1; rw [Bool.eq_iff_iff]; simp [← UInt64.toNat_inj]; omega
  · cases h; refine ⟨_, rfl, ?_⟩; simp only [Rel]; congr 1; rw [Bool.eq_iff_iff]; simp [UInt64.lt_iff_toNat_lt]
  · cases h; refine ⟨_, rfl, ?_⟩; simp only [Rel]; congr 1; rw [Bool.eq_iff_iff]; simp [UInt64.le_iff_toNat_le]
  · cases h; refine ⟨_, rfl, ?_⟩; simp only [Rel]; congr 1; rw [Bool.eq_iff_iff]; simp [UInt64.lt_iff_toNat_lt]
  · cases h; refine ⟨_, rfl, ?_⟩; simp only [Rel]; congr 1; rw [Bool.eq_iff_iff]; simp [UInt64.le_iff_toNat_le]

theorem s_ok {op : BinOp} {a c : List UInt8} {z : SV} (t : TypeId) (h : sarith op (.s a) (.s c) = some z) :
    ∃ r, (binOp op t (.string ⟨⟨a⟩⟩) (.string ⟨⟨c⟩⟩)).run P w = .ok r w ∧ Rel ρ z r := by
  cases op <;> simp only [sarith] at h <;> (try (cases h; done))
  · split at h
    · rename_i hl
      cases h
      refine ⟨.string ⟨⟨a ++ c⟩⟩, ?_, by simp only [Rel]⟩
      have e : (⟨⟨a⟩⟩ ++ ⟨⟨c⟩⟩ : ByteArray) = ⟨⟨a ++ c⟩⟩ := by
        apply WideShapes.bytes_inj; simp
      have h1 : (⟨⟨a⟩⟩ : ByteArray).size = a.length := rfl
      have h2 : (⟨⟨c⟩⟩ : ByteArray).size = c.length := rfl
      have h3 : IntKind.i64.max = 9223372036854775807 := by decide
      simp only [binOp, Op.stringOp, h1, h2, h3, e]
      rw [if_neg (by omega)]
      rfl
    · cases h
  · cases h; refine ⟨_, rfl, ?_⟩; simp only [Rel, byteArray_toList]
  · cases h; refine ⟨_, rfl, ?_⟩; simp only [Rel, byteArray_toList]

theorem sarith_ok {op : BinOp} {x y z : SV} {v u : Value} (t : TypeId) (h : sarith op x y = some z) (hx : Rel ρ x v) (hy : Rel ρ y u) :
    ∃ r, (binOp op t v u).run P w = .ok r w ∧ Rel ρ z r := by
  cases x <;> cases y <;> (try (simp only [sarith] at h; cases h; done)) <;> simp only [Rel] at hx hy <;> subst hx <;> subst hy <;>
    first | exact i_ok t h | exact u8_ok t h | exact u16_ok t h | exact u32_ok t h | exact u64_ok t h | exact s_ok t h

theorem snum_ok {op : BinOp} {x y z : SV} {v u : Value} (t : TypeId) (h : snum op x y = some z) (hx : Rel ρ x v) (hy : Rel ρ y u) :
    ∃ r, (binOp op t v u).run P w = .ok r w ∧ Rel ρ z r := by
  cases op <;> simp only [snum] at h <;> (try exact sarith_ok t h hx hy)
  · obtain ⟨n, hn, hs⟩ := Option.bind_eq_some_iff.1 h
    obtain ⟨k, rfl⟩ := cnt_spec hn hy
    exact sshl_ok t hs hx
  · obtain ⟨n, hn, hs⟩ := Option.bind_eq_some_iff.1 h
    obtain ⟨k, rfl⟩ := cnt_spec hn hy
    exact sshr_ok t hs hx

/-! ### One operand; from one kind to another -/

def sun (op : UnOp) : SV → Option SV
  | .b x => match op with | .not => some (.b (!x)) | _ => none
  | .i n => match op with | .neg => some (.i (w64 (0 - n))) | _ => none
  | .u8 n => match op with | .neg => some (.u8 (0 - n)) | .xor => some (.u8 (~~~ n)) | _ => none
  | .u32 n => match op with | .neg => some (.u32 (0 - n)) | .xor => some (.u32 (~~~ n)) | _ => none
  | .u64 n => match op with | .neg => some (.u64 (0 - n)) | .xor => some (.u64 (~~~ n)) | _ => none
  | _ => none

theorem u8_not (n : UInt8) : (Op.intBits .xor .u8 IntKind.u8.max (n.toNat : Int)).run P w = .ok (.int .u8 ((~~~ n).toNat : Int)) w := by
  have e : BitVec.ofInt IntKind.u8.bits IntKind.u8.max = BitVec.allOnes 8 := by
    show BitVec.ofInt 8 _ = _
    decide
  simp only [Op.intBits, u8_ofInt, e]
  show Result.ok _ w = _
  congr 2
  have e2 : (BitVec.allOnes 8 ^^^ n.toBitVec) = ~~~ n.toBitVec := BitVec.allOnes_xor
  exact (congrArg (fun x : BitVec 8 => IntKind.u8.wrap (x.toNat : Int)) e2).trans (u8_bits _)

theorem u32_not (n : UInt32) : (Op.intBits .xor .u32 IntKind.u32.max (n.toNat : Int)).run P w = .ok (.int .u32 ((~~~ n).toNat : Int)) w := by
  have e : BitVec.ofInt IntKind.u32.bits IntKind.u32.max = BitVec.allOnes 32 := by
    show BitVec.ofInt 32 _ = _
    decide
  simp only [Op.intBits, u32_ofInt, e]
  show Result.ok _ w = _
  congr 2
  have e2 : (BitVec.allOnes 32 ^^^ n.toBitVec) = ~~~ n.toBitVec := BitVec.allOnes_xor
  exact (congrArg (fun x : BitVec 32 => IntKind.u32.wrap (x.toNat : Int)) e2).trans (u32_bits _)

theorem u64_not (n : UInt64) : (Op.intBits .xor .u64 IntKind.u64.max (n.toNat : Int)).run P w = .ok (.int .u64 ((~~~ n).toNat : Int)) w := by
  have e : BitVec.ofInt IntKind.u64.bits IntKind.u64.max = BitVec.allOnes 64 := by
    show BitVec.ofInt 64 _ = _
    decide
  simp only [Op.intBits, u64_ofInt, e]
  show Result.ok _ w = _
  congr 2
  have e2 : (BitVec.allOnes 64 ^^^ n.toBitVec) = ~~~ n.toBitVec := BitVec.allOnes_xor
  exact (congrArg (fun x : BitVec 64 => IntKind.u64.wrap (x.toNat : Int)) e2).trans (u64_bits _)

theorem sun_ok {op : UnOp} {x z : SV} {v : Value} (h : sun op x = some z) (hx : Rel ρ x v) : ∃ r, (Op.unary op v).run P w = .ok r w ∧ Rel ρ z r := by
  cases x <;> (try (simp only [sun] at h; cases h; done)) <;> simp only [Rel] at hx <;> subst hx <;> cases op <;> simp only [sun] at h <;> (try (cases h; done)) <;> cases h
  · exact ⟨_, rfl, by simp only [Rel]; rfl⟩
  · obtain ⟨r, hr, hz⟩ := u8_ok (P := P) (ρ := ρ) (w := w) (op := .sub) (a := 0) (c := _) 0 rfl
    exact ⟨r, by simpa [binOp, Op.unary] using hr, hz⟩
  · exact ⟨_, by simp only [Op.unary]; exact u8_not _, by simp only [Rel]⟩
  · obtain ⟨r, hr, hz⟩ := u32_ok (P := P) (ρ := ρ) (w := w) (op := .sub) (a := 0) (c := _) 0 rfl
    exact ⟨r, by simpa [binOp, Op.unary] using hr, hz⟩
  · exact ⟨_, by simp only [Op.unary]; exact u32_not _, by simp only [Rel]⟩
  · obtain ⟨r, hr, hz⟩ := u64_ok (P := P) (ρ := ρ) (w := w) (op := .sub) (a := 0) (c := _) 0 rfl
    exact ⟨r, by simpa [binOp, Op.unary] using hr, hz⟩
  · exact ⟨_, by simp only [Op.unary]; exact u64_not _, by simp only [Rel]⟩
  · exact ⟨_, rfl, by simp only [Rel]⟩

/-- A number as one of another kind. -/
def sconv (d : IntKind) : SV → Option SV
  | .i n => match d with
    | .i64 => some (.i (w64 n)) | .u8 => some (.u8 (u8i n)) | .u16 => some (.u16 (u16i n)) | .u32 => some (.u32 (u32i n)) | .u64 => some (.u64 (u64i n)) | _ => none
  | .u8 x => match d with
    | .i64 => some (.i (x.toNat : Int)) | .u8 => some (.u8 x) | .u16 => some (.u16 x.toUInt16) | .u32 => some (.u32 x.toUInt32) | .u64 => some (.u64 x.toUInt64) | _ => none
  | .u16 x => match d with
    | .i64 => some (.i (x.toNat : Int)) | .u8 => some (.u8 x.toUInt8) | .u16 => some (.u16 x) | .u32 => some (.u32 x.toUInt32) | .u64 => some (.u64 x.toUInt64) | _ => none
  | .u32 x => match d with
    | .i64 => some (.i (x.toNat : Int)) | .u8 => some (.u8 x.toUInt8) | .u16 => some (.u16 x.toUInt16) | .u32 => some (.u32 x) | .u64 => some (.u64 x.toUInt64) | _ => none
  | .u64 x => match d with
    | .i64 => some (.i (w64 (x.toNat : Int))) | .u8 => some (.u8 x.toUInt8) | .u16 => some (.u16 x.toUInt16) | .u32 => some (.u32 x.toUInt32) | .u64 => some (.u64 x) | _ => none
  | _ => none

theorem u8i_toNat (n : Int) : (((u8i n).toNat : Nat) : Int) = n % 256 := by unfold u8i; rw [UInt8.toNat_ofNat']; omega
theorem u16i_toNat (n : Int) : (((u16i n).toNat : Nat) : Int) = n % 65536 := by unfold u16i; rw [UInt16.toNat_ofNat']; omega
theorem u32i_toNat (n : Int) : (((u32i n).toNat : Nat) : Int) = n % 4294967296 := by unfold u32i; rw [UInt32.toNat_ofNat']; omega
theorem u64i_toNat (n : Int) : (((u64i n).toNat : Nat) : Int) = n % 18446744073709551616 := by unfold u64i; rw [UInt64.toNat_ofNat']; omega

theorem vint_eq {k : IntKind} {a b : Int} (h : a = b) : Value.int k a = Value.int k b := by rw [h]

set_option linter.unusedSimpArgs false in
theorem sconv_num {d : IntKind} {x z : SV} {v : Value} (h : sconv d x = some z) (hx : Rel ρ x v) : ∃ k n, v = .int k n ∧ Rel ρ z (.int d (d.wrap n)) := by
  cases x <;> (try (simp only [sconv] at h; cases h; done)) <;> simp only [Rel] at hx <;> subst hx <;> refine ⟨_, _, rfl, ?_⟩ <;>
    cases d <;> simp only [sconv] at h <;> (try (cases h; done)) <;> cases h <;> simp only [Rel] <;> (try rfl) <;>
    simp only [IntKind.wrap_u8, IntKind.wrap_u16, IntKind.wrap_u32, IntKind.wrap_u64, IntKind.wrap_i64, u8i_toNat, u16i_toNat, u32i_toNat, u64i_toNat, UInt8.toNat_toUInt16, UInt8.toNat_toUInt32, UInt8.toNat_toUInt64,
      UInt16.toNat_toUInt8, UInt16.toNat_toUInt32, UInt16.toNat_toUInt64, UInt32.toNat_toUInt8, UInt32.toNat_toUInt16, UInt32.toNat_toUInt64, UInt64.toNat_toUInt8, UInt64.toNat_toUInt16, UInt64.toNat_toUInt32] <;>
    refine vint_eq ?_ <;> first
      | (rename_i x; have := x.toNat_lt; omega)
      | omega
end
end Go.Sh
