/- ctr's reference: the next counter (f57), a text turned (f55). -/
import Derived.Test.YtaknbogocnkmnaaF1a
import Derived.Test.YtaknbogocnkmnaaE9
namespace Go.Sh
open Go.Proofs
set_option maxHeartbeats 4000000
set_option linter.unusedSimpArgs false

/-- The number of a counter's last bytes, so far. -/
def cn64 (c : List UInt8) : Nat → UInt64
  | 0 => 0
  | i + 1 => 256 * cn64 c i + (c.getD (12 + i) 0).toUInt64
theorem cn64_s (c : List UInt8) (i : Nat) : cn64 c (i + 1) = 256 * cn64 c i + (c.getD (12 + i) 0).toUInt64 := rfl
theorem cn64_z (c : List UInt8) : cn64 c 0 = 0 := rfl

theorem u8_64 (x : UInt8) : x.toUInt64.toNat = x.toNat := by simp
theorem cn64_num (c : List UInt8) : (cn64 c 4).toNat = cnum (c.getD 12 0) (c.getD 13 0) (c.getD 14 0) (c.getD 15 0) := by
  have ha : (c.getD 12 0).toNat < 256 := UInt8.toNat_lt _
  have hb : (c.getD 13 0).toNat < 256 := UInt8.toNat_lt _
  have hc : (c.getD 14 0).toNat < 256 := UInt8.toNat_lt _
  have hd : (c.getD 15 0).toNat < 256 := UInt8.toNat_lt _
  unfold cnum
  simp only [cn64, UInt64.toNat_add, UInt64.toNat_mul, u8_64]
  rw [show UInt64.toNat 256 = 256 from rfl, show UInt64.toNat 0 = 0 from rfl]
  simp only [Nat.add_zero, show 12 + 1 = 13 from rfl, show 12 + 2 = 14 from rfl, show 12 + 3 = 15 from rfl]
  omega
theorem cnum_lt (a b c d : UInt8) : cnum a b c d < 4294967296 := by
  have ha : a.toNat < 256 := UInt8.toNat_lt _
  have hb : b.toNat < 256 := UInt8.toNat_lt _
  have hc : c.toNat < 256 := UInt8.toNat_lt _
  have hd : d.toNat < 256 := UInt8.toNat_lt _
  unfold cnum; omega
theorem u64_8 (x : UInt64) (n : Nat) (h : x.toNat = n) : x.toUInt8 = UInt8.ofNat n := by
  apply UInt8.toNat_inj.mp; subst h; simp
theorem cb64 (x : UInt64) (a b c d : UInt8) (h : x.toNat = cnum a b c d) : [((x + 1) % 4294967296 / 16777216).toUInt8, ((x + 1) % 4294967296 / 65536 % 256).toUInt8, ((x + 1) % 4294967296 / 256 % 256).toUInt8, ((x + 1) % 4294967296 % 256).toUInt8] = inc4 a b c d := by
  have hl := cnum_lt a b c d
  rw [inc4_num, ← h]
  rw [← h] at hl
  unfold cbyt
  have e : ((x + 1) % 4294967296).toNat = (x.toNat + 1) % 4294967296 := by
    rw [UInt64.toNat_mod, UInt64.toNat_add]
    rw [show UInt64.toNat 4294967296 = 4294967296 from rfl, show UInt64.toNat 1 = 1 from rfl]
    omega
  simp only [List.cons.injEq, and_true]
  refine ⟨u64_8 _ _ ?_, u64_8 _ _ ?_, u64_8 _ _ ?_, u64_8 _ _ ?_⟩
  · rw [UInt64.toNat_div, e]; rfl
  · rw [UInt64.toNat_mod, UInt64.toNat_div, e]; rfl
  · rw [UInt64.toNat_mod, UInt64.toNat_div, e]; rfl
  · rw [UInt64.toNat_mod, e]; rfl

theorem f57 (fl : Bool) (c : List UInt8) (hc : c.length = 16) : SCall Try.prog 57 [.sl 0 0 16 1 fl] [some (.ro (c.map .u8))] (.sl 1 0 16 1 false) [some (.ro (c.map .u8)), some (.row 5 ((nextC c).map .u8))] := by
  refine scall_of ttOk (by kernel_rfl : Try.prog.funcs[57]? = some Try.f57) rfl rfl rfl ?_
  refine sw_ok ttOk mixed (by kernel_rfl) ?_
  conv => whnf
  repeat (fail)
  refine loop_rule ttOk mixed (by kernel_rfl) (ι := { i : Nat // i ≤ 4 }) (fun i => [(0, .sl 0 0 16 1 fl), (3, .u64 (cn64 c i.1)), (4, .i ((12 + i.1 : Nat) : Int))]) (fun i => [some (.ro (c.map .u8))]) (fun _ => 1) (fun i => 4 - i.1) ⟨0, by omega⟩ ?_ ?_
  · refine Weak.sel [0] rfl rfl ?_ ?_ rfl rfl
    · (repeat' (first | exact trivial | refine And.intro ?_ ?_ | fail)) <;> first | rfl | fail
    · (repeat' (first | exact trivial | refine And.intro ?_ ?_ | fail)) <;> first | exact ren_eq (by first | (simp; done) | fail) (by first | rfl | fail) | fail
  · rintro ⟨i, hi⟩
    dsimp only
    by_cases hi2 : i < 4
    · have hlt : decide (((12 + i : Nat) : Int) < 16) = true := by simp; omega
      have hp1 := w6_p1 (12 + i) (by omega)
      conv => whnf
      first | refine brT (by exact hlt) ?_ | fail
      conv => whnf
      repeat (first | (refine Exists.intro _ (And.intro (sload_u8 (i := 12 + i) (by first | rfl | omega | fail) (by first | omega | fail)) ?_); conv => whnf) | (refine Exists.intro _ (And.intro (idx_i (m := 12 + i) (by first | rfl | fail)) ?_); conv => whnf) | (refine And.intro (by first | omega | fail) ?_; conv => whnf) | fail)
      refine ⟨⟨i + 1, by omega⟩, by simp only; omega, ?_⟩
      refine Weak.sel [0] rfl rfl ?_ ?_ rfl rfl
      · (repeat' (first | exact trivial | refine And.intro ?_ ?_ | fail)) <;> first | rfl | exact wk_i (by first | exact hp1.symm | fail) | fail
      · (repeat' (first | exact trivial | refine And.intro ?_ ?_ | fail)) <;> first | exact ren_eq (by first | (simp; done) | fail) (by first | rfl | fail) | fail
    · obtain rfl : i = 4 := by omega
      have hlt : decide (((12 + 4 : Nat) : Int) < 16) = false := by decide
      conv => whnf
      first | refine brF (by exact hlt) ?_ | fail
      conv => whnf
      repeat (first | (refine Exists.intro _ (And.intro rfl ?_); conv => whnf) | (refine And.intro (by first | omega | (simp [ti5]; omega)) ?_; conv => whnf) | fail)
      obtain ⟨c0, c1, c2, c3, c4, c5, c6, c7, c8, c9, c10, c11, c12, c13, c14, c15, rfl⟩ := ex16 hc
      have hcb := cb64 _ _ _ _ _ (cn64_num [c0, c1, c2, c3, c4, c5, c6, c7, c8, c9, c10, c11, c12, c13, c14, c15])
      obtain ⟨x, hx⟩ : ∃ x, x = cn64 [c0, c1, c2, c3, c4, c5, c6, c7, c8, c9, c10, c11, c12, c13, c14, c15] 4 := ⟨_, rfl⟩
      rw [← hx] at hcb ⊢
      have hfin : (nextC [c0, c1, c2, c3, c4, c5, c6, c7, c8, c9, c10, c11, c12, c13, c14, c15]).map SV.u8 = [c0, c1, c2, c3, c4, c5, c6, c7, c8, c9, c10, c11].map SV.u8 ++ ([((x + 1) % 4294967296 / 16777216).toUInt8, ((x + 1) % 4294967296 / 65536 % 256).toUInt8, ((x + 1) % 4294967296 / 256 % 256).toUInt8, ((x + 1) % 4294967296 % 256).toUInt8]).map SV.u8 := by rw [hcb]; rfl
      refine ⟨[0, 4], ?_, rfl, rfl, ?_, rfl⟩
      · (repeat' (fail)) <;> first | rfl | fail
      · (repeat' (first | exact trivial | exact ren_eq (plainL_u8 _) hfin | refine And.intro ?_ ?_ | (refine wk_cons ?_ ?_))) <;> first | rfl | fail
end Go.Sh
