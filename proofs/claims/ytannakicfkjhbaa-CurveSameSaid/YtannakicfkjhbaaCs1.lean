/- Merged for a claim: K43. -/
import Derived.Test.YtannakicfkjhbaaCu1
/- curve's laws: CurveSame (f8), walked. -/
namespace Go.Sh
open Go.Proofs
set_option maxHeartbeats 8000000
set_option linter.unusedSimpArgs false
set_option linter.unusedVariables false

def flipS (k : List UInt8) (x y : UInt8) : List UInt8 := (k.set 0 (k.getD 0 0 ^^^ (x &&& 7))).set 31 ((k.set 0 (k.getD 0 0 ^^^ (x &&& 7))).getD 31 0 ^^^ (y &&& 192))
def flipP (p : List UInt8) (y : UInt8) : List UInt8 := p.set 31 (p.getD 31 0 ^^^ (shl8 y 1 &&& 128))
theorem flipS_len (k : List UInt8) (x y : UInt8) : (flipS k x y).length = k.length := by unfold flipS; rw [List.length_set, List.length_set]
theorem flipP_len (k : List UInt8) (y : UInt8) : (flipP k y).length = k.length := by unfold flipP; rw [List.length_set]
theorem flipS_cl {k : List UInt8} (hk : k.length = 32) (x y : UInt8) : clampL (flipS k x y) = clampL k := by
  have h : (k.set 0 (k.getD 0 0 ^^^ (x &&& 7))).getD 31 0 = k.getD 31 0 := by simp
  unfold flipS; rw [h]; exact clamp_drop hk x y
theorem flipP_br {p : List UInt8} (hp : p.length = 32) (y : UInt8) : br (flipP p y) = br p := br_drop hp _
attribute [local irreducible] shN pubN clampL flipS flipP
theorem f8 (k p : List UInt8) (x y : UInt8) (hk : k.length = 32) (hp : p.length = 32) : SCall Try.prog 8 [.agg (k.map .u8), .agg (p.map .u8), .u8 x, .u8 y] [] (.b true) [] := by
  have hcl : (clampL k).length = 32 := by rw [clamp_len]; exact hk
  have hcc := clamp_clamp hk
  have hsl := shN_len k p
  have hpl := pubN_len k
  have hs2 : (flipS k x y).length = 32 := by rw [flipS_len]; exact hk
  have hp2 : (flipP p y).length = 32 := by rw [flipP_len]; exact hp
  have e1 : (k.set 0 (k.getD 0 0 ^^^ (x &&& UInt8.ofNat (Int.toNat 7)))).set 31 ((k.set 0 (k.getD 0 0 ^^^ (x &&& UInt8.ofNat (Int.toNat 7)))).getD 31 0 ^^^ (y &&& UInt8.ofNat (Int.toNat 192))) = flipS k x y := by unfold flipS; rfl
  have e2 : p.set 31 (p.getD 31 0 ^^^ (shl8 y (UInt64.ofNat (Int.toNat 1)).toNat &&& UInt8.ofNat (Int.toNat 128))) = flipP p y := by unfold flipP; rfl
  have c1 := flipS_cl hk x y
  have c2 : shN (flipS k x y) (flipP p y) = shN k p := by unfold shN; rw [c1, flipP_br hp]
  have c3 : pubN (flipS k x y) = pubN k := by unfold pubN; rw [c1]
  have q1 := f40 k p hk hp
  have q2 := f40 (flipS k x y) (flipP p y) hs2 hp2
  have q3 := f41 (flipS k x y) hs2
  have q4 := f41 k hk
  have q5 := f39 (flipS k x y) hs2
  have q6 := f39 (clampL k) hcl
  have q7 := f39 k hk
  rw [c2] at q2
  rw [c3] at q3
  rw [c1] at q5
  rw [hcc] at q6
  have hl1 : (k.set 0 (k.getD 0 0 ^^^ (x &&& UInt8.ofNat (Int.toNat 7)))).length = 32 := by rw [List.length_set]; exact hk
  obtain ⟨E, hE⟩ : ∃ E : Int, E = (if shN k p = zer then 70 else 0) := ⟨_, rfl⟩
  rw [← hE] at q1 q2
  refine scall_of ttOk (by kernel_rfl : Try.prog.funcs[8]? = some Try.f8) rfl rfl rfl ?_
  try simp only [List.length_cons, List.length_nil, Nat.zero_add, Nat.reduceAdd]
  refine sw_ok ttOk mixed (by kernel_rfl) ?_
  conv => whnf
  repeat (fail)
  refine ok1_callF [] [] true (f38) rfl rfl ⟨⟨rfl, by first | rfl | fail⟩, trivial, by first | rfl | fail, by first | rfl | fail, ?_⟩
  conv => whnf
  repeat (first | (refine brF rfl ?_; conv => whnf) | (refine Exists.intro _ (And.intro (sload_all rfl (by first | rfl | (simp [hk, hp, hl1]; done) | fail)) ?_); conv => whnf) | (refine Exists.intro _ (And.intro (sput_all rfl (by first | rfl | (simp [hk, hp, hl1]; done) | fail)) ?_); conv => whnf) | (refine Exists.intro _ (And.intro (sput_m8 (i := 0) (by first | rfl | fail)) ?_); conv => whnf) | (refine Exists.intro _ (And.intro (sload_u8 (i := 0) (by first | rfl | fail) (by first | omega | fail)) ?_); conv => whnf) | (refine Exists.intro _ (And.intro (idx_i (m := 0) (by first | rfl | fail)) ?_); conv => whnf) | (refine Exists.intro _ (And.intro (sput_m8 (i := 31) (by first | rfl | fail)) ?_); conv => whnf) | (refine Exists.intro _ (And.intro (sload_u8 (i := 31) (by first | rfl | fail) (by first | omega | fail)) ?_); conv => whnf) | (refine Exists.intro _ (And.intro (idx_i (m := 31) (by first | rfl | fail)) ?_); conv => whnf) | (refine And.intro (by first | omega | (simp; omega) | fail) ?_; conv => whnf) | (refine And.intro (by kernel_rfl) ?_; conv => whnf) | fail)
  rw [e1, e2]
  refine ok1_callF [] [] true (q1) rfl rfl ⟨⟨rfl, by first | ((repeat' (first | exact wk_nil | exact ren_m8 rfl | (refine wk_agg ?_) | (refine wk_cons ?_ ?_))); done) | fail⟩, trivial, by first | rfl | fail, by first | simp [plainRf, plainR, plainT, plainW], ?_⟩
  conv => whnf
  repeat (first | (refine Exists.intro _ (And.intro (sload_all rfl (by first | rfl | (simp [hk, hp, hs2, hp2, hsl]; done) | fail)) ?_); conv => whnf) | (refine Exists.intro _ (And.intro (sput_all rfl (by first | rfl | (simp [hk, hp, hs2, hp2, hsl]; done) | fail)) ?_); conv => whnf) | (refine And.intro (by first | omega | (simp; omega) | fail) ?_; conv => whnf) | fail)
  refine ok1_callF [] [] true (q2) rfl rfl ⟨⟨rfl, by first | ((repeat' (first | exact wk_nil | exact ren_m8 rfl | (refine wk_agg ?_) | (refine wk_cons ?_ ?_))); done) | fail⟩, trivial, by first | rfl | fail, by first | simp [plainRf, plainR, plainT, plainW], ?_⟩
  conv => whnf
  repeat (first | (refine Exists.intro _ (And.intro (sload_all rfl (by first | rfl | (simp [hk, hp, hs2, hp2, hsl]; done) | fail)) ?_); conv => whnf) | (refine Exists.intro _ (And.intro (sput_all rfl (by first | rfl | (simp [hk, hp, hs2, hp2, hsl]; done) | fail)) ?_); conv => whnf) | (refine And.intro (by first | (simp; omega) | fail) ?_; conv => whnf) | fail)
  refine And.intro ⟨kd_u8n _ hsl, kd_u8n _ hsl⟩ ?_
  conv => whnf
  have t1 : eqcs ((shN k p).map SV.u8) ((shN k p).map SV.u8) = true := eqcs_refl _
  have t2 : (E == E) = true := by simp
  repeat (first | (refine Exists.intro _ (And.intro (sload_all rfl (by first | rfl | (simp [hk, hp, hs2, hp2, hsl]; done) | fail)) ?_); conv => whnf) | (refine gdT t1 ?_; conv => whnf) | (refine pkT t1 ?_; conv => whnf) | (refine gdT t2 ?_; conv => whnf) | fail)
  refine ok1_callF [] [] true (q3) rfl rfl ⟨⟨rfl, by first | ((repeat' (first | exact wk_nil | exact ren_m8 rfl | (refine wk_agg ?_) | (refine wk_cons ?_ ?_))); done) | fail⟩, trivial, by first | rfl | fail, by first | simp [plainRf, plainR, plainT, plainW], ?_⟩
  conv => whnf
  repeat (first | (refine Exists.intro _ (And.intro (sload_all rfl (by first | rfl | (simp [hk, hp, hs2, hp2, hsl]; done) | fail)) ?_); conv => whnf) | (refine gdT t2 ?_; conv => whnf) | fail)
  refine ok1_callF [] [] true (q4) rfl rfl ⟨⟨rfl, by first | ((repeat' (first | exact wk_nil | exact ren_m8 rfl | (refine wk_agg ?_) | (refine wk_cons ?_ ?_))); done) | fail⟩, trivial, by first | rfl | fail, by first | simp [plainRf, plainR, plainT, plainW], ?_⟩
  conv => whnf
  repeat (first | (refine gdT t2 ?_; conv => whnf) | fail)
  refine And.intro ⟨kd_u8n _ hpl, kd_u8n _ hpl⟩ ?_
  conv => whnf
  have t3 : eqcs ((pubN k).map SV.u8) ((pubN k).map SV.u8) = true := eqcs_refl _
  repeat (first | (refine Exists.intro _ (And.intro (sload_all rfl (by first | rfl | (simp [hk, hp, hs2, hp2, hsl]; done) | fail)) ?_); conv => whnf) | (refine gdT t3 ?_; conv => whnf) | (refine pkT (by first | (simp; done) | fail) ?_; conv => whnf) | fail)
  refine ok1_callF [] [] true (q5) rfl rfl ⟨⟨rfl, by first | ((repeat' (first | exact wk_nil | exact ren_m8 rfl | (refine wk_agg ?_) | (refine wk_cons ?_ ?_))); done) | fail⟩, trivial, by first | rfl | fail, by first | simp [plainRf, plainR, plainT, plainW], ?_⟩
  conv => whnf
  repeat (first | (refine gdT t3 ?_; conv => whnf) | fail)
  refine ok1_callF [] [] true (q6) rfl rfl ⟨⟨rfl, by first | ((repeat' (first | exact wk_nil | exact ren_m8 rfl | (refine wk_agg ?_) | (refine wk_cons ?_ ?_))); done) | fail⟩, trivial, by first | rfl | fail, by first | simp [plainRf, plainR, plainT, plainW], ?_⟩
  conv => whnf
  repeat (first | (refine Exists.intro _ (And.intro (sload_all rfl (by first | rfl | (simp [hk, hp, hs2, hp2, hsl]; done) | fail)) ?_); conv => whnf) | (refine gdT t3 ?_; conv => whnf) | fail)
  refine ok1_callF [] [] true (q7) rfl rfl ⟨⟨rfl, by first | ((repeat' (first | exact wk_nil | exact ren_m8 rfl | (refine wk_agg ?_) | (refine wk_cons ?_ ?_))); done) | fail⟩, trivial, by first | rfl | fail, by first | simp [plainRf, plainR, plainT, plainW], ?_⟩
  conv => whnf
  repeat (first | (refine gdT t3 ?_; conv => whnf) | fail)
  refine And.intro ⟨kd_u8n _ hcl, kd_u8n _ hcl⟩ ?_
  conv => whnf
  have t4 : eqcs ((clampL k).map SV.u8) ((clampL k).map SV.u8) = true := eqcs_refl _
  repeat (first | (refine pkT t3 ?_; conv => whnf) | (refine And.intro (by kernel_rfl) ?_; conv => whnf) | fail)
  rw [t4]
  refine ⟨[], ?_, rfl, rfl, ?_, rfl⟩
  · (repeat' (fail)) <;> first | rfl | fail
  · (repeat' (first | exact trivial | fail)) <;> fail
end Go.Sh
