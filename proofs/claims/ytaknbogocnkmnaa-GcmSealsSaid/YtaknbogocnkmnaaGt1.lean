/- Merged for a claim: G14, G15, G16, G23. -/
import Derived.Test.YtaknbogocnkmnaaGs5
/- gcm's reference: padded (f105), eight (f106), Tag (f98), Turn (f99), New (f64), Seal (f66), Open (f65). -/
namespace Go.Sh
open Go.Proofs
set_option maxHeartbeats 8000000
set_option linter.unusedSimpArgs false

theorem padN_ge (n k : Nat) (h : k ≤ padN n) : ((n + k) % 16 = 0 ↔ k = padN n) := by unfold padN at *; omega
theorem padL_eq (b : List UInt8) : padL b = b ++ List.replicate (padN b.length) 0 := rfl
theorem lb_u8 (n j : Nat) (hn : n < 1000000) (hj : j < 8) : lb n j = u8i (((8 * n / 256 ^ (7 - j) : Nat) : Int).tmod 256) := by
  apply UInt8.toNat_inj.mp
  have h1 : (u64i (n : Int)).toNat = n := by unfold u64i; rw [UInt64.toNat_ofNat', Nat.mod_eq_of_lt] <;> omega
  have h3 : (u8i (((8 * n / 256 ^ (7 - j) : Nat) : Int).tmod 256)).toNat = 8 * n / 256 ^ (7 - j) % 256 := by
    generalize 8 * n / 256 ^ (7 - j) = q
    unfold u8i
    rw [Int.tmod_eq_emod_of_nonneg (by omega), UInt8.toNat_ofNat']
    have : ((q : Int) % 256 % 256).toNat = q % 256 := by omega
    rw [this]; omega
  rw [h3]
  unfold lb
  rw [UInt64.toNat_toUInt8]
  have h2 : (shl64 (u64i (n : Int)) 3).toNat = 8 * n := by
    unfold shl64
    rw [if_pos (by decide), UInt64.toNat_shiftLeft, h1, Nat.shiftLeft_eq]
    show n * 2 ^ 3 % 2 ^ 64 = _
    omega
  have h4 : (shr64 (shl64 (u64i (n : Int)) 3) (8 * (7 - j))).toNat = 8 * n / 256 ^ (7 - j) := by
    unfold shr64
    rw [if_pos (by omega), UInt64.toNat_shiftRight, h2, UInt64.toNat_ofNat', show 8 * (7 - j) % 2 ^ 64 % 64 = 8 * (7 - j) by omega, Nat.shiftRight_eq_div_pow, Nat.pow_mul]
  rw [h4]
/-- The last ones are laid. -/
def lenQ (n m : Nat) : List UInt8 := (List.range 8).map fun j => if j < m then 0 else lb n j
theorem lenQ_8 (n : Nat) : lenQ n 8 = List.replicate 8 0 := rfl
theorem lenQ_0 (n : Nat) : lenQ n 0 = lenB n := rfl
theorem lenQ_len (n m : Nat) : (lenQ n m).length = 8 := rng_len
theorem lenQ_s (n m : Nat) (h : m < 8) {x : UInt8} (hx : x = lb n m) : (lenQ n (m + 1)).set m x = lenQ n m := by
  subst hx
  unfold lenQ
  rw [rng_set]
  apply List.map_congr_left
  intro i _
  by_cases h1 : i = m
  · subst h1; rw [if_pos rfl, if_neg (by omega)]
  · rw [if_neg h1]
    by_cases h2 : i < m
    · rw [if_pos (by omega), if_pos h2]
    · rw [if_neg (by omega), if_neg h2]
attribute [local irreducible] padN padL lenP lenB lenQ lb hashL tagL sealT turnL
theorem f105 (b D : List UInt8) (o : Nat) (hD : (D.drop o).take b.length = b) (hoD : o + b.length ≤ D.length) (hb : b.length < 1000000) (f : Bool) :
    SCall Try.prog 105 [.sl 0 o b.length 1 f] [some (.ro (D.map .u8))] (.sl 1 0 (padL b).length 1 false) [some (.ro (D.map .u8)), some (.row 5 ((padL b).map .u8))] := by
  have hpl := padN_lt b.length
  refine scall_of ttOk (by kernel_rfl : Try.prog.funcs[105]? = some Try.f105) rfl rfl rfl ?_
  try simp only [List.length_cons, List.length_nil, Nat.zero_add, Nat.reduceAdd]
  refine sw_ok ttOk mixed (by kernel_rfl) ?_
  conv => whnf
  repeat (first | (refine Exists.intro _ (And.intro rfl ?_); conv => whnf) | (refine And.intro (by first | omega | (simp [ti5]; omega)) ?_; conv => whnf) | fail)
  refine loop_rule ttOk mixed (by kernel_rfl) (ι := { k : Nat // k ≤ padN b.length }) (fun k => [(3, .sl 1 0 (b ++ List.replicate k.1 0).length 1 false)]) (fun k => [some (.ro (D.map .u8)), some (.row 5 ((b ++ List.replicate k.1 0).map .u8))]) (fun _ => 2) (fun k => padN b.length - k.1) ⟨0, by omega⟩ ?_ ?_
  · have hz : b ++ List.replicate 0 (0 : UInt8) = b := by simp
    dsimp only
    rw [hz]
    have hc : b.map SV.u8 = List.take (b.length * 1) (List.drop o (D.map SV.u8)) := by rw [Nat.mul_one]; exact (cut_u8 hD).symm
    have hc2 : b.map SV.u8 = List.take (0 * 1) (List.drop 0 ([] : List SV)) ++ List.take (b.length * 1) (List.drop o (D.map SV.u8)) := by rw [← hc]; rfl
    refine Weak.sel [0, 2] rfl rfl ?_ ?_ rfl rfl
    · (repeat' (first | exact trivial | refine And.intro ?_ ?_ | fail)) <;> first | exact wk_sl rfl (by first | rfl | fail) (by first | omega | fail) | fail
    · (repeat' (first | exact trivial | exact ren_eq (plainL_u8 _) hc2 | refine And.intro ?_ ?_ | fail)) <;> first | rfl | exact ren_eq (by first | (simp; done) | fail) (by first | rfl | fail) | fail
  · rintro ⟨k, hk⟩
    obtain ⟨Y, hY⟩ : ∃ Y, Y = b ++ List.replicate k 0 := ⟨_, rfl⟩
    have hYl : Y.length = b.length + k := by rw [hY]; simp
    have hYs : Y ++ [0] = b ++ List.replicate (k + 1) 0 := by rw [hY, List.append_assoc, List.replicate_succ']
    have hm : ((Y.length : Int)).tmod 16 = (((b.length + k) % 16 : Nat) : Int) := by rw [hYl, Int.tmod_eq_emod_of_nonneg (by omega)]; omega
    have hpg := padN_ge b.length k hk
    dsimp only
    rw [← hY]
    by_cases hk2 : k < padN b.length
    · have hlt : decide (((Y.length : Int)).tmod 16 > 0) = true := by rw [hm]; simp only [decide_eq_true_eq]; omega
      have hap : (b ++ List.replicate (k + 1) 0).map SV.u8 = List.take (Y.length * 1) (List.drop 0 (Y.map SV.u8)) ++ List.take (1 * 1) (List.drop 0 [SV.u8 0]) := by rw [app1 rfl, hYs]
      have hal : (b ++ List.replicate (k + 1) 0).length = Y.length + 1 := by rw [← hYs]; simp
      conv => whnf
      repeat (first | (refine Exists.intro _ (And.intro rfl ?_); conv => whnf) | fail)
      first | refine brT (by exact hlt) ?_ | fail
      conv => whnf
      repeat (first | (refine Exists.intro _ (And.intro rfl ?_); conv => whnf) | (refine And.intro (by first | omega | (simp [ti5]; omega)) ?_; conv => whnf) | fail)
      refine ⟨⟨k + 1, by omega⟩, by simp only; omega, ?_⟩
      refine Weak.sel [0, 3] rfl rfl ?_ ?_ rfl rfl
      · (repeat' (first | exact trivial | refine And.intro ?_ ?_ | fail)) <;> first | exact wk_sl rfl (by first | rfl | fail) (by first | exact hal | fail) | fail
      · (repeat' (first | exact trivial | exact ren_eq (plainL_u8 _) hap | refine And.intro ?_ ?_ | fail)) <;> first | rfl | exact ren_eq (by first | (simp; done) | fail) (by first | rfl | fail) | fail
    · obtain rfl : k = padN b.length := by omega
      have hlt : decide (((Y.length : Int)).tmod 16 > 0) = false := by rw [hm]; simp only [decide_eq_false_iff_not]; omega
      have hfin : Y = padL b := by rw [hY, padL_eq]
      conv => whnf
      repeat (first | (refine Exists.intro _ (And.intro rfl ?_); conv => whnf) | (refine And.intro (by first | omega | (simp; omega) | fail) ?_; conv => whnf) | fail)
      first | intro _
      conv => whnf
      rw [hfin]
      repeat (fail)
      refine ⟨[0, 1], ?_, rfl, rfl, ?_, rfl⟩
      · (repeat' (fail)) <;> first | rfl | fail
      · (repeat' (first | exact trivial | refine And.intro ?_ ?_ | fail)) <;> first | rfl | exact ren_eq (by first | (simp; done) | fail) (by first | rfl | fail) | fail
theorem f106 (b D : List UInt8) (o : Nat) (hb : b.length < 1000000) (f : Bool) :
    SCall Try.prog 106 [.sl 0 o b.length 1 f] [some (.ro (D.map .u8))] (.sl 1 0 8 1 true) [some (.ro (D.map .u8)), some (.row 5 ((lenB b.length).map .u8))] := by
  have h8 : w64 (8 * (b.length : Int)) = ((8 * b.length / 256 ^ (8 - 8) : Nat) : Int) := by rw [Nat.sub_self, Nat.pow_zero, Nat.div_one]; simp only [w64_eq]; omega
  refine scall_of ttOk (by kernel_rfl : Try.prog.funcs[106]? = some Try.f106) rfl rfl rfl ?_
  try simp only [List.length_cons, List.length_nil, Nat.zero_add, Nat.reduceAdd]
  refine sw_ok ttOk mixed (by kernel_rfl) ?_
  conv => whnf
  repeat (first | (refine And.intro ⟨by first | omega | fail, by first | decide | fail⟩ ?_; conv => whnf) | fail)
  refine loop_rule ttOk mixed (by kernel_rfl) (ι := { m : Nat // m ≤ 8 }) (fun m => [(3, .sl 1 0 8 1 true), (4, .i ((8 * b.length / 256 ^ (8 - m.1) : Nat) : Int)), (5, .i ((m.1 : Int) - 1))]) (fun m => [some (.ro (D.map .u8)), some (.row 5 ((lenQ b.length m.1).map .u8))]) (fun _ => 2) (fun m => m.1) ⟨8, by omega⟩ ?_ ?_
  · have hz := lenQ_8 b.length
    refine Weak.sel [0, 1] rfl rfl ?_ ?_ rfl rfl
    · (repeat' (first | exact trivial | refine And.intro ?_ ?_ | fail)) <;> first | exact wk_i (by first | exact h8 | exact h8.symm | fail) | rfl | fail
    · (repeat' (first | exact trivial | refine And.intro ?_ ?_ | fail)) <;> first | exact ren_m8 (by first | exact hz | fail) | rfl | exact ren_eq (by first | (simp; done) | fail) (by first | rfl | fail) | fail
  · rintro ⟨m, hm⟩
    have hql := lenQ_len b.length m
    dsimp only
    by_cases hm0 : 0 < m
    · obtain ⟨k, rfl⟩ : ∃ k, m = k + 1 := ⟨m - 1, by omega⟩
      have hlt : decide ((((k + 1 : Nat) : Int) - 1) ≥ 0) = true := by simp
      have hp1 : w64 (((k + 1 : Nat) : Int) - 1 - 1) = (k : Int) - 1 := by simp only [w64_eq]; omega
      have hk : ((k + 1 : Nat) : Int) - 1 = (k : Int) := by omega
      have hx := lb_u8 b.length k hb (by omega)
      have hle : 8 * b.length / 256 ^ (8 - (k + 1)) ≤ 8 * b.length := Nat.div_le_self _ _
      have hd : w64 (((8 * b.length / 256 ^ (8 - (k + 1)) : Nat) : Int).tdiv 256) = ((8 * b.length / 256 ^ (8 - k) : Nat) : Int) := by
        rw [show 8 - k = (8 - (k + 1)) + 1 by omega, Nat.pow_succ, ← Nat.div_div_eq_div_mul]
        generalize 8 * b.length / 256 ^ (8 - (k + 1)) = q at hle
        rw [Int.tdiv_eq_ediv_of_nonneg (by omega)]
        simp only [w64_eq]; omega
      rw [show 7 - k = 8 - (k + 1) by omega] at hx
      have hst := lenQ_s b.length k (by omega) hx.symm
      conv => whnf
      first | refine brT (by exact hlt) ?_ | fail
      conv => whnf
      repeat (first | (refine Exists.intro _ (And.intro (sput_m8 (i := k) (by first | rfl | omega | fail)) ?_); conv => whnf) | (refine Exists.intro _ (And.intro (idx_i (m := k) (by first | rfl | omega | fail)) ?_); conv => whnf) | (refine Exists.intro _ (And.intro rfl ?_); conv => whnf) | (refine And.intro (by first | omega | (simp; omega) | fail) ?_; conv => whnf) | fail)
      refine ⟨⟨k, by omega⟩, by simp only; omega, ?_⟩
      refine Weak.sel [0, 1] rfl rfl ?_ ?_ rfl rfl
      · (repeat' (first | exact trivial | refine And.intro ?_ ?_ | fail)) <;> first | exact wk_i (by first | exact hp1 | exact hp1.symm | exact hd.symm | fail) | rfl | fail
      · (repeat' (first | exact trivial | refine And.intro ?_ ?_ | fail)) <;> first | exact ren_m8 (by first | exact hst | exact hst.symm | fail) | rfl | exact ren_eq (by first | (simp; done) | fail) (by first | rfl | fail) | fail
    · obtain rfl : m = 0 := by omega
      have hz := lenQ_0 b.length
      rw [hz]
      conv => whnf
      first | refine brF (by rfl) ?_ | fail
      conv => whnf
      repeat (fail)
      refine ⟨[0, 1], ?_, rfl, rfl, ?_, rfl⟩
      · (repeat' (fail)) <;> first | rfl | fail
      · (repeat' (first | exact trivial | refine And.intro ?_ ?_ | fail)) <;> first | rfl | exact ren_eq (by first | (simp; done) | fail) (by first | rfl | fail) | fail
end Go.Sh
/- gcm's reference: Turn (f99), Tag (f98), New (f64), Seal (f66), Open (f65). -/
namespace Go.Sh
open Go.Proofs
set_option maxHeartbeats 8000000
set_option linter.unusedSimpArgs false

theorem app2 {a b : List UInt8} {n m : Nat} (ha : a.length = n) (hb : b.length = m) : List.take (n * 1) (List.drop 0 (a.map SV.u8)) ++ List.take (m * 1) (List.drop 0 (SB.row 5 (b.map SV.u8)).cells) = (a ++ b).map SV.u8 := by
  subst ha; subst hb
  show List.take (a.length * 1) (List.drop 0 (a.map SV.u8)) ++ List.take (b.length * 1) (List.drop 0 (b.map SV.u8)) = _
  rw [List.drop_zero, List.drop_zero, List.take_of_length_le (by simp), List.take_of_length_le (by simp), List.map_append]
theorem f55D (fb fw ff fo : Bool) (w c b D : List UInt8) (o : Nat) (hD : (D.drop o).take b.length = b) (R : Nat) (hw : w.length = 16 * (R + 1)) (hR1 : 1 ≤ R) (hR2 : R ≤ 20) (hc : c.length = 16) (hbl : b.length < 100000000000000) :
    SCall Try.prog 55 [.sl 0 0 256 1 fb, .sl 1 0 (16 * (R + 1)) 1 fw, .sl 2 0 16 1 ff, .sl 3 o b.length 1 fo] [some (.ro (sbx.map .u8)), some (.ro (w.map .u8)), some (.ro (c.map .u8)), some (.ro (D.map .u8))]
      (.sl 4 0 b.length 1 false) [some (.ro (sbx.map .u8)), some (.ro (w.map .u8)), some (.ro (c.map .u8)), some (.ro (D.map .u8)), some (.row 5 ((turnL w R c b).map .u8))] :=
  (f55 fb fw ff fo w c b R hw hR1 hR2 hc hbl).sub 3 o (D.map .u8) (b.map .u8) 6 rfl rfl (by rw [List.length_map]; exact cut_u8 hD) (by simp) (by simp) (by decide) ⟨.inr ⟨rfl, rfl⟩, .inr ⟨rfl, rfl⟩, .inr ⟨rfl, rfl⟩, .inl rfl, trivial⟩ rfl
    ⟨.inr (.inl (by simp [plainB])), .inr (.inl (by simp [plainB])), .inr (.inl (by simp [plainB])), .inl rfl, trivial⟩ ⟨.inr (.inl (by simp [plainB])), .inr (.inl (by simp [plainB])), .inr (.inl (by simp [plainB])), .inl rfl, .inr (.inl (by simp [plainB])), trivial⟩
theorem lenB_len (n : Nat) : (lenB n).length = 8 := lenP_len n 8
attribute [local irreducible] padN padL lenP lenB lenQ lb hashL tagL sealT turnL
theorem f99 (fb fw fn fo : Bool) (w nonce b D : List UInt8) (o : Nat) (hD : (D.drop o).take b.length = b) (R : Nat) (hw : w.length = 16 * (R + 1)) (hR1 : 1 ≤ R) (hR2 : R ≤ 20) (hn : nonce.length = 12) (hbl : b.length < 1000000) :
    SCall Try.prog 99 [.agg [.sl 0 0 256 1 fb, .sl 1 0 (16 * (R + 1)) 1 fw], .sl 2 0 12 1 fn, .sl 3 o b.length 1 fo] [some (.ro (sbx.map .u8)), some (.ro (w.map .u8)), some (.ro (nonce.map .u8)), some (.ro (D.map .u8))]
      (.sl 4 0 b.length 1 false) [some (.ro (sbx.map .u8)), some (.ro (w.map .u8)), some (.ro (nonce.map .u8)), some (.ro (D.map .u8)), some (.row 5 ((sealT w R nonce b).map .u8))] := by
  have h55 := fun ff => f55D fb fw ff fo w (ctr2 nonce) b D o hD R hw hR1 hR2 (by unfold ctr2; simp [hn]) (by omega)
  rw [show turnL w R (ctr2 nonce) b = sealT w R nonce b by unfold sealT; rfl] at h55
  obtain ⟨K, hK⟩ : ∃ K, K = sealT w R nonce b := ⟨_, rfl⟩
  rw [← hK] at h55 ⊢
  match nonce, hn with
  | [n0, n1, n2, n3, n4, n5, n6, n7, n8, n9, n10, n11], _ =>
    refine scall_of ttOk (by kernel_rfl : Try.prog.funcs[99]? = some Try.f99) rfl rfl rfl ?_
    try simp only [List.length_cons, List.length_nil, Nat.zero_add, Nat.reduceAdd]
    refine sw_ok ttOk mixed (by kernel_rfl) ?_
    conv => whnf
    repeat (first | (refine Exists.intro _ (And.intro rfl ?_); conv => whnf) | (refine And.intro ⟨Nat.le_of_ble_eq_true rfl, Nat.le_of_ble_eq_true rfl, Nat.le_of_ble_eq_true rfl⟩ ?_; conv => whnf) | fail)
    refine ok1_callF [0, 1, 8, 3] [false, false, false, false, true] false (h55 _) rfl rfl ⟨⟨rfl, by first | rfl | fail⟩, by (repeat' (first | exact trivial | refine And.intro ?_ ?_)) <;> first | rfl | exact ren_eq (by first | (simp; done) | fail) (by first | rfl | fail) | fail, by first | simp [plainHf, plainB], by first | rfl | fail, ?_⟩
    conv => whnf
    repeat (first | (refine And.intro (by kernel_rfl) ?_; conv => whnf) | fail)
    refine ⟨[0, 1, 2, 3, 9], ?_, rfl, rfl, ?_, rfl⟩
    · (repeat' (fail)) <;> first | rfl | fail
    · (repeat' (first | exact trivial | refine And.intro ?_ ?_ | (refine wk_cons ?_ ?_))) <;> first | rfl | exact ren_eq (by first | (simp; done) | fail) (by first | rfl | fail) | fail
theorem f98 (fb fw fn f1 f2 : Bool) (w nonce aad text A T : List UInt8) (p q : Nat) (hA : (A.drop p).take aad.length = aad) (hoA : p + aad.length ≤ A.length) (hT : (T.drop q).take text.length = text) (hoT : q + text.length ≤ T.length)
    (R : Nat) (hw : w.length = 16 * (R + 1)) (hR1 : 1 ≤ R) (hR2 : R ≤ 20) (hn : nonce.length = 12) (ha : aad.length < 1000000) (ht : text.length < 1000000) :
    SCall Try.prog 98 [.agg [.sl 0 0 256 1 fb, .sl 1 0 (16 * (R + 1)) 1 fw], .sl 2 0 12 1 fn, .sl 3 p aad.length 1 f1, .sl 4 q text.length 1 f2] [some (.ro (sbx.map .u8)), some (.ro (w.map .u8)), some (.ro (nonce.map .u8)), some (.ro (A.map .u8)), some (.ro (T.map .u8))]
      (.sl 5 0 16 1 false) [some (.ro (sbx.map .u8)), some (.ro (w.map .u8)), some (.ro (nonce.map .u8)), some (.ro (A.map .u8)), some (.ro (T.map .u8)), some (.row 5 ((tagL w R nonce aad text).map .u8))] := by
  have h5a := f105 aad A p hA hoA ha f1
  have h5t := f105 text T q hT hoT ht f2
  have h6a := f106 aad A p ha f1
  have h6t := f106 text T q ht f2
  have hpa := padL_len aad
  have hpt := padL_len text
  have hla : (lenB aad.length).length = 8 := lenB_len _
  have hlt : (lenB text.length).length = 8 := lenB_len _
  have hna := padN_lt aad.length
  have hnt := padN_lt text.length
  obtain ⟨P1, hP1⟩ : ∃ P1, P1 = padL aad := ⟨_, rfl⟩
  obtain ⟨P2, hP2⟩ : ∃ P2, P2 = padL text := ⟨_, rfl⟩
  obtain ⟨U1, hU1⟩ : ∃ U1, U1 = lenB aad.length := ⟨_, rfl⟩
  obtain ⟨U2, hU2⟩ : ∃ U2, U2 = lenB text.length := ⟨_, rfl⟩
  have htt : P1 ++ P2 ++ U1 ++ U2 = tagT aad text := by rw [hP1, hP2, hU1, hU2]; unfold tagT; rw [List.append_assoc, List.append_assoc]
  rw [← hP1] at h5a hpa
  rw [← hP2] at h5t hpt
  rw [← hU1] at h6a hla
  rw [← hU2] at h6t hlt
  obtain ⟨X, hX⟩ : ∃ X, X = P1 ++ P2 := ⟨_, rfl⟩
  obtain ⟨Y, hY⟩ : ∃ Y, Y = X ++ U1 := ⟨_, rfl⟩
  obtain ⟨Z, hZ⟩ : ∃ Z, Z = Y ++ U2 := ⟨_, rfl⟩
  have hXl : P1.length + P2.length = X.length := by rw [hX]; simp
  have hYl : X.length + 8 = Y.length := by rw [hY]; simp [hla]
  have hZl : Y.length + 8 = Z.length := by rw [hZ]; simp [hlt]
  rw [← hX, ← hY, ← hZ] at htt
  have hsl := sealSt_len w R (List.replicate 16 0) rfl R
  obtain ⟨S, hS⟩ : ∃ S, S = sealSt w R (List.replicate 16 0) R := ⟨_, rfl⟩
  have h49 := fun fk => f49 fb fw fk w (List.replicate 16 0) R hw hR1 hR2 rfl
  rw [← hS] at h49 hsl
  have h63 := fun fh fb => f63 fh fb S Z hsl (by omega)
  obtain ⟨Hh, hH⟩ : ∃ Hh, Hh = hashL S Z := ⟨_, rfl⟩
  have hHl : Hh.length = 16 := by rw [hH]; exact hashL_len _ _
  rw [← hH] at h63
  have h55 := fun ff fo => f55 fb fw ff fo w (nonce ++ [0, 0, 0, 1]) Hh R hw hR1 hR2 (by simp [hn]) (by omega)
  have htag : turnL w R (nonce ++ [0, 0, 0, 1]) Hh = tagL w R nonce aad text := by rw [hH, hS, htt]; unfold tagL; rfl
  rw [htag] at h55
  obtain ⟨G, hG⟩ : ∃ G, G = tagL w R nonce aad text := ⟨_, rfl⟩
  rw [← hG] at h55 ⊢
  simp only [hHl] at h55
  clear htag hG hH hS htt hP1 hP2 hU1 hU2
  match nonce, hn with
  | [n0, n1, n2, n3, n4, n5, n6, n7, n8, n9, n10, n11], _ =>
    refine scall_of ttOk (by kernel_rfl : Try.prog.funcs[98]? = some Try.f98) rfl rfl rfl ?_
    try simp only [List.length_cons, List.length_nil, Nat.zero_add, Nat.reduceAdd]
    refine sw_ok ttOk mixed (by kernel_rfl) ?_
    conv => whnf
    repeat (fail)
    refine ok1_callF [3] [false, true] false (h5a) rfl rfl ⟨⟨rfl, by first | rfl | fail⟩, by (repeat' (first | exact trivial | refine And.intro ?_ ?_)) <;> first | exact ren_eq (by first | (simp; done) | fail) (by first | rfl | fail) | fail, by first | simp [plainHf, plainB], by first | rfl | fail, ?_⟩
    conv => whnf
    repeat (fail)
    refine ok1_callF [4] [false, true] false (h5t) rfl rfl ⟨⟨rfl, by first | rfl | fail⟩, by (repeat' (first | exact trivial | refine And.intro ?_ ?_)) <;> first | exact ren_eq (by first | (simp; done) | fail) (by first | rfl | fail) | fail, by first | simp [plainHf, plainB], by first | rfl | fail, ?_⟩
    conv => whnf
    repeat (first | (refine And.intro (by first | omega | (simp [ti5]; omega)) ?_; conv => whnf) | fail)
    rw [app2 rfl rfl, ← hX, hXl]
    refine ok1_callF [3] [false, true] false (h6a) rfl rfl ⟨⟨rfl, by first | rfl | fail⟩, by (repeat' (first | exact trivial | refine And.intro ?_ ?_)) <;> first | exact ren_eq (by first | (simp; done) | fail) (by first | rfl | fail) | fail, by first | simp [plainHf, plainB], by first | rfl | fail, ?_⟩
    conv => whnf
    repeat (first | (refine And.intro (by first | omega | (simp [ti5]; omega)) ?_; conv => whnf) | fail)
    rw [app2 rfl hla, ← hY, hYl]
    refine ok1_callF [4] [false, true] false (h6t) rfl rfl ⟨⟨rfl, by first | rfl | fail⟩, by (repeat' (first | exact trivial | refine And.intro ?_ ?_)) <;> first | exact ren_eq (by first | (simp; done) | fail) (by first | rfl | fail) | fail, by first | simp [plainHf, plainB], by first | rfl | fail, ?_⟩
    conv => whnf
    repeat (first | (refine Exists.intro _ (And.intro rfl ?_); conv => whnf) | (refine And.intro (by first | omega | (simp [ti5]; omega)) ?_; conv => whnf) | (refine And.intro ⟨by first | omega | fail, by first | decide | fail⟩ ?_; conv => whnf) | fail)
    rw [app2 rfl hlt, ← hZ, hZl]
    conv => whnf
    repeat (fail)
    refine ok1_callF [0, 1, 13] [false, false, false, true] false (h49 _) rfl rfl ⟨⟨rfl, by first | rfl | fail⟩, by (repeat' (first | exact trivial | refine And.intro ?_ ?_)) <;> first | rfl | exact ren_eq (by first | (simp; done) | fail) (by first | rfl | fail) | fail, by first | simp [plainHf, plainB], by first | rfl | fail, ?_⟩
    conv => whnf
    repeat (first | (refine Exists.intro _ (And.intro rfl ?_); conv => whnf) | (refine And.intro ⟨Nat.le_of_ble_eq_true rfl, Nat.le_of_ble_eq_true rfl, Nat.le_of_ble_eq_true rfl⟩ ?_; conv => whnf) | (refine And.intro (by kernel_rfl) ?_; conv => whnf) | fail)
    refine ok1_callF [14, 12] [false, false, true] false (h63 _ _) rfl rfl ⟨⟨rfl, by first | rfl | fail⟩, by (repeat' (first | exact trivial | refine And.intro ?_ ?_)) <;> first | exact ren_eq (by first | (simp; done) | fail) (by first | rfl | fail) | fail, by first | simp [plainHf, plainB], by first | rfl | fail, ?_⟩
    conv => whnf
    repeat (fail)
    refine ok1_callF [0, 1, 18, 19] [false, false, false, false, true] false (h55 _ _) rfl rfl ⟨⟨rfl, by first | rfl | fail⟩, by (repeat' (first | exact trivial | refine And.intro ?_ ?_)) <;> first | rfl | exact ren_eq (by first | (simp; done) | fail) (by first | rfl | fail) | fail, by first | simp [plainHf, plainB], by first | rfl | fail, ?_⟩
    conv => whnf
    repeat (first | (refine And.intro (by kernel_rfl) ?_; conv => whnf) | fail)
    refine ⟨[0, 1, 2, 3, 4, 20], ?_, rfl, rfl, ?_, rfl⟩
    · (repeat' (fail)) <;> first | rfl | fail
    · (repeat' (first | exact trivial | refine And.intro ?_ ?_ | (refine wk_cons ?_ ?_))) <;> first | rfl | exact ren_eq (by first | (simp; done) | fail) (by first | rfl | fail) | fail
end Go.Sh
/- gcm's reference: New (f64), Seal (f66), Open (f65). -/
namespace Go.Sh
open Go.Proofs
set_option maxHeartbeats 8000000
set_option linter.unusedSimpArgs false
set_option linter.unusedVariables false
attribute [local irreducible] padN padL lenP lenB lenQ lb hashL tagL sealT turnL
theorem app2nt {b : List UInt8} {m : Nat} (hb : b.length = m) : List.take (0 * ti5.sz) (List.drop 0 (reps 0 (SV.u8 0).cells)) ++ List.take (m * ti5.sz) (List.drop 0 (SB.row 5 (b.map SV.u8)).cells) = b.map SV.u8 := by
  subst hb
  show [] ++ List.take (b.length * 1) (List.drop 0 (b.map SV.u8)) = _
  rw [List.nil_append, Nat.mul_one, List.drop_zero, List.take_of_length_le (by simp)]
theorem f64_4 (key : List UInt8) (hk : key.length = 16) (fk : Bool) : SCall Try.prog 64 [.sl 0 0 16 1 fk] [some (.ro (key.map .u8))] (.agg [.sl 1 0 256 1 true, .sl 2 0 (4 * 44) 1 false]) [some (.ro (key.map .u8)), some (.row 5 (sbx.map .u8)), some (.row 5 ((wSt key 4 44).map .u8))] := by
  have h46 := f46
  rw [outB_sbx] at h46
  have h50 := f50_4 true fk key hk
  refine scall_of ttOk (by kernel_rfl : Try.prog.funcs[64]? = some Try.f64) rfl rfl rfl ?_
  try simp only [List.length_cons, List.length_nil, Nat.zero_add, Nat.reduceAdd]
  refine sw_ok ttOk mixed (by kernel_rfl) ?_
  conv => whnf
  repeat (fail)
  refine ok1_callF [] [true] false (h46) rfl rfl ⟨⟨rfl, by first | rfl | fail⟩, trivial, by first | simp [plainHf, plainB], by first | rfl | fail, ?_⟩
  conv => whnf
  repeat (fail)
  refine ok1_callF [2, 0] [false, false, true] false (h50) rfl rfl ⟨⟨rfl, by first | rfl | fail⟩, by (repeat' (first | exact trivial | refine And.intro ?_ ?_)) <;> first | exact ren_eq (by first | (simp; done) | fail) (by first | rfl | fail) | fail, by first | simp [plainHf, plainB], by first | rfl | fail, ?_⟩
  conv => whnf
  repeat (first | (refine Exists.intro _ (And.intro (sload_all rfl (by first | rfl | fail)) ?_); conv => whnf) | (refine Exists.intro _ (And.intro (sput_all rfl (by first | rfl | fail)) ?_); conv => whnf) | (refine Exists.intro _ (And.intro rfl ?_); conv => whnf) | (refine And.intro ⟨rfl, Nat.le_of_ble_eq_true rfl⟩ ?_; conv => whnf) | fail)
  refine ⟨[0, 2, 3], ?_, rfl, rfl, ?_, rfl⟩
  · (repeat' (first | (refine wk_agg ?_) | (refine wk_cons ?_ ?_))) <;> first | rfl | fail
  · (repeat' (first | exact trivial | refine And.intro ?_ ?_ | fail)) <;> first | rfl | exact ren_eq (by first | (simp; done) | fail) (by first | rfl | fail) | fail
theorem f64_8 (key : List UInt8) (hk : key.length = 32) (fk : Bool) : SCall Try.prog 64 [.sl 0 0 32 1 fk] [some (.ro (key.map .u8))] (.agg [.sl 1 0 256 1 true, .sl 2 0 (4 * 60) 1 false]) [some (.ro (key.map .u8)), some (.row 5 (sbx.map .u8)), some (.row 5 ((wSt key 8 60).map .u8))] := by
  have h46 := f46
  rw [outB_sbx] at h46
  have h50 := f50_8 true fk key hk
  refine scall_of ttOk (by kernel_rfl : Try.prog.funcs[64]? = some Try.f64) rfl rfl rfl ?_
  try simp only [List.length_cons, List.length_nil, Nat.zero_add, Nat.reduceAdd]
  refine sw_ok ttOk mixed (by kernel_rfl) ?_
  conv => whnf
  repeat (fail)
  refine ok1_callF [] [true] false (h46) rfl rfl ⟨⟨rfl, by first | rfl | fail⟩, trivial, by first | simp [plainHf, plainB], by first | rfl | fail, ?_⟩
  conv => whnf
  repeat (fail)
  refine ok1_callF [2, 0] [false, false, true] false (h50) rfl rfl ⟨⟨rfl, by first | rfl | fail⟩, by (repeat' (first | exact trivial | refine And.intro ?_ ?_)) <;> first | exact ren_eq (by first | (simp; done) | fail) (by first | rfl | fail) | fail, by first | simp [plainHf, plainB], by first | rfl | fail, ?_⟩
  conv => whnf
  repeat (first | (refine Exists.intro _ (And.intro (sload_all rfl (by first | rfl | fail)) ?_); conv => whnf) | (refine Exists.intro _ (And.intro (sput_all rfl (by first | rfl | fail)) ?_); conv => whnf) | (refine Exists.intro _ (And.intro rfl ?_); conv => whnf) | (refine And.intro ⟨rfl, Nat.le_of_ble_eq_true rfl⟩ ?_; conv => whnf) | fail)
  refine ⟨[0, 2, 3], ?_, rfl, rfl, ?_, rfl⟩
  · (repeat' (first | (refine wk_agg ?_) | (refine wk_cons ?_ ?_))) <;> first | rfl | fail
  · (repeat' (first | exact trivial | refine And.intro ?_ ?_ | fail)) <;> first | rfl | exact ren_eq (by first | (simp; done) | fail) (by first | rfl | fail) | fail
theorem f66 (fb fw fn f1 f2 : Bool) (w nonce aad text A T : List UInt8) (p q : Nat) (hA : (A.drop p).take aad.length = aad) (hoA : p + aad.length ≤ A.length) (hT : (T.drop q).take text.length = text) (hoT : q + text.length ≤ T.length)
    (R : Nat) (hw : w.length = 16 * (R + 1)) (hR1 : 1 ≤ R) (hR2 : R ≤ 20) (hn : nonce.length = 12) (ha : aad.length < 1000000) (ht : text.length < 1000000) :
    SCall Try.prog 66 [.agg [.sl 0 0 256 1 fb, .sl 1 0 (16 * (R + 1)) 1 fw], .sl 2 0 12 1 fn, .sl 3 p aad.length 1 f1, .sl 4 q text.length 1 f2] [some (.ro (sbx.map .u8)), some (.ro (w.map .u8)), some (.ro (nonce.map .u8)), some (.ro (A.map .u8)), some (.ro (T.map .u8))]
      (.sl 5 0 (text.length + 16) 1 false) [some (.ro (sbx.map .u8)), some (.ro (w.map .u8)), some (.ro (nonce.map .u8)), some (.ro (A.map .u8)), some (.ro (T.map .u8)), some (.row 5 ((sealL w R nonce aad text).map .u8))] := by
  have h99 := f99 fb fw fn f2 w nonce text T q hT R hw hR1 hR2 hn ht
  obtain ⟨K, hK⟩ : ∃ K, K = sealT w R nonce text := ⟨_, rfl⟩
  have hKl : K.length = text.length := by rw [hK]; exact sealT_len ..
  have h98 := fun f => f98 fb fw fn f1 f w nonce aad K A K p 0 hA hoA (by simp) (by omega) R hw hR1 hR2 hn ha (by omega)
  obtain ⟨G, hG⟩ : ∃ G, G = tagL w R nonce aad K := ⟨_, rfl⟩
  have hGl : G.length = 16 := by rw [hG]; exact tagL_len ..
  have hse : sealL w R nonce aad text = K ++ G := by unfold sealL; rw [← hK, ← hG]
  rw [← hK] at h99
  rw [hse]
  simp only [← hG, hKl] at h98
  refine scall_of ttOk (by kernel_rfl : Try.prog.funcs[66]? = some Try.f66) rfl rfl rfl ?_
  try simp only [List.length_cons, List.length_nil, Nat.zero_add, Nat.reduceAdd]
  refine sw_ok ttOk mixed (by kernel_rfl) ?_
  conv => whnf
  repeat (first | (refine Exists.intro _ (And.intro (sload_all rfl (by first | rfl | fail)) ?_); conv => whnf) | fail)
  refine ok1_callF [0, 1, 2, 4] [false, false, false, false, true] false (h99) rfl rfl ⟨⟨rfl, by first | rfl | fail⟩, by (repeat' (first | exact trivial | refine And.intro ?_ ?_)) <;> first | exact ren_eq (by first | (simp; done) | fail) (by first | rfl | fail) | fail, by first | simp [plainHf, plainB], by first | rfl | fail, ?_⟩
  conv => whnf
  repeat (first | (refine Exists.intro _ (And.intro (sload_all rfl (by first | rfl | fail)) ?_); conv => whnf) | (refine Exists.intro _ (And.intro rfl ?_); conv => whnf) | (refine And.intro (by first | omega | (simp [ti5]; omega)) ?_; conv => whnf) | fail)
  have ha2 := app2nt hKl
  rw [ha2, Nat.zero_add]
  refine ok1_callF [0, 1, 2, 3, 6] [false, false, false, false, false, true] false (h98 _) rfl rfl ⟨⟨rfl, by first | rfl | fail⟩, by (repeat' (first | exact trivial | refine And.intro ?_ ?_)) <;> first | exact ren_eq (by first | (simp; done) | fail) (by first | rfl | fail) | fail, by first | simp [plainHf, plainB], by first | rfl | fail, ?_⟩
  conv => whnf
  repeat (first | (refine And.intro (by first | omega | (simp [ti5]; omega)) ?_; conv => whnf) | (refine And.intro (by kernel_rfl) ?_; conv => whnf) | fail)
  have hcat : (K ++ G).map SV.u8 = List.take (text.length * 1) (List.drop 0 (K.map SV.u8)) ++ List.take (16 * 1) (List.drop 0 (G.map SV.u8)) := (app2 hKl hGl).symm
  refine ⟨[0, 1, 2, 3, 4, 10], ?_, rfl, rfl, ?_, rfl⟩
  · (repeat' (fail)) <;> first | rfl | fail
  · (repeat' (first | exact trivial | exact ren_eq (plainL_u8 _) hcat | refine And.intro ?_ ?_ | fail)) <;> first | rfl | exact ren_eq (by first | (simp; done) | fail) (by first | rfl | fail) | fail
theorem f65s (fb fw fn f1 f2 : Bool) (w nonce aad s A D : List UInt8) (p q : Nat) (hA : (A.drop p).take aad.length = aad) (hoA : p + aad.length ≤ A.length) (hD : (D.drop q).take s.length = s) (hoD : q + s.length ≤ D.length)
    (R : Nat) (hw : w.length = 16 * (R + 1)) (hR1 : 1 ≤ R) (hR2 : R ≤ 20) (hn : nonce.length = 12) (ha : aad.length < 1000000) (ht : s.length < 1000000)
    (hs : s.length < 16) :
    SCall Try.prog 65 [.agg [.sl 0 0 256 1 fb, .sl 1 0 (16 * (R + 1)) 1 fw], .sl 2 0 12 1 fn, .sl 3 p aad.length 1 f1, .sl 4 q s.length 1 f2] [some (.ro (sbx.map .u8)), some (.ro (w.map .u8)), some (.ro (nonce.map .u8)), some (.ro (A.map .u8)), some (.ro (D.map .u8))]
      (.tup [.slnil, .b false]) [some (.ro (sbx.map .u8)), some (.ro (w.map .u8)), some (.ro (nonce.map .u8)), some (.ro (A.map .u8)), some (.ro (D.map .u8))] := by
  have g1 : decide (w64 ((s.length : Int) - 16) < 0) = true := by simp only [w64_eq, decide_eq_true_eq]; omega
  refine scall_of ttOk (by kernel_rfl : Try.prog.funcs[65]? = some Try.f65) rfl rfl rfl ?_
  try simp only [List.length_cons, List.length_nil, Nat.zero_add, Nat.reduceAdd]
  refine sw_ok ttOk mixed (by kernel_rfl) ?_
  conv => whnf
  repeat (first | (refine brT rfl ?_; conv => whnf) | (refine gdF g1 ?_; conv => whnf) | (refine pkT g1 ?_; conv => whnf) | (refine And.intro (by kernel_rfl) ?_; conv => whnf) | fail)
  refine ⟨[0, 1, 2, 3, 4], ?_, rfl, rfl, ?_, rfl⟩
  · (repeat' (first | (refine wk_tup ?_) | (refine wk_cons ?_ ?_))) <;> first | rfl | fail
  · (repeat' (first | exact trivial | refine And.intro ?_ ?_ | fail)) <;> first | exact ren_eq (by first | (simp; done) | fail) (by first | rfl | fail) | fail


theorem f65b (fb fw fn f1 f2 : Bool) (w nonce aad s A D : List UInt8) (p q : Nat) (hA : (A.drop p).take aad.length = aad) (hoA : p + aad.length ≤ A.length) (hD : (D.drop q).take s.length = s) (hoD : q + s.length ≤ D.length)
    (R : Nat) (hw : w.length = 16 * (R + 1)) (hR1 : 1 ≤ R) (hR2 : R ≤ 20) (hn : nonce.length = 12) (ha : aad.length < 1000000) (ht : s.length < 1000000)
    (hs : 16 ≤ s.length) (hok : openOk w R nonce aad s = false) :
    SCall Try.prog 65 [.agg [.sl 0 0 256 1 fb, .sl 1 0 (16 * (R + 1)) 1 fw], .sl 2 0 12 1 fn, .sl 3 p aad.length 1 f1, .sl 4 q s.length 1 f2] [some (.ro (sbx.map .u8)), some (.ro (w.map .u8)), some (.ro (nonce.map .u8)), some (.ro (A.map .u8)), some (.ro (D.map .u8))]
      (.tup [.slnil, .b false]) [some (.ro (sbx.map .u8)), some (.ro (w.map .u8)), some (.ro (nonce.map .u8)), some (.ro (A.map .u8)), some (.ro (D.map .u8))] := by
  obtain ⟨n, hq⟩ : ∃ n, n = cutN s := ⟨_, rfl⟩
  have hq2 : s.length = n + 16 := by rw [hq]; unfold cutN; omega
  have g1 : decide (w64 ((s.length : Int) - 16) < 0) = false := by simp only [w64_eq, decide_eq_false_iff_not]; omega
  have hwn : w64 ((s.length : Int) - 16) = (n : Int) := by simp only [w64_eq]; omega
  obtain ⟨t, ht1⟩ : ∃ t, t = s.take n := ⟨_, rfl⟩
  obtain ⟨u, hu⟩ : ∃ u, u = s.drop n := ⟨_, rfl⟩
  have htl : t.length = n := by rw [ht1, List.length_take]; omega
  have hul : u.length = 16 := by rw [hu, List.length_drop]; omega
  have hDt : (D.drop (q + 0 * 1)).take t.length = t := by
    have : (D.drop q).take n = ((D.drop q).take s.length).take n := by rw [List.take_take]; congr 1; omega
    rw [htl, show q + 0 * 1 = q by omega, this, hD, ht1]
  have hDu : (D.drop (q + n * 1)).take (s.length - n) = u := by
    have : ((D.drop q).take s.length).drop n = (D.drop (q + n)).take (s.length - n) := by rw [List.drop_take, List.drop_drop]
    rw [Nat.mul_one, ← this, hD, hu]
  have h98 := fun f => f98 fb fw fn f1 f w nonce aad t A D p (q + 0 * 1) hA hoA hDt (by omega) R hw hR1 hR2 hn ha (by omega)
  have h99 := fun f => f99 fb fw fn f w nonce t D (q + 0 * 1) hDt R hw hR1 hR2 hn (by omega)
  obtain ⟨G, hG⟩ : ∃ G, G = tagL w R nonce aad t := ⟨_, rfl⟩
  have hGl : G.length = 16 := by rw [hG]; exact tagL_len ..
  have hGu : (!List.take 16 (List.drop 0 G) == List.take (s.length - n) (List.drop (q + n * 1) D)) = !false := by
    have : openOk w R nonce aad s = decide (G = u) := by unfold openOk; rw [← hq, ← ht1, ← hu, ← hG]; simp [hs]
    rw [← hok, this, hDu, List.drop_zero, List.take_of_length_le (by omega)]
    congr 1
    rw [Bool.eq_iff_iff]; simp
  obtain ⟨X, hX⟩ : ∃ X, X = openL w R nonce s := ⟨_, rfl⟩
  have hXe : sealT w R nonce t = X := by rw [hX, ht1, hq]; rfl
  simp only [← hG, htl] at h98
  simp only [hXe, htl] at h99
  refine scall_of ttOk (by kernel_rfl : Try.prog.funcs[65]? = some Try.f65) rfl rfl rfl ?_
  try simp only [List.length_cons, List.length_nil, Nat.zero_add, Nat.reduceAdd]
  refine sw_ok ttOk mixed (by kernel_rfl) ?_
  conv => whnf
  repeat (first | (refine Exists.intro _ (And.intro (sload_all rfl (by first | rfl | fail)) ?_); conv => whnf) | (refine gdT g1 ?_; conv => whnf) | (refine Exists.intro _ (And.intro (idx_i (m := n) (by first | rfl | omega | fail)) ?_); conv => whnf) | (refine Exists.intro _ (And.intro rfl ?_); conv => whnf) | (refine And.intro (by first | omega | fail) ?_; conv => whnf) | fail)
  refine ok1_callF [0, 1, 2, 3, 4] [false, false, false, false, false, true] false (h98 _) rfl rfl ⟨⟨rfl, by first | rfl | fail⟩, by (repeat' (first | exact trivial | refine And.intro ?_ ?_)) <;> first | exact ren_eq (by first | (simp; done) | fail) (by first | rfl | fail) | fail, by first | simp [plainHf, plainB], by first | rfl | fail, ?_⟩
  conv => whnf
  repeat (first | (refine Exists.intro _ (And.intro (bytesOf_cut rfl) ?_); conv => whnf) | (refine gdT g1 ?_; conv => whnf) | (refine pkF g1 ?_; conv => whnf) | (refine gdT hGu ?_; conv => whnf) | (refine Exists.intro _ (And.intro (idx_i (m := n) (by first | rfl | omega | fail)) ?_); conv => whnf) | (refine Exists.intro _ (And.intro rfl ?_); conv => whnf) | (refine And.intro (by first | omega | (simp; omega) | fail) ?_; conv => whnf) | (refine And.intro (by kernel_rfl) ?_; conv => whnf) | fail)
  refine ⟨[0, 1, 2, 3, 4], ?_, rfl, rfl, ?_, rfl⟩
  · (repeat' (first | (refine wk_tup ?_) | (refine wk_cons ?_ ?_))) <;> first | rfl | fail
  · (repeat' (first | exact trivial | refine And.intro ?_ ?_ | fail)) <;> first | exact ren_eq (by first | (simp; done) | fail) (by first | rfl | fail) | fail

theorem f65o (fb fw fn f1 f2 : Bool) (w nonce aad s A D : List UInt8) (p q : Nat) (hA : (A.drop p).take aad.length = aad) (hoA : p + aad.length ≤ A.length) (hD : (D.drop q).take s.length = s) (hoD : q + s.length ≤ D.length)
    (R : Nat) (hw : w.length = 16 * (R + 1)) (hR1 : 1 ≤ R) (hR2 : R ≤ 20) (hn : nonce.length = 12) (ha : aad.length < 1000000) (ht : s.length < 1000000)
    (hs : 16 ≤ s.length) (hok : openOk w R nonce aad s = true) :
    SCall Try.prog 65 [.agg [.sl 0 0 256 1 fb, .sl 1 0 (16 * (R + 1)) 1 fw], .sl 2 0 12 1 fn, .sl 3 p aad.length 1 f1, .sl 4 q s.length 1 f2] [some (.ro (sbx.map .u8)), some (.ro (w.map .u8)), some (.ro (nonce.map .u8)), some (.ro (A.map .u8)), some (.ro (D.map .u8))]
      (.tup [.sl 5 0 (cutN s) 1 false, .b true]) [some (.ro (sbx.map .u8)), some (.ro (w.map .u8)), some (.ro (nonce.map .u8)), some (.ro (A.map .u8)), some (.ro (D.map .u8)), some (.row 5 ((openL w R nonce s).map .u8))] := by

  obtain ⟨n, hq⟩ : ∃ n, n = cutN s := ⟨_, rfl⟩
  have hq2 : s.length = n + 16 := by rw [hq]; unfold cutN; omega
  have g1 : decide (w64 ((s.length : Int) - 16) < 0) = false := by simp only [w64_eq, decide_eq_false_iff_not]; omega
  have hwn : w64 ((s.length : Int) - 16) = (n : Int) := by simp only [w64_eq]; omega
  obtain ⟨t, ht1⟩ : ∃ t, t = s.take n := ⟨_, rfl⟩
  obtain ⟨u, hu⟩ : ∃ u, u = s.drop n := ⟨_, rfl⟩
  have htl : t.length = n := by rw [ht1, List.length_take]; omega
  have hul : u.length = 16 := by rw [hu, List.length_drop]; omega
  have hDt : (D.drop (q + 0 * 1)).take t.length = t := by
    have : (D.drop q).take n = ((D.drop q).take s.length).take n := by rw [List.take_take]; congr 1; omega
    rw [htl, show q + 0 * 1 = q by omega, this, hD, ht1]
  have hDu : (D.drop (q + n * 1)).take (s.length - n) = u := by
    have : ((D.drop q).take s.length).drop n = (D.drop (q + n)).take (s.length - n) := by rw [List.drop_take, List.drop_drop]
    rw [Nat.mul_one, ← this, hD, hu]
  have h98 := fun f => f98 fb fw fn f1 f w nonce aad t A D p (q + 0 * 1) hA hoA hDt (by omega) R hw hR1 hR2 hn ha (by omega)
  have h99 := fun f => f99 fb fw fn f w nonce t D (q + 0 * 1) hDt R hw hR1 hR2 hn (by omega)
  obtain ⟨G, hG⟩ : ∃ G, G = tagL w R nonce aad t := ⟨_, rfl⟩
  have hGl : G.length = 16 := by rw [hG]; exact tagL_len ..
  have hGu : (!List.take 16 (List.drop 0 G) == List.take (s.length - n) (List.drop (q + n * 1) D)) = !true := by
    have : openOk w R nonce aad s = decide (G = u) := by unfold openOk; rw [← hq, ← ht1, ← hu, ← hG]; simp [hs]
    rw [← hok, this, hDu, List.drop_zero, List.take_of_length_le (by omega)]
    congr 1
    rw [Bool.eq_iff_iff]; simp
  obtain ⟨X, hX⟩ : ∃ X, X = openL w R nonce s := ⟨_, rfl⟩
  have hXe : sealT w R nonce t = X := by rw [hX, ht1, hq]; rfl
  simp only [← hG, htl] at h98
  simp only [hXe, htl] at h99
  rw [← hX, ← hq]
  refine scall_of ttOk (by kernel_rfl : Try.prog.funcs[65]? = some Try.f65) rfl rfl rfl ?_
  try simp only [List.length_cons, List.length_nil, Nat.zero_add, Nat.reduceAdd]
  refine sw_ok ttOk mixed (by kernel_rfl) ?_
  conv => whnf
  repeat (first | (refine Exists.intro _ (And.intro (sload_all rfl (by first | rfl | fail)) ?_); conv => whnf) | (refine gdT g1 ?_; conv => whnf) | (refine Exists.intro _ (And.intro (idx_i (m := n) (by first | rfl | omega | fail)) ?_); conv => whnf) | (refine Exists.intro _ (And.intro rfl ?_); conv => whnf) | (refine And.intro (by first | omega | fail) ?_; conv => whnf) | fail)
  refine ok1_callF [0, 1, 2, 3, 4] [false, false, false, false, false, true] false (h98 _) rfl rfl ⟨⟨rfl, by first | rfl | fail⟩, by (repeat' (first | exact trivial | refine And.intro ?_ ?_)) <;> first | exact ren_eq (by first | (simp; done) | fail) (by first | rfl | fail) | fail, by first | simp [plainHf, plainB], by first | rfl | fail, ?_⟩
  conv => whnf
  repeat (first | (refine Exists.intro _ (And.intro (bytesOf_cut rfl) ?_); conv => whnf) | (refine Exists.intro _ (And.intro (sload_all rfl (by first | rfl | fail)) ?_); conv => whnf) | (refine gdT g1 ?_; conv => whnf) | (refine pkF g1 ?_; conv => whnf) | (refine gdF hGu ?_; conv => whnf) | (refine Exists.intro _ (And.intro (idx_i (m := n) (by first | rfl | omega | fail)) ?_); conv => whnf) | (refine Exists.intro _ (And.intro rfl ?_); conv => whnf) | (refine And.intro (by first | omega | (simp; omega) | fail) ?_; conv => whnf) | (refine And.intro (by kernel_rfl) ?_; conv => whnf) | fail)
  refine ok1_callF [0, 1, 2, 4] [false, false, false, false, true] false (h99 _) rfl rfl ⟨⟨rfl, by first | rfl | fail⟩, by (repeat' (first | exact trivial | refine And.intro ?_ ?_)) <;> first | exact ren_eq (by first | (simp; done) | fail) (by first | rfl | fail) | fail, by first | simp [plainHf, plainB], by first | rfl | fail, ?_⟩
  conv => whnf
  repeat (first | (refine And.intro (by kernel_rfl) ?_; conv => whnf) | fail)
  refine ⟨[0, 1, 2, 3, 4, 7], ?_, rfl, rfl, ?_, rfl⟩
  · (repeat' (first | (refine wk_tup ?_) | (refine wk_cons ?_ ?_))) <;> first | rfl | fail
  · (repeat' (first | exact trivial | refine And.intro ?_ ?_ | fail)) <;> first | rfl | exact ren_eq (by first | (simp; done) | fail) (by first | rfl | fail) | fail
end Go.Sh
/- gcm's law GcmSeals (f13), walked. -/
namespace Go.Sh
open Go.Proofs
set_option maxHeartbeats 8000000
set_option linter.unusedSimpArgs false
set_option linter.unusedVariables false
attribute [local irreducible] hashL tagL sealT

theorem f13x (key nonce aad text h : List UInt8) (hn : nonce.length = 12) (hh : h.length = 16) (hx : aad.length > 400 ∨ text.length > 400) :
    SCall Try.prog 13 [.sl 0 0 key.length 1 false, .agg (nonce.map .u8), .sl 1 0 aad.length 1 false, .sl 2 0 text.length 1 false, .agg (h.map .u8)] [some (.ro (key.map .u8)), some (.ro (aad.map .u8)), some (.ro (text.map .u8))] (.b true) [some (.ro (key.map .u8)), some (.ro (aad.map .u8)), some (.ro (text.map .u8))] := by
  refine scall_of ttOk (by kernel_rfl : Try.prog.funcs[13]? = some Try.f13) rfl rfl rfl ?_
  try simp only [List.length_cons, List.length_nil, Nat.zero_add, Nat.reduceAdd]
  refine sw_ok ttOk mixed (by kernel_rfl) ?_
  conv => whnf
  repeat (fail)
  refine ok1_callF [] [] true (f59) rfl rfl ⟨⟨rfl, by first | rfl | fail⟩, trivial, by first | rfl | fail, by first | rfl | fail, ?_⟩
  conv => whnf
  by_cases h1 : aad.length > 400
  · have g1 : decide ((aad.length : Int) > 400) = true := by simp; omega
    repeat (first | (refine brT rfl ?_; conv => whnf) | (refine brF rfl ?_; conv => whnf) | (refine gdF g1 ?_; conv => whnf) | (refine pkT g1 ?_; conv => whnf) | fail)
    refine ⟨[0, 1, 2], ?_, rfl, rfl, ?_, rfl⟩
    · (repeat' (fail)) <;> first | rfl | fail
    · (repeat' (first | exact trivial | refine And.intro ?_ ?_ | fail)) <;> first | exact ren_eq (by first | (simp; done) | fail) (by first | rfl | fail) | fail
  · have g1 : decide ((aad.length : Int) > 400) = false := by simp; omega
    have g2 : decide ((text.length : Int) > 400) = true := by simp; omega
    repeat (first | (refine brF rfl ?_; conv => whnf) | (refine gdT g1 ?_; conv => whnf) | (refine pkF g1 ?_; conv => whnf) | (refine gdT g2 ?_; conv => whnf) | fail)
    refine ⟨[0, 1, 2], ?_, rfl, rfl, ?_, rfl⟩
    · (repeat' (fail)) <;> first | rfl | fail
    · (repeat' (first | exact trivial | refine And.intro ?_ ?_ | fail)) <;> first | exact ren_eq (by first | (simp; done) | fail) (by first | rfl | fail) | fail
theorem f13k (key nonce aad text h : List UInt8) (hn : nonce.length = 12) (hh : h.length = 16) (ha : aad.length ≤ 400) (ht : text.length ≤ 400) (k1 : key.length ≠ 16) (k2 : key.length ≠ 32) :
    SCall Try.prog 13 [.sl 0 0 key.length 1 false, .agg (nonce.map .u8), .sl 1 0 aad.length 1 false, .sl 2 0 text.length 1 false, .agg (h.map .u8)] [some (.ro (key.map .u8)), some (.ro (aad.map .u8)), some (.ro (text.map .u8))] (.b true) [some (.ro (key.map .u8)), some (.ro (aad.map .u8)), some (.ro (text.map .u8))] := by
  have g1 : decide ((aad.length : Int) > 400) = false := by simp; omega
  have g2 : decide ((text.length : Int) > 400) = false := by simp; omega
  have g3 : ((key.length : Int) != 16) = true := by simp; omega
  have g4 : ((key.length : Int) != 32) = true := by simp; omega
  have hS := fun f0 f1 f2 => f61k key nonce aad text aad text k1 k2 f0 f1 f2
  have hO := fun f0 f1 f2 => f62k key nonce aad text aad text k1 k2 f0 f1 f2
  have hH := fun f => f60 h text text 0 f hh (by simp) (by omega) (by omega)
  have hR := fun f1 f2 => f63 f1 f2 h text hh (by omega)
  obtain ⟨x, hx⟩ : ∃ x, x = hashL h text := ⟨_, rfl⟩
  have hxl : x.length = 16 := by rw [hx]; exact hashL_len ..
  rw [← hx] at hH hR
  have hne : (!List.take 16 (List.drop 0 x) == List.take 16 (List.drop 0 x)) = false := by simp
  refine scall_of ttOk (by kernel_rfl : Try.prog.funcs[13]? = some Try.f13) rfl rfl rfl ?_
  try simp only [List.length_cons, List.length_nil, Nat.zero_add, Nat.reduceAdd]
  refine sw_ok ttOk mixed (by kernel_rfl) ?_
  conv => whnf
  repeat (fail)
  refine ok1_callF [] [] true (f59) rfl rfl ⟨⟨rfl, by first | rfl | fail⟩, trivial, by first | rfl | fail, by first | rfl | fail, ?_⟩
  conv => whnf
  repeat (first | (refine brF rfl ?_; conv => whnf) | (refine Exists.intro _ (And.intro (sload_all rfl (by first | rfl | (simp; omega))) ?_); conv => whnf) | (refine gdT g1 ?_; conv => whnf) | (refine pkF g1 ?_; conv => whnf) | (refine gdF g2 ?_; conv => whnf) | fail)
  refine ok1_callF [2] [false] true (hH _) rfl rfl ⟨⟨rfl, by first | ((repeat' (first | exact ren_m8 rfl | exact rfl | (refine wk_agg ?_) | (refine wk_cons ?_ ?_))); done) | fail⟩, by (repeat' (first | exact trivial | refine And.intro ?_ ?_)) <;> first | exact ren_eq (by first | (simp; done) | fail) (by first | rfl | fail) | fail, by first | rfl | fail, by first | simp [plainRf, plainR, plainT, plainW], ?_⟩
  conv => whnf
  repeat (first | (refine Exists.intro _ (And.intro (sload_all rfl (by first | rfl | (simp [hxl]; omega))) ?_); conv => whnf) | (refine Exists.intro _ (And.intro (sput_all rfl (by first | rfl | (simp [hxl]; done) | fail)) ?_); conv => whnf) | (refine And.intro (by first | omega | (simp; omega) | fail) ?_; conv => whnf) | fail)
  refine ok1_callF [0, 1, 2] [false, false, false] true (hS _ _ _) rfl rfl ⟨⟨rfl, by first | ((repeat' (first | exact ren_m8 rfl | exact rfl | (refine wk_agg ?_) | (refine wk_cons ?_ ?_))); done) | fail⟩, by (repeat' (first | exact trivial | refine And.intro ?_ ?_)) <;> first | exact ren_eq (by first | (simp; done) | fail) (by first | rfl | fail) | fail, by first | rfl | fail, by first | rfl | fail, ?_⟩
  conv => whnf
  repeat (first | (refine Exists.intro _ (And.intro (sload_all rfl (by first | rfl | (simp [hxl]; omega))) ?_); conv => whnf) | fail)
  refine ok1_callF [0, 1, 2] [false, false, false] true (hO _ _ _) rfl rfl ⟨⟨rfl, by first | ((repeat' (first | exact ren_m8 rfl | exact rfl | (refine wk_agg ?_) | (refine wk_cons ?_ ?_))); done) | fail⟩, by (repeat' (first | exact trivial | refine And.intro ?_ ?_)) <;> first | exact ren_eq (by first | (simp; done) | fail) (by first | rfl | fail) | fail, by first | rfl | fail, by first | rfl | fail, ?_⟩
  conv => whnf
  repeat (first | (refine Exists.intro _ (And.intro (bytesOf_cut rfl) ?_); conv => whnf) | (refine Exists.intro _ (And.intro rfl ?_); conv => whnf) | (refine And.intro (by first | omega | (simp; omega) | fail) ?_; conv => whnf) | fail)
  refine ok1_callF [4, 2] [false, false, true] false (hR _ _) rfl rfl ⟨⟨rfl, by first | rfl | fail⟩, by (repeat' (first | exact trivial | refine And.intro ?_ ?_)) <;> first | exact ren_eq (by first | (simp; done) | fail) (by first | rfl | fail) | fail, by first | simp [plainHf, plainB], by first | rfl | fail, ?_⟩
  conv => whnf
  repeat (first | (refine Exists.intro _ (And.intro (bytesOf_cut rfl) ?_); conv => whnf) | (refine brT rfl ?_; conv => whnf) | (refine gdF hne ?_; conv => whnf) | (refine gdT g3 ?_; conv => whnf) | (refine pkT g3 ?_; conv => whnf) | (refine gdT g4 ?_; conv => whnf) | (refine Exists.intro _ (And.intro rfl ?_); conv => whnf) | (refine And.intro (by first | omega | (simp; omega) | fail) ?_; conv => whnf) | (refine And.intro (by kernel_rfl) ?_; conv => whnf) | fail)
  refine ⟨[0, 1, 2], ?_, rfl, rfl, ?_, rfl⟩
  · (repeat' (fail)) <;> first | rfl | fail
  · (repeat' (first | exact trivial | refine And.intro ?_ ?_ | fail)) <;> first | exact ren_eq (by first | (simp; done) | fail) (by first | rfl | fail) | fail
theorem f13s_4 (key nonce aad text h : List UInt8) (hk : key.length = 16) (hn : nonce.length = 12) (hh : h.length = 16) (ha : aad.length ≤ 400) (ht : text.length ≤ 400)
    (hs : text.length < 16) :
    SCall Try.prog 13 [.sl 0 0 16 1 false, .agg (nonce.map .u8), .sl 1 0 aad.length 1 false, .sl 2 0 text.length 1 false, .agg (h.map .u8)] [some (.ro (key.map .u8)), some (.ro (aad.map .u8)), some (.ro (text.map .u8))] (.b true) [some (.ro (key.map .u8)), some (.ro (aad.map .u8)), some (.ro (text.map .u8))] := by
  have g1 : decide ((aad.length : Int) > 400) = false := by simp; omega
  have g2 : decide ((text.length : Int) > 400) = false := by simp; omega
  have hS := fun f0 f1 f2 => f61_4 key nonce aad text aad text hk hn (by simp) (by simp) (by omega) (by omega) (by omega) (by omega) f0 f1 f2
  have hwl := wSt_4 key
  have h66 := fun a1 a2 a3 a4 a5 => f66 a1 a2 a3 a4 a5 (wSt key 4 44) nonce aad text aad text 0 0 (by simp) (by omega) (by simp) (by omega) 10 hwl (by omega) (by omega) hn (by omega) (by omega)
  have h64 := fun f => f64_4 key hk f
  have hO := fun f0 f1 f2 => f62s_4 key nonce aad text aad text hk hs f0 f1 f2
  have h65 := fun a1 a2 a3 a4 a5 => f65s a1 a2 a3 a4 a5 (wSt key 4 44) nonce aad text aad text 0 0 (by simp) (by omega) (by simp) (by omega) 10 hwl (by omega) (by omega) hn (by omega) (by omega) hs
  obtain ⟨w, hw⟩ : ∃ w, w = wSt key 4 44 := ⟨_, rfl⟩
  have hSl := sealL_len w 10 nonce aad text
  have hXl := openL_len w 10 nonce text
  rw [← hw] at hS h66 h64 h65
  obtain ⟨S, hSd⟩ : ∃ S, S = sealL w 10 nonce aad text := ⟨_, rfl⟩
  obtain ⟨X, hXd⟩ : ∃ X, X = openL w 10 nonce text := ⟨_, rfl⟩
  rw [← hSd] at hS h66 hSl
  rw [← hXd] at hXl
  have hH := fun f => f60 h text text 0 f hh (by simp) (by omega) (by omega)
  have hR := fun f1 f2 => f63 f1 f2 h text hh (by omega)
  obtain ⟨x, hx⟩ : ∃ x, x = hashL h text := ⟨_, rfl⟩
  have hxl : x.length = 16 := by rw [hx]; exact hashL_len ..
  rw [← hx] at hH hR
  have hne : (!List.take 16 (List.drop 0 x) == List.take 16 (List.drop 0 x)) = false := by simp
  have heS : (List.take (text.length + 16) (List.drop 0 S) == List.take (text.length + 16) (List.drop 0 S)) = true := by simp
  have heX : (List.take (cutN text) (List.drop 0 X) == List.take (cutN text) (List.drop 0 X)) = true := by simp
  refine scall_of ttOk (by kernel_rfl : Try.prog.funcs[13]? = some Try.f13) rfl rfl rfl ?_
  try simp only [List.length_cons, List.length_nil, Nat.zero_add, Nat.reduceAdd]
  refine sw_ok ttOk mixed (by kernel_rfl) ?_
  conv => whnf
  repeat (fail)
  refine ok1_callF [] [] true (f59) rfl rfl ⟨⟨rfl, by first | rfl | fail⟩, trivial, by first | rfl | fail, by first | rfl | fail, ?_⟩
  conv => whnf
  repeat (first | (refine brF rfl ?_; conv => whnf) | (refine Exists.intro _ (And.intro (sload_all rfl (by first | rfl | (simp; omega))) ?_); conv => whnf) | (refine gdT g1 ?_; conv => whnf) | (refine pkF g1 ?_; conv => whnf) | (refine gdF g2 ?_; conv => whnf) | fail)
  refine ok1_callF [2] [false] true (hH _) rfl rfl ⟨⟨rfl, by first | ((repeat' (first | exact ren_m8 rfl | exact rfl | (refine wk_agg ?_) | (refine wk_cons ?_ ?_))); done) | fail⟩, by (repeat' (first | exact trivial | refine And.intro ?_ ?_)) <;> first | exact ren_eq (by first | (simp; done) | fail) (by first | rfl | fail) | fail, by first | rfl | fail, by first | simp [plainRf, plainR, plainT, plainW], ?_⟩
  conv => whnf
  repeat (first | (refine Exists.intro _ (And.intro (sload_all rfl (by first | rfl | (simp [hxl]; omega))) ?_); conv => whnf) | (refine Exists.intro _ (And.intro (sput_all rfl (by first | rfl | (simp [hxl]; done) | fail)) ?_); conv => whnf) | (refine And.intro (by first | omega | (simp; omega) | fail) ?_; conv => whnf) | fail)
  refine ok1_callF [0, 1, 2] [false, false, false, true] false (hS _ _ _) rfl rfl ⟨⟨rfl, by first | ((repeat' (first | exact ren_m8 rfl | exact rfl | (refine wk_agg ?_) | (refine wk_cons ?_ ?_))); done) | fail⟩, by (repeat' (first | exact trivial | refine And.intro ?_ ?_)) <;> first | exact ren_eq (by first | (simp; done) | fail) (by first | rfl | fail) | fail, by first | simp [plainHf, plainB], by first | rfl | fail, ?_⟩
  conv => whnf
  repeat (first | (refine Exists.intro _ (And.intro (sload_all rfl (by first | rfl | (simp [hxl]; omega))) ?_); conv => whnf) | fail)
  refine ok1_callF [0, 1, 2] [false, false, false] true (hO _ _ _) rfl rfl ⟨⟨rfl, by first | ((repeat' (first | exact ren_m8 rfl | exact rfl | (refine wk_agg ?_) | (refine wk_cons ?_ ?_))); done) | fail⟩, by (repeat' (first | exact trivial | refine And.intro ?_ ?_)) <;> first | exact ren_eq (by first | (simp; done) | fail) (by first | rfl | fail) | fail, by first | rfl | fail, by first | rfl | fail, ?_⟩
  conv => whnf
  repeat (first | (refine Exists.intro _ (And.intro (bytesOf_cut rfl) ?_); conv => whnf) | (refine Exists.intro _ (And.intro rfl ?_); conv => whnf) | (refine And.intro (by first | omega | (simp; omega) | fail) ?_; conv => whnf) | fail)
  refine ok1_callF [4, 2] [false, false, true] false (hR _ _) rfl rfl ⟨⟨rfl, by first | rfl | fail⟩, by (repeat' (first | exact trivial | refine And.intro ?_ ?_)) <;> first | exact ren_eq (by first | (simp; done) | fail) (by first | rfl | fail) | fail, by first | simp [plainHf, plainB], by first | rfl | fail, ?_⟩
  conv => whnf
  repeat (first | (refine Exists.intro _ (And.intro (bytesOf_cut rfl) ?_); conv => whnf) | (refine brF rfl ?_; conv => whnf) | (refine gdF hne ?_; conv => whnf) | (refine Exists.intro _ (And.intro rfl ?_); conv => whnf) | (refine And.intro (by first | omega | (simp; omega) | fail) ?_; conv => whnf) | (refine And.intro (by kernel_rfl) ?_; conv => whnf) | fail)
  refine ok1_callF [0] [false, true, true] false (h64 _) rfl rfl ⟨⟨rfl, by first | rfl | fail⟩, by (repeat' (first | exact trivial | refine And.intro ?_ ?_)) <;> first | exact ren_eq (by first | (simp; done) | fail) (by first | rfl | fail) | fail, by first | simp [plainHf, plainB], by first | rfl | fail, ?_⟩
  conv => whnf
  repeat (first | (refine Exists.intro _ (And.intro (sload_all rfl (by first | rfl | fail)) ?_); conv => whnf) | (refine Exists.intro _ (And.intro (sput_all rfl (by first | rfl | fail)) ?_); conv => whnf) | (refine Exists.intro _ (And.intro rfl ?_); conv => whnf) | (refine And.intro (by first | omega | (simp; done) | (simp; omega) | fail) ?_; conv => whnf) | fail)
  refine ok1_callF [8, 9, 3, 1, 2] [false, false, false, false, false] true (h65 _ _ _ _ _) rfl rfl ⟨⟨rfl, by first | rfl | fail⟩, by (repeat' (first | exact trivial | refine And.intro ?_ ?_)) <;> first | exact ren_eq (by first | (simp; done) | fail) (by first | rfl | fail) | fail, by first | rfl | fail, by first | rfl | fail, ?_⟩
  conv => whnf
  repeat (first | (refine Exists.intro _ (And.intro (bytesOf_cut rfl) ?_); conv => whnf) | (refine Exists.intro _ (And.intro (sload_all rfl (by first | rfl | fail)) ?_); conv => whnf) | (refine Exists.intro _ (And.intro rfl ?_); conv => whnf) | (refine And.intro (by first | omega | (simp; omega) | fail) ?_; conv => whnf) | (refine And.intro (by kernel_rfl) ?_; conv => whnf) | fail)
  refine ok1_callF [8, 9, 3, 1, 2] [false, false, false, false, false, true] false (h66 _ _ _ _ _) rfl rfl ⟨⟨rfl, by first | rfl | fail⟩, by (repeat' (first | exact trivial | refine And.intro ?_ ?_)) <;> first | exact ren_eq (by first | (simp; done) | fail) (by first | rfl | fail) | fail, by first | simp [plainHf, plainB], by first | rfl | fail, ?_⟩
  conv => whnf
  repeat (first | (refine Exists.intro _ (And.intro (bytesOf_cut rfl) ?_); conv => whnf) | (refine brT rfl ?_; conv => whnf) | (refine gdT rfl ?_; conv => whnf) | (refine gdT heS ?_; conv => whnf) | (refine pkT heS ?_; conv => whnf) | (refine Exists.intro _ (And.intro rfl ?_); conv => whnf) | (refine And.intro (by first | omega | (simp; omega) | fail) ?_; conv => whnf) | (refine And.intro (by kernel_rfl) ?_; conv => whnf) | fail)
  refine ⟨[0, 1, 2], ?_, rfl, rfl, ?_, rfl⟩
  · (repeat' (fail)) <;> first | rfl | fail
  · (repeat' (first | exact trivial | refine And.intro ?_ ?_ | fail)) <;> first | exact ren_eq (by first | (simp; done) | fail) (by first | rfl | fail) | fail
theorem f13b_4 (key nonce aad text h : List UInt8) (hk : key.length = 16) (hn : nonce.length = 12) (hh : h.length = 16) (ha : aad.length ≤ 400) (ht : text.length ≤ 400)
    (hs : 16 ≤ text.length) (hok : openOk (wSt key 4 44) 10 nonce aad text = false) :
    SCall Try.prog 13 [.sl 0 0 16 1 false, .agg (nonce.map .u8), .sl 1 0 aad.length 1 false, .sl 2 0 text.length 1 false, .agg (h.map .u8)] [some (.ro (key.map .u8)), some (.ro (aad.map .u8)), some (.ro (text.map .u8))] (.b true) [some (.ro (key.map .u8)), some (.ro (aad.map .u8)), some (.ro (text.map .u8))] := by
  have g1 : decide ((aad.length : Int) > 400) = false := by simp; omega
  have g2 : decide ((text.length : Int) > 400) = false := by simp; omega
  have hS := fun f0 f1 f2 => f61_4 key nonce aad text aad text hk hn (by simp) (by simp) (by omega) (by omega) (by omega) (by omega) f0 f1 f2
  have hwl := wSt_4 key
  have h66 := fun a1 a2 a3 a4 a5 => f66 a1 a2 a3 a4 a5 (wSt key 4 44) nonce aad text aad text 0 0 (by simp) (by omega) (by simp) (by omega) 10 hwl (by omega) (by omega) hn (by omega) (by omega)
  have h64 := fun f => f64_4 key hk f
  have hO := fun f0 f1 f2 => f62b_4 key nonce aad text aad text hk hs hn (by simp) (by simp) (by omega) (by omega) (by omega) (by omega) hok f0 f1 f2
  have h65 := fun a1 a2 a3 a4 a5 => f65b a1 a2 a3 a4 a5 (wSt key 4 44) nonce aad text aad text 0 0 (by simp) (by omega) (by simp) (by omega) 10 hwl (by omega) (by omega) hn (by omega) (by omega) hs hok
  obtain ⟨w, hw⟩ : ∃ w, w = wSt key 4 44 := ⟨_, rfl⟩
  have hSl := sealL_len w 10 nonce aad text
  have hXl := openL_len w 10 nonce text
  rw [← hw] at hS h66 h64 h65
  obtain ⟨S, hSd⟩ : ∃ S, S = sealL w 10 nonce aad text := ⟨_, rfl⟩
  obtain ⟨X, hXd⟩ : ∃ X, X = openL w 10 nonce text := ⟨_, rfl⟩
  rw [← hSd] at hS h66 hSl
  rw [← hXd] at hXl
  have hH := fun f => f60 h text text 0 f hh (by simp) (by omega) (by omega)
  have hR := fun f1 f2 => f63 f1 f2 h text hh (by omega)
  obtain ⟨x, hx⟩ : ∃ x, x = hashL h text := ⟨_, rfl⟩
  have hxl : x.length = 16 := by rw [hx]; exact hashL_len ..
  rw [← hx] at hH hR
  have hne : (!List.take 16 (List.drop 0 x) == List.take 16 (List.drop 0 x)) = false := by simp
  have heS : (List.take (text.length + 16) (List.drop 0 S) == List.take (text.length + 16) (List.drop 0 S)) = true := by simp
  have heX : (List.take (cutN text) (List.drop 0 X) == List.take (cutN text) (List.drop 0 X)) = true := by simp
  refine scall_of ttOk (by kernel_rfl : Try.prog.funcs[13]? = some Try.f13) rfl rfl rfl ?_
  try simp only [List.length_cons, List.length_nil, Nat.zero_add, Nat.reduceAdd]
  refine sw_ok ttOk mixed (by kernel_rfl) ?_
  conv => whnf
  repeat (fail)
  refine ok1_callF [] [] true (f59) rfl rfl ⟨⟨rfl, by first | rfl | fail⟩, trivial, by first | rfl | fail, by first | rfl | fail, ?_⟩
  conv => whnf
  repeat (first | (refine brF rfl ?_; conv => whnf) | (refine Exists.intro _ (And.intro (sload_all rfl (by first | rfl | (simp; omega))) ?_); conv => whnf) | (refine gdT g1 ?_; conv => whnf) | (refine pkF g1 ?_; conv => whnf) | (refine gdF g2 ?_; conv => whnf) | fail)
  refine ok1_callF [2] [false] true (hH _) rfl rfl ⟨⟨rfl, by first | ((repeat' (first | exact ren_m8 rfl | exact rfl | (refine wk_agg ?_) | (refine wk_cons ?_ ?_))); done) | fail⟩, by (repeat' (first | exact trivial | refine And.intro ?_ ?_)) <;> first | exact ren_eq (by first | (simp; done) | fail) (by first | rfl | fail) | fail, by first | rfl | fail, by first | simp [plainRf, plainR, plainT, plainW], ?_⟩
  conv => whnf
  repeat (first | (refine Exists.intro _ (And.intro (sload_all rfl (by first | rfl | (simp [hxl]; omega))) ?_); conv => whnf) | (refine Exists.intro _ (And.intro (sput_all rfl (by first | rfl | (simp [hxl]; done) | fail)) ?_); conv => whnf) | (refine And.intro (by first | omega | (simp; omega) | fail) ?_; conv => whnf) | fail)
  refine ok1_callF [0, 1, 2] [false, false, false, true] false (hS _ _ _) rfl rfl ⟨⟨rfl, by first | ((repeat' (first | exact ren_m8 rfl | exact rfl | (refine wk_agg ?_) | (refine wk_cons ?_ ?_))); done) | fail⟩, by (repeat' (first | exact trivial | refine And.intro ?_ ?_)) <;> first | exact ren_eq (by first | (simp; done) | fail) (by first | rfl | fail) | fail, by first | simp [plainHf, plainB], by first | rfl | fail, ?_⟩
  conv => whnf
  repeat (first | (refine Exists.intro _ (And.intro (sload_all rfl (by first | rfl | (simp [hxl]; omega))) ?_); conv => whnf) | fail)
  refine ok1_callF [0, 1, 2] [false, false, false] true (hO _ _ _) rfl rfl ⟨⟨rfl, by first | ((repeat' (first | exact ren_m8 rfl | exact rfl | (refine wk_agg ?_) | (refine wk_cons ?_ ?_))); done) | fail⟩, by (repeat' (first | exact trivial | refine And.intro ?_ ?_)) <;> first | exact ren_eq (by first | (simp; done) | fail) (by first | rfl | fail) | fail, by first | rfl | fail, by first | rfl | fail, ?_⟩
  conv => whnf
  repeat (first | (refine Exists.intro _ (And.intro (bytesOf_cut rfl) ?_); conv => whnf) | (refine Exists.intro _ (And.intro rfl ?_); conv => whnf) | (refine And.intro (by first | omega | (simp; omega) | fail) ?_; conv => whnf) | fail)
  refine ok1_callF [4, 2] [false, false, true] false (hR _ _) rfl rfl ⟨⟨rfl, by first | rfl | fail⟩, by (repeat' (first | exact trivial | refine And.intro ?_ ?_)) <;> first | exact ren_eq (by first | (simp; done) | fail) (by first | rfl | fail) | fail, by first | simp [plainHf, plainB], by first | rfl | fail, ?_⟩
  conv => whnf
  repeat (first | (refine Exists.intro _ (And.intro (bytesOf_cut rfl) ?_); conv => whnf) | (refine brF rfl ?_; conv => whnf) | (refine gdF hne ?_; conv => whnf) | (refine Exists.intro _ (And.intro rfl ?_); conv => whnf) | (refine And.intro (by first | omega | (simp; omega) | fail) ?_; conv => whnf) | (refine And.intro (by kernel_rfl) ?_; conv => whnf) | fail)
  refine ok1_callF [0] [false, true, true] false (h64 _) rfl rfl ⟨⟨rfl, by first | rfl | fail⟩, by (repeat' (first | exact trivial | refine And.intro ?_ ?_)) <;> first | exact ren_eq (by first | (simp; done) | fail) (by first | rfl | fail) | fail, by first | simp [plainHf, plainB], by first | rfl | fail, ?_⟩
  conv => whnf
  repeat (first | (refine Exists.intro _ (And.intro (sload_all rfl (by first | rfl | fail)) ?_); conv => whnf) | (refine Exists.intro _ (And.intro (sput_all rfl (by first | rfl | fail)) ?_); conv => whnf) | (refine Exists.intro _ (And.intro rfl ?_); conv => whnf) | (refine And.intro (by first | omega | (simp; done) | (simp; omega) | fail) ?_; conv => whnf) | fail)
  refine ok1_callF [8, 9, 3, 1, 2] [false, false, false, false, false] true (h65 _ _ _ _ _) rfl rfl ⟨⟨rfl, by first | rfl | fail⟩, by (repeat' (first | exact trivial | refine And.intro ?_ ?_)) <;> first | exact ren_eq (by first | (simp; done) | fail) (by first | rfl | fail) | fail, by first | rfl | fail, by first | rfl | fail, ?_⟩
  conv => whnf
  repeat (first | (refine Exists.intro _ (And.intro (bytesOf_cut rfl) ?_); conv => whnf) | (refine Exists.intro _ (And.intro (sload_all rfl (by first | rfl | fail)) ?_); conv => whnf) | (refine Exists.intro _ (And.intro rfl ?_); conv => whnf) | (refine And.intro (by first | omega | (simp; omega) | fail) ?_; conv => whnf) | (refine And.intro (by kernel_rfl) ?_; conv => whnf) | fail)
  refine ok1_callF [8, 9, 3, 1, 2] [false, false, false, false, false, true] false (h66 _ _ _ _ _) rfl rfl ⟨⟨rfl, by first | rfl | fail⟩, by (repeat' (first | exact trivial | refine And.intro ?_ ?_)) <;> first | exact ren_eq (by first | (simp; done) | fail) (by first | rfl | fail) | fail, by first | simp [plainHf, plainB], by first | rfl | fail, ?_⟩
  conv => whnf
  repeat (first | (refine Exists.intro _ (And.intro (bytesOf_cut rfl) ?_); conv => whnf) | (refine brT rfl ?_; conv => whnf) | (refine gdT rfl ?_; conv => whnf) | (refine gdT heS ?_; conv => whnf) | (refine pkT heS ?_; conv => whnf) | (refine Exists.intro _ (And.intro rfl ?_); conv => whnf) | (refine And.intro (by first | omega | (simp; omega) | fail) ?_; conv => whnf) | (refine And.intro (by kernel_rfl) ?_; conv => whnf) | fail)
  refine ⟨[0, 1, 2], ?_, rfl, rfl, ?_, rfl⟩
  · (repeat' (fail)) <;> first | rfl | fail
  · (repeat' (first | exact trivial | refine And.intro ?_ ?_ | fail)) <;> first | exact ren_eq (by first | (simp; done) | fail) (by first | rfl | fail) | fail
theorem f13o_4 (key nonce aad text h : List UInt8) (hk : key.length = 16) (hn : nonce.length = 12) (hh : h.length = 16) (ha : aad.length ≤ 400) (ht : text.length ≤ 400)
    (hs : 16 ≤ text.length) (hok : openOk (wSt key 4 44) 10 nonce aad text = true) :
    SCall Try.prog 13 [.sl 0 0 16 1 false, .agg (nonce.map .u8), .sl 1 0 aad.length 1 false, .sl 2 0 text.length 1 false, .agg (h.map .u8)] [some (.ro (key.map .u8)), some (.ro (aad.map .u8)), some (.ro (text.map .u8))] (.b true) [some (.ro (key.map .u8)), some (.ro (aad.map .u8)), some (.ro (text.map .u8))] := by
  have g1 : decide ((aad.length : Int) > 400) = false := by simp; omega
  have g2 : decide ((text.length : Int) > 400) = false := by simp; omega
  have hS := fun f0 f1 f2 => f61_4 key nonce aad text aad text hk hn (by simp) (by simp) (by omega) (by omega) (by omega) (by omega) f0 f1 f2
  have hwl := wSt_4 key
  have h66 := fun a1 a2 a3 a4 a5 => f66 a1 a2 a3 a4 a5 (wSt key 4 44) nonce aad text aad text 0 0 (by simp) (by omega) (by simp) (by omega) 10 hwl (by omega) (by omega) hn (by omega) (by omega)
  have h64 := fun f => f64_4 key hk f
  have hO := fun f0 f1 f2 => f62o_4 key nonce aad text aad text hk hs hn (by simp) (by simp) (by omega) (by omega) (by omega) (by omega) hok f0 f1 f2
  have h65 := fun a1 a2 a3 a4 a5 => f65o a1 a2 a3 a4 a5 (wSt key 4 44) nonce aad text aad text 0 0 (by simp) (by omega) (by simp) (by omega) 10 hwl (by omega) (by omega) hn (by omega) (by omega) hs hok
  obtain ⟨w, hw⟩ : ∃ w, w = wSt key 4 44 := ⟨_, rfl⟩
  have hSl := sealL_len w 10 nonce aad text
  have hXl := openL_len w 10 nonce text
  rw [← hw] at hS h66 h64 h65
  rw [← hw] at hO
  obtain ⟨S, hSd⟩ : ∃ S, S = sealL w 10 nonce aad text := ⟨_, rfl⟩
  obtain ⟨X, hXd⟩ : ∃ X, X = openL w 10 nonce text := ⟨_, rfl⟩
  rw [← hSd] at hS h66 hSl
  rw [← hXd] at hXl
  rw [← hXd] at hO h65
  have hH := fun f => f60 h text text 0 f hh (by simp) (by omega) (by omega)
  have hR := fun f1 f2 => f63 f1 f2 h text hh (by omega)
  obtain ⟨x, hx⟩ : ∃ x, x = hashL h text := ⟨_, rfl⟩
  have hxl : x.length = 16 := by rw [hx]; exact hashL_len ..
  rw [← hx] at hH hR
  have hne : (!List.take 16 (List.drop 0 x) == List.take 16 (List.drop 0 x)) = false := by simp
  have heS : (List.take (text.length + 16) (List.drop 0 S) == List.take (text.length + 16) (List.drop 0 S)) = true := by simp
  have heX : (List.take (cutN text) (List.drop 0 X) == List.take (cutN text) (List.drop 0 X)) = true := by simp
  refine scall_of ttOk (by kernel_rfl : Try.prog.funcs[13]? = some Try.f13) rfl rfl rfl ?_
  try simp only [List.length_cons, List.length_nil, Nat.zero_add, Nat.reduceAdd]
  refine sw_ok ttOk mixed (by kernel_rfl) ?_
  conv => whnf
  repeat (fail)
  refine ok1_callF [] [] true (f59) rfl rfl ⟨⟨rfl, by first | rfl | fail⟩, trivial, by first | rfl | fail, by first | rfl | fail, ?_⟩
  conv => whnf
  repeat (first | (refine brF rfl ?_; conv => whnf) | (refine Exists.intro _ (And.intro (sload_all rfl (by first | rfl | (simp; omega))) ?_); conv => whnf) | (refine gdT g1 ?_; conv => whnf) | (refine pkF g1 ?_; conv => whnf) | (refine gdF g2 ?_; conv => whnf) | fail)
  refine ok1_callF [2] [false] true (hH _) rfl rfl ⟨⟨rfl, by first | ((repeat' (first | exact ren_m8 rfl | exact rfl | (refine wk_agg ?_) | (refine wk_cons ?_ ?_))); done) | fail⟩, by (repeat' (first | exact trivial | refine And.intro ?_ ?_)) <;> first | exact ren_eq (by first | (simp; done) | fail) (by first | rfl | fail) | fail, by first | rfl | fail, by first | simp [plainRf, plainR, plainT, plainW], ?_⟩
  conv => whnf
  repeat (first | (refine Exists.intro _ (And.intro (sload_all rfl (by first | rfl | (simp [hxl]; omega))) ?_); conv => whnf) | (refine Exists.intro _ (And.intro (sput_all rfl (by first | rfl | (simp [hxl]; done) | fail)) ?_); conv => whnf) | (refine And.intro (by first | omega | (simp; omega) | fail) ?_; conv => whnf) | fail)
  refine ok1_callF [0, 1, 2] [false, false, false, true] false (hS _ _ _) rfl rfl ⟨⟨rfl, by first | ((repeat' (first | exact ren_m8 rfl | exact rfl | (refine wk_agg ?_) | (refine wk_cons ?_ ?_))); done) | fail⟩, by (repeat' (first | exact trivial | refine And.intro ?_ ?_)) <;> first | exact ren_eq (by first | (simp; done) | fail) (by first | rfl | fail) | fail, by first | simp [plainHf, plainB], by first | rfl | fail, ?_⟩
  conv => whnf
  repeat (first | (refine Exists.intro _ (And.intro (sload_all rfl (by first | rfl | (simp [hxl]; omega))) ?_); conv => whnf) | fail)
  refine ok1_callF [0, 1, 2] [false, false, false, true] false (hO _ _ _) rfl rfl ⟨⟨rfl, by first | ((repeat' (first | exact ren_m8 rfl | exact rfl | (refine wk_agg ?_) | (refine wk_cons ?_ ?_))); done) | fail⟩, by (repeat' (first | exact trivial | refine And.intro ?_ ?_)) <;> first | exact ren_eq (by first | (simp; done) | fail) (by first | rfl | fail) | fail, by first | simp [plainHf, plainB], by first | rfl | fail, ?_⟩
  conv => whnf
  repeat (first | (refine Exists.intro _ (And.intro (bytesOf_cut rfl) ?_); conv => whnf) | (refine Exists.intro _ (And.intro rfl ?_); conv => whnf) | (refine And.intro (by first | omega | (simp; omega) | fail) ?_; conv => whnf) | fail)
  refine ok1_callF [4, 2] [false, false, true] false (hR _ _) rfl rfl ⟨⟨rfl, by first | rfl | fail⟩, by (repeat' (first | exact trivial | refine And.intro ?_ ?_)) <;> first | exact ren_eq (by first | (simp; done) | fail) (by first | rfl | fail) | fail, by first | simp [plainHf, plainB], by first | rfl | fail, ?_⟩
  conv => whnf
  repeat (first | (refine Exists.intro _ (And.intro (bytesOf_cut rfl) ?_); conv => whnf) | (refine brF rfl ?_; conv => whnf) | (refine gdF hne ?_; conv => whnf) | (refine Exists.intro _ (And.intro rfl ?_); conv => whnf) | (refine And.intro (by first | omega | (simp; omega) | fail) ?_; conv => whnf) | (refine And.intro (by kernel_rfl) ?_; conv => whnf) | fail)
  refine ok1_callF [0] [false, true, true] false (h64 _) rfl rfl ⟨⟨rfl, by first | rfl | fail⟩, by (repeat' (first | exact trivial | refine And.intro ?_ ?_)) <;> first | exact ren_eq (by first | (simp; done) | fail) (by first | rfl | fail) | fail, by first | simp [plainHf, plainB], by first | rfl | fail, ?_⟩
  conv => whnf
  repeat (first | (refine Exists.intro _ (And.intro (sload_all rfl (by first | rfl | fail)) ?_); conv => whnf) | (refine Exists.intro _ (And.intro (sput_all rfl (by first | rfl | fail)) ?_); conv => whnf) | (refine Exists.intro _ (And.intro rfl ?_); conv => whnf) | (refine And.intro (by first | omega | (simp; done) | (simp; omega) | fail) ?_; conv => whnf) | fail)
  refine ok1_callF [9, 10, 3, 1, 2] [false, false, false, false, false, true] false (h65 _ _ _ _ _) rfl rfl ⟨⟨rfl, by first | rfl | fail⟩, by (repeat' (first | exact trivial | refine And.intro ?_ ?_)) <;> first | exact ren_eq (by first | (simp; done) | fail) (by first | rfl | fail) | fail, by first | simp [plainHf, plainB], by first | rfl | fail, ?_⟩
  conv => whnf
  repeat (first | (refine Exists.intro _ (And.intro (bytesOf_cut rfl) ?_); conv => whnf) | (refine Exists.intro _ (And.intro (sload_all rfl (by first | rfl | fail)) ?_); conv => whnf) | (refine Exists.intro _ (And.intro rfl ?_); conv => whnf) | (refine And.intro (by first | omega | (simp; omega) | fail) ?_; conv => whnf) | (refine And.intro (by kernel_rfl) ?_; conv => whnf) | fail)
  refine ok1_callF [9, 10, 3, 1, 2] [false, false, false, false, false, true] false (h66 _ _ _ _ _) rfl rfl ⟨⟨rfl, by first | rfl | fail⟩, by (repeat' (first | exact trivial | refine And.intro ?_ ?_)) <;> first | exact ren_eq (by first | (simp; done) | fail) (by first | rfl | fail) | fail, by first | simp [plainHf, plainB], by first | rfl | fail, ?_⟩
  conv => whnf
  repeat (first | (refine Exists.intro _ (And.intro (bytesOf_cut rfl) ?_); conv => whnf) | (refine brT rfl ?_; conv => whnf) | (refine gdF rfl ?_; conv => whnf) | (refine gdT heS ?_; conv => whnf) | (refine pkT heS ?_; conv => whnf) | (refine gdT heX ?_; conv => whnf) | (refine pkT heX ?_; conv => whnf) | (refine Exists.intro _ (And.intro rfl ?_); conv => whnf) | (refine And.intro (by first | omega | (simp; omega) | fail) ?_; conv => whnf) | (refine And.intro (by kernel_rfl) ?_; conv => whnf) | fail)
  refine ⟨[0, 1, 2], ?_, rfl, rfl, ?_, rfl⟩
  · (repeat' (fail)) <;> first | rfl | fail
  · (repeat' (first | exact trivial | refine And.intro ?_ ?_ | fail)) <;> first | exact ren_eq (by first | (simp; done) | fail) (by first | rfl | fail) | fail
theorem f13s_8 (key nonce aad text h : List UInt8) (hk : key.length = 32) (hn : nonce.length = 12) (hh : h.length = 16) (ha : aad.length ≤ 400) (ht : text.length ≤ 400)
    (hs : text.length < 16) :
    SCall Try.prog 13 [.sl 0 0 32 1 false, .agg (nonce.map .u8), .sl 1 0 aad.length 1 false, .sl 2 0 text.length 1 false, .agg (h.map .u8)] [some (.ro (key.map .u8)), some (.ro (aad.map .u8)), some (.ro (text.map .u8))] (.b true) [some (.ro (key.map .u8)), some (.ro (aad.map .u8)), some (.ro (text.map .u8))] := by
  have g1 : decide ((aad.length : Int) > 400) = false := by simp; omega
  have g2 : decide ((text.length : Int) > 400) = false := by simp; omega
  have hS := fun f0 f1 f2 => f61_8 key nonce aad text aad text hk hn (by simp) (by simp) (by omega) (by omega) (by omega) (by omega) f0 f1 f2
  have hwl := wSt_8 key
  have h66 := fun a1 a2 a3 a4 a5 => f66 a1 a2 a3 a4 a5 (wSt key 8 60) nonce aad text aad text 0 0 (by simp) (by omega) (by simp) (by omega) 14 hwl (by omega) (by omega) hn (by omega) (by omega)
  have h64 := fun f => f64_8 key hk f
  have hO := fun f0 f1 f2 => f62s_8 key nonce aad text aad text hk hs f0 f1 f2
  have h65 := fun a1 a2 a3 a4 a5 => f65s a1 a2 a3 a4 a5 (wSt key 8 60) nonce aad text aad text 0 0 (by simp) (by omega) (by simp) (by omega) 14 hwl (by omega) (by omega) hn (by omega) (by omega) hs
  obtain ⟨w, hw⟩ : ∃ w, w = wSt key 8 60 := ⟨_, rfl⟩
  have hSl := sealL_len w 14 nonce aad text
  have hXl := openL_len w 14 nonce text
  rw [← hw] at hS h66 h64 h65
  obtain ⟨S, hSd⟩ : ∃ S, S = sealL w 14 nonce aad text := ⟨_, rfl⟩
  obtain ⟨X, hXd⟩ : ∃ X, X = openL w 14 nonce text := ⟨_, rfl⟩
  rw [← hSd] at hS h66 hSl
  rw [← hXd] at hXl
  have hH := fun f => f60 h text text 0 f hh (by simp) (by omega) (by omega)
  have hR := fun f1 f2 => f63 f1 f2 h text hh (by omega)
  obtain ⟨x, hx⟩ : ∃ x, x = hashL h text := ⟨_, rfl⟩
  have hxl : x.length = 16 := by rw [hx]; exact hashL_len ..
  rw [← hx] at hH hR
  have hne : (!List.take 16 (List.drop 0 x) == List.take 16 (List.drop 0 x)) = false := by simp
  have heS : (List.take (text.length + 16) (List.drop 0 S) == List.take (text.length + 16) (List.drop 0 S)) = true := by simp
  have heX : (List.take (cutN text) (List.drop 0 X) == List.take (cutN text) (List.drop 0 X)) = true := by simp
  refine scall_of ttOk (by kernel_rfl : Try.prog.funcs[13]? = some Try.f13) rfl rfl rfl ?_
  try simp only [List.length_cons, List.length_nil, Nat.zero_add, Nat.reduceAdd]
  refine sw_ok ttOk mixed (by kernel_rfl) ?_
  conv => whnf
  repeat (fail)
  refine ok1_callF [] [] true (f59) rfl rfl ⟨⟨rfl, by first | rfl | fail⟩, trivial, by first | rfl | fail, by first | rfl | fail, ?_⟩
  conv => whnf
  repeat (first | (refine brF rfl ?_; conv => whnf) | (refine Exists.intro _ (And.intro (sload_all rfl (by first | rfl | (simp; omega))) ?_); conv => whnf) | (refine gdT g1 ?_; conv => whnf) | (refine pkF g1 ?_; conv => whnf) | (refine gdF g2 ?_; conv => whnf) | fail)
  refine ok1_callF [2] [false] true (hH _) rfl rfl ⟨⟨rfl, by first | ((repeat' (first | exact ren_m8 rfl | exact rfl | (refine wk_agg ?_) | (refine wk_cons ?_ ?_))); done) | fail⟩, by (repeat' (first | exact trivial | refine And.intro ?_ ?_)) <;> first | exact ren_eq (by first | (simp; done) | fail) (by first | rfl | fail) | fail, by first | rfl | fail, by first | simp [plainRf, plainR, plainT, plainW], ?_⟩
  conv => whnf
  repeat (first | (refine Exists.intro _ (And.intro (sload_all rfl (by first | rfl | (simp [hxl]; omega))) ?_); conv => whnf) | (refine Exists.intro _ (And.intro (sput_all rfl (by first | rfl | (simp [hxl]; done) | fail)) ?_); conv => whnf) | (refine And.intro (by first | omega | (simp; omega) | fail) ?_; conv => whnf) | fail)
  refine ok1_callF [0, 1, 2] [false, false, false, true] false (hS _ _ _) rfl rfl ⟨⟨rfl, by first | ((repeat' (first | exact ren_m8 rfl | exact rfl | (refine wk_agg ?_) | (refine wk_cons ?_ ?_))); done) | fail⟩, by (repeat' (first | exact trivial | refine And.intro ?_ ?_)) <;> first | exact ren_eq (by first | (simp; done) | fail) (by first | rfl | fail) | fail, by first | simp [plainHf, plainB], by first | rfl | fail, ?_⟩
  conv => whnf
  repeat (first | (refine Exists.intro _ (And.intro (sload_all rfl (by first | rfl | (simp [hxl]; omega))) ?_); conv => whnf) | fail)
  refine ok1_callF [0, 1, 2] [false, false, false] true (hO _ _ _) rfl rfl ⟨⟨rfl, by first | ((repeat' (first | exact ren_m8 rfl | exact rfl | (refine wk_agg ?_) | (refine wk_cons ?_ ?_))); done) | fail⟩, by (repeat' (first | exact trivial | refine And.intro ?_ ?_)) <;> first | exact ren_eq (by first | (simp; done) | fail) (by first | rfl | fail) | fail, by first | rfl | fail, by first | rfl | fail, ?_⟩
  conv => whnf
  repeat (first | (refine Exists.intro _ (And.intro (bytesOf_cut rfl) ?_); conv => whnf) | (refine Exists.intro _ (And.intro rfl ?_); conv => whnf) | (refine And.intro (by first | omega | (simp; omega) | fail) ?_; conv => whnf) | fail)
  refine ok1_callF [4, 2] [false, false, true] false (hR _ _) rfl rfl ⟨⟨rfl, by first | rfl | fail⟩, by (repeat' (first | exact trivial | refine And.intro ?_ ?_)) <;> first | exact ren_eq (by first | (simp; done) | fail) (by first | rfl | fail) | fail, by first | simp [plainHf, plainB], by first | rfl | fail, ?_⟩
  conv => whnf
  repeat (first | (refine Exists.intro _ (And.intro (bytesOf_cut rfl) ?_); conv => whnf) | (refine brT rfl ?_; conv => whnf) | (refine brF rfl ?_; conv => whnf) | (refine gdF hne ?_; conv => whnf) | (refine Exists.intro _ (And.intro rfl ?_); conv => whnf) | (refine And.intro (by first | omega | (simp; omega) | fail) ?_; conv => whnf) | (refine And.intro (by kernel_rfl) ?_; conv => whnf) | fail)
  refine ok1_callF [0] [false, true, true] false (h64 _) rfl rfl ⟨⟨rfl, by first | rfl | fail⟩, by (repeat' (first | exact trivial | refine And.intro ?_ ?_)) <;> first | exact ren_eq (by first | (simp; done) | fail) (by first | rfl | fail) | fail, by first | simp [plainHf, plainB], by first | rfl | fail, ?_⟩
  conv => whnf
  repeat (first | (refine Exists.intro _ (And.intro (sload_all rfl (by first | rfl | fail)) ?_); conv => whnf) | (refine Exists.intro _ (And.intro (sput_all rfl (by first | rfl | fail)) ?_); conv => whnf) | (refine Exists.intro _ (And.intro rfl ?_); conv => whnf) | (refine And.intro (by first | omega | (simp; done) | (simp; omega) | fail) ?_; conv => whnf) | fail)
  refine ok1_callF [8, 9, 3, 1, 2] [false, false, false, false, false] true (h65 _ _ _ _ _) rfl rfl ⟨⟨rfl, by first | rfl | fail⟩, by (repeat' (first | exact trivial | refine And.intro ?_ ?_)) <;> first | exact ren_eq (by first | (simp; done) | fail) (by first | rfl | fail) | fail, by first | rfl | fail, by first | rfl | fail, ?_⟩
  conv => whnf
  repeat (first | (refine Exists.intro _ (And.intro (bytesOf_cut rfl) ?_); conv => whnf) | (refine Exists.intro _ (And.intro (sload_all rfl (by first | rfl | fail)) ?_); conv => whnf) | (refine Exists.intro _ (And.intro rfl ?_); conv => whnf) | (refine And.intro (by first | omega | (simp; omega) | fail) ?_; conv => whnf) | (refine And.intro (by kernel_rfl) ?_; conv => whnf) | fail)
  refine ok1_callF [8, 9, 3, 1, 2] [false, false, false, false, false, true] false (h66 _ _ _ _ _) rfl rfl ⟨⟨rfl, by first | rfl | fail⟩, by (repeat' (first | exact trivial | refine And.intro ?_ ?_)) <;> first | exact ren_eq (by first | (simp; done) | fail) (by first | rfl | fail) | fail, by first | simp [plainHf, plainB], by first | rfl | fail, ?_⟩
  conv => whnf
  repeat (first | (refine Exists.intro _ (And.intro (bytesOf_cut rfl) ?_); conv => whnf) | (refine brT rfl ?_; conv => whnf) | (refine gdT rfl ?_; conv => whnf) | (refine gdT heS ?_; conv => whnf) | (refine pkT heS ?_; conv => whnf) | (refine Exists.intro _ (And.intro rfl ?_); conv => whnf) | (refine And.intro (by first | omega | (simp; omega) | fail) ?_; conv => whnf) | (refine And.intro (by kernel_rfl) ?_; conv => whnf) | fail)
  refine ⟨[0, 1, 2], ?_, rfl, rfl, ?_, rfl⟩
  · (repeat' (fail)) <;> first | rfl | fail
  · (repeat' (first | exact trivial | refine And.intro ?_ ?_ | fail)) <;> first | exact ren_eq (by first | (simp; done) | fail) (by first | rfl | fail) | fail
theorem f13b_8 (key nonce aad text h : List UInt8) (hk : key.length = 32) (hn : nonce.length = 12) (hh : h.length = 16) (ha : aad.length ≤ 400) (ht : text.length ≤ 400)
    (hs : 16 ≤ text.length) (hok : openOk (wSt key 8 60) 14 nonce aad text = false) :
    SCall Try.prog 13 [.sl 0 0 32 1 false, .agg (nonce.map .u8), .sl 1 0 aad.length 1 false, .sl 2 0 text.length 1 false, .agg (h.map .u8)] [some (.ro (key.map .u8)), some (.ro (aad.map .u8)), some (.ro (text.map .u8))] (.b true) [some (.ro (key.map .u8)), some (.ro (aad.map .u8)), some (.ro (text.map .u8))] := by
  have g1 : decide ((aad.length : Int) > 400) = false := by simp; omega
  have g2 : decide ((text.length : Int) > 400) = false := by simp; omega
  have hS := fun f0 f1 f2 => f61_8 key nonce aad text aad text hk hn (by simp) (by simp) (by omega) (by omega) (by omega) (by omega) f0 f1 f2
  have hwl := wSt_8 key
  have h66 := fun a1 a2 a3 a4 a5 => f66 a1 a2 a3 a4 a5 (wSt key 8 60) nonce aad text aad text 0 0 (by simp) (by omega) (by simp) (by omega) 14 hwl (by omega) (by omega) hn (by omega) (by omega)
  have h64 := fun f => f64_8 key hk f
  have hO := fun f0 f1 f2 => f62b_8 key nonce aad text aad text hk hs hn (by simp) (by simp) (by omega) (by omega) (by omega) (by omega) hok f0 f1 f2
  have h65 := fun a1 a2 a3 a4 a5 => f65b a1 a2 a3 a4 a5 (wSt key 8 60) nonce aad text aad text 0 0 (by simp) (by omega) (by simp) (by omega) 14 hwl (by omega) (by omega) hn (by omega) (by omega) hs hok
  obtain ⟨w, hw⟩ : ∃ w, w = wSt key 8 60 := ⟨_, rfl⟩
  have hSl := sealL_len w 14 nonce aad text
  have hXl := openL_len w 14 nonce text
  rw [← hw] at hS h66 h64 h65
  obtain ⟨S, hSd⟩ : ∃ S, S = sealL w 14 nonce aad text := ⟨_, rfl⟩
  obtain ⟨X, hXd⟩ : ∃ X, X = openL w 14 nonce text := ⟨_, rfl⟩
  rw [← hSd] at hS h66 hSl
  rw [← hXd] at hXl
  have hH := fun f => f60 h text text 0 f hh (by simp) (by omega) (by omega)
  have hR := fun f1 f2 => f63 f1 f2 h text hh (by omega)
  obtain ⟨x, hx⟩ : ∃ x, x = hashL h text := ⟨_, rfl⟩
  have hxl : x.length = 16 := by rw [hx]; exact hashL_len ..
  rw [← hx] at hH hR
  have hne : (!List.take 16 (List.drop 0 x) == List.take 16 (List.drop 0 x)) = false := by simp
  have heS : (List.take (text.length + 16) (List.drop 0 S) == List.take (text.length + 16) (List.drop 0 S)) = true := by simp
  have heX : (List.take (cutN text) (List.drop 0 X) == List.take (cutN text) (List.drop 0 X)) = true := by simp
  refine scall_of ttOk (by kernel_rfl : Try.prog.funcs[13]? = some Try.f13) rfl rfl rfl ?_
  try simp only [List.length_cons, List.length_nil, Nat.zero_add, Nat.reduceAdd]
  refine sw_ok ttOk mixed (by kernel_rfl) ?_
  conv => whnf
  repeat (fail)
  refine ok1_callF [] [] true (f59) rfl rfl ⟨⟨rfl, by first | rfl | fail⟩, trivial, by first | rfl | fail, by first | rfl | fail, ?_⟩
  conv => whnf
  repeat (first | (refine brF rfl ?_; conv => whnf) | (refine Exists.intro _ (And.intro (sload_all rfl (by first | rfl | (simp; omega))) ?_); conv => whnf) | (refine gdT g1 ?_; conv => whnf) | (refine pkF g1 ?_; conv => whnf) | (refine gdF g2 ?_; conv => whnf) | fail)
  refine ok1_callF [2] [false] true (hH _) rfl rfl ⟨⟨rfl, by first | ((repeat' (first | exact ren_m8 rfl | exact rfl | (refine wk_agg ?_) | (refine wk_cons ?_ ?_))); done) | fail⟩, by (repeat' (first | exact trivial | refine And.intro ?_ ?_)) <;> first | exact ren_eq (by first | (simp; done) | fail) (by first | rfl | fail) | fail, by first | rfl | fail, by first | simp [plainRf, plainR, plainT, plainW], ?_⟩
  conv => whnf
  repeat (first | (refine Exists.intro _ (And.intro (sload_all rfl (by first | rfl | (simp [hxl]; omega))) ?_); conv => whnf) | (refine Exists.intro _ (And.intro (sput_all rfl (by first | rfl | (simp [hxl]; done) | fail)) ?_); conv => whnf) | (refine And.intro (by first | omega | (simp; omega) | fail) ?_; conv => whnf) | fail)
  refine ok1_callF [0, 1, 2] [false, false, false, true] false (hS _ _ _) rfl rfl ⟨⟨rfl, by first | ((repeat' (first | exact ren_m8 rfl | exact rfl | (refine wk_agg ?_) | (refine wk_cons ?_ ?_))); done) | fail⟩, by (repeat' (first | exact trivial | refine And.intro ?_ ?_)) <;> first | exact ren_eq (by first | (simp; done) | fail) (by first | rfl | fail) | fail, by first | simp [plainHf, plainB], by first | rfl | fail, ?_⟩
  conv => whnf
  repeat (first | (refine Exists.intro _ (And.intro (sload_all rfl (by first | rfl | (simp [hxl]; omega))) ?_); conv => whnf) | fail)
  refine ok1_callF [0, 1, 2] [false, false, false] true (hO _ _ _) rfl rfl ⟨⟨rfl, by first | ((repeat' (first | exact ren_m8 rfl | exact rfl | (refine wk_agg ?_) | (refine wk_cons ?_ ?_))); done) | fail⟩, by (repeat' (first | exact trivial | refine And.intro ?_ ?_)) <;> first | exact ren_eq (by first | (simp; done) | fail) (by first | rfl | fail) | fail, by first | rfl | fail, by first | rfl | fail, ?_⟩
  conv => whnf
  repeat (first | (refine Exists.intro _ (And.intro (bytesOf_cut rfl) ?_); conv => whnf) | (refine Exists.intro _ (And.intro rfl ?_); conv => whnf) | (refine And.intro (by first | omega | (simp; omega) | fail) ?_; conv => whnf) | fail)
  refine ok1_callF [4, 2] [false, false, true] false (hR _ _) rfl rfl ⟨⟨rfl, by first | rfl | fail⟩, by (repeat' (first | exact trivial | refine And.intro ?_ ?_)) <;> first | exact ren_eq (by first | (simp; done) | fail) (by first | rfl | fail) | fail, by first | simp [plainHf, plainB], by first | rfl | fail, ?_⟩
  conv => whnf
  repeat (first | (refine Exists.intro _ (And.intro (bytesOf_cut rfl) ?_); conv => whnf) | (refine brT rfl ?_; conv => whnf) | (refine brF rfl ?_; conv => whnf) | (refine gdF hne ?_; conv => whnf) | (refine Exists.intro _ (And.intro rfl ?_); conv => whnf) | (refine And.intro (by first | omega | (simp; omega) | fail) ?_; conv => whnf) | (refine And.intro (by kernel_rfl) ?_; conv => whnf) | fail)
  refine ok1_callF [0] [false, true, true] false (h64 _) rfl rfl ⟨⟨rfl, by first | rfl | fail⟩, by (repeat' (first | exact trivial | refine And.intro ?_ ?_)) <;> first | exact ren_eq (by first | (simp; done) | fail) (by first | rfl | fail) | fail, by first | simp [plainHf, plainB], by first | rfl | fail, ?_⟩
  conv => whnf
  repeat (first | (refine Exists.intro _ (And.intro (sload_all rfl (by first | rfl | fail)) ?_); conv => whnf) | (refine Exists.intro _ (And.intro (sput_all rfl (by first | rfl | fail)) ?_); conv => whnf) | (refine Exists.intro _ (And.intro rfl ?_); conv => whnf) | (refine And.intro (by first | omega | (simp; done) | (simp; omega) | fail) ?_; conv => whnf) | fail)
  refine ok1_callF [8, 9, 3, 1, 2] [false, false, false, false, false] true (h65 _ _ _ _ _) rfl rfl ⟨⟨rfl, by first | rfl | fail⟩, by (repeat' (first | exact trivial | refine And.intro ?_ ?_)) <;> first | exact ren_eq (by first | (simp; done) | fail) (by first | rfl | fail) | fail, by first | rfl | fail, by first | rfl | fail, ?_⟩
  conv => whnf
  repeat (first | (refine Exists.intro _ (And.intro (bytesOf_cut rfl) ?_); conv => whnf) | (refine Exists.intro _ (And.intro (sload_all rfl (by first | rfl | fail)) ?_); conv => whnf) | (refine Exists.intro _ (And.intro rfl ?_); conv => whnf) | (refine And.intro (by first | omega | (simp; omega) | fail) ?_; conv => whnf) | (refine And.intro (by kernel_rfl) ?_; conv => whnf) | fail)
  refine ok1_callF [8, 9, 3, 1, 2] [false, false, false, false, false, true] false (h66 _ _ _ _ _) rfl rfl ⟨⟨rfl, by first | rfl | fail⟩, by (repeat' (first | exact trivial | refine And.intro ?_ ?_)) <;> first | exact ren_eq (by first | (simp; done) | fail) (by first | rfl | fail) | fail, by first | simp [plainHf, plainB], by first | rfl | fail, ?_⟩
  conv => whnf
  repeat (first | (refine Exists.intro _ (And.intro (bytesOf_cut rfl) ?_); conv => whnf) | (refine brT rfl ?_; conv => whnf) | (refine gdT rfl ?_; conv => whnf) | (refine gdT heS ?_; conv => whnf) | (refine pkT heS ?_; conv => whnf) | (refine Exists.intro _ (And.intro rfl ?_); conv => whnf) | (refine And.intro (by first | omega | (simp; omega) | fail) ?_; conv => whnf) | (refine And.intro (by kernel_rfl) ?_; conv => whnf) | fail)
  refine ⟨[0, 1, 2], ?_, rfl, rfl, ?_, rfl⟩
  · (repeat' (fail)) <;> first | rfl | fail
  · (repeat' (first | exact trivial | refine And.intro ?_ ?_ | fail)) <;> first | exact ren_eq (by first | (simp; done) | fail) (by first | rfl | fail) | fail
theorem f13o_8 (key nonce aad text h : List UInt8) (hk : key.length = 32) (hn : nonce.length = 12) (hh : h.length = 16) (ha : aad.length ≤ 400) (ht : text.length ≤ 400)
    (hs : 16 ≤ text.length) (hok : openOk (wSt key 8 60) 14 nonce aad text = true) :
    SCall Try.prog 13 [.sl 0 0 32 1 false, .agg (nonce.map .u8), .sl 1 0 aad.length 1 false, .sl 2 0 text.length 1 false, .agg (h.map .u8)] [some (.ro (key.map .u8)), some (.ro (aad.map .u8)), some (.ro (text.map .u8))] (.b true) [some (.ro (key.map .u8)), some (.ro (aad.map .u8)), some (.ro (text.map .u8))] := by
  have g1 : decide ((aad.length : Int) > 400) = false := by simp; omega
  have g2 : decide ((text.length : Int) > 400) = false := by simp; omega
  have hS := fun f0 f1 f2 => f61_8 key nonce aad text aad text hk hn (by simp) (by simp) (by omega) (by omega) (by omega) (by omega) f0 f1 f2
  have hwl := wSt_8 key
  have h66 := fun a1 a2 a3 a4 a5 => f66 a1 a2 a3 a4 a5 (wSt key 8 60) nonce aad text aad text 0 0 (by simp) (by omega) (by simp) (by omega) 14 hwl (by omega) (by omega) hn (by omega) (by omega)
  have h64 := fun f => f64_8 key hk f
  have hO := fun f0 f1 f2 => f62o_8 key nonce aad text aad text hk hs hn (by simp) (by simp) (by omega) (by omega) (by omega) (by omega) hok f0 f1 f2
  have h65 := fun a1 a2 a3 a4 a5 => f65o a1 a2 a3 a4 a5 (wSt key 8 60) nonce aad text aad text 0 0 (by simp) (by omega) (by simp) (by omega) 14 hwl (by omega) (by omega) hn (by omega) (by omega) hs hok
  obtain ⟨w, hw⟩ : ∃ w, w = wSt key 8 60 := ⟨_, rfl⟩
  have hSl := sealL_len w 14 nonce aad text
  have hXl := openL_len w 14 nonce text
  rw [← hw] at hS h66 h64 h65
  rw [← hw] at hO
  obtain ⟨S, hSd⟩ : ∃ S, S = sealL w 14 nonce aad text := ⟨_, rfl⟩
  obtain ⟨X, hXd⟩ : ∃ X, X = openL w 14 nonce text := ⟨_, rfl⟩
  rw [← hSd] at hS h66 hSl
  rw [← hXd] at hXl
  rw [← hXd] at hO h65
  have hH := fun f => f60 h text text 0 f hh (by simp) (by omega) (by omega)
  have hR := fun f1 f2 => f63 f1 f2 h text hh (by omega)
  obtain ⟨x, hx⟩ : ∃ x, x = hashL h text := ⟨_, rfl⟩
  have hxl : x.length = 16 := by rw [hx]; exact hashL_len ..
  rw [← hx] at hH hR
  have hne : (!List.take 16 (List.drop 0 x) == List.take 16 (List.drop 0 x)) = false := by simp
  have heS : (List.take (text.length + 16) (List.drop 0 S) == List.take (text.length + 16) (List.drop 0 S)) = true := by simp
  have heX : (List.take (cutN text) (List.drop 0 X) == List.take (cutN text) (List.drop 0 X)) = true := by simp
  refine scall_of ttOk (by kernel_rfl : Try.prog.funcs[13]? = some Try.f13) rfl rfl rfl ?_
  try simp only [List.length_cons, List.length_nil, Nat.zero_add, Nat.reduceAdd]
  refine sw_ok ttOk mixed (by kernel_rfl) ?_
  conv => whnf
  repeat (fail)
  refine ok1_callF [] [] true (f59) rfl rfl ⟨⟨rfl, by first | rfl | fail⟩, trivial, by first | rfl | fail, by first | rfl | fail, ?_⟩
  conv => whnf
  repeat (first | (refine brF rfl ?_; conv => whnf) | (refine Exists.intro _ (And.intro (sload_all rfl (by first | rfl | (simp; omega))) ?_); conv => whnf) | (refine gdT g1 ?_; conv => whnf) | (refine pkF g1 ?_; conv => whnf) | (refine gdF g2 ?_; conv => whnf) | fail)
  refine ok1_callF [2] [false] true (hH _) rfl rfl ⟨⟨rfl, by first | ((repeat' (first | exact ren_m8 rfl | exact rfl | (refine wk_agg ?_) | (refine wk_cons ?_ ?_))); done) | fail⟩, by (repeat' (first | exact trivial | refine And.intro ?_ ?_)) <;> first | exact ren_eq (by first | (simp; done) | fail) (by first | rfl | fail) | fail, by first | rfl | fail, by first | simp [plainRf, plainR, plainT, plainW], ?_⟩
  conv => whnf
  repeat (first | (refine Exists.intro _ (And.intro (sload_all rfl (by first | rfl | (simp [hxl]; omega))) ?_); conv => whnf) | (refine Exists.intro _ (And.intro (sput_all rfl (by first | rfl | (simp [hxl]; done) | fail)) ?_); conv => whnf) | (refine And.intro (by first | omega | (simp; omega) | fail) ?_; conv => whnf) | fail)
  refine ok1_callF [0, 1, 2] [false, false, false, true] false (hS _ _ _) rfl rfl ⟨⟨rfl, by first | ((repeat' (first | exact ren_m8 rfl | exact rfl | (refine wk_agg ?_) | (refine wk_cons ?_ ?_))); done) | fail⟩, by (repeat' (first | exact trivial | refine And.intro ?_ ?_)) <;> first | exact ren_eq (by first | (simp; done) | fail) (by first | rfl | fail) | fail, by first | simp [plainHf, plainB], by first | rfl | fail, ?_⟩
  conv => whnf
  repeat (first | (refine Exists.intro _ (And.intro (sload_all rfl (by first | rfl | (simp [hxl]; omega))) ?_); conv => whnf) | fail)
  refine ok1_callF [0, 1, 2] [false, false, false, true] false (hO _ _ _) rfl rfl ⟨⟨rfl, by first | ((repeat' (first | exact ren_m8 rfl | exact rfl | (refine wk_agg ?_) | (refine wk_cons ?_ ?_))); done) | fail⟩, by (repeat' (first | exact trivial | refine And.intro ?_ ?_)) <;> first | exact ren_eq (by first | (simp; done) | fail) (by first | rfl | fail) | fail, by first | simp [plainHf, plainB], by first | rfl | fail, ?_⟩
  conv => whnf
  repeat (first | (refine Exists.intro _ (And.intro (bytesOf_cut rfl) ?_); conv => whnf) | (refine Exists.intro _ (And.intro rfl ?_); conv => whnf) | (refine And.intro (by first | omega | (simp; omega) | fail) ?_; conv => whnf) | fail)
  refine ok1_callF [4, 2] [false, false, true] false (hR _ _) rfl rfl ⟨⟨rfl, by first | rfl | fail⟩, by (repeat' (first | exact trivial | refine And.intro ?_ ?_)) <;> first | exact ren_eq (by first | (simp; done) | fail) (by first | rfl | fail) | fail, by first | simp [plainHf, plainB], by first | rfl | fail, ?_⟩
  conv => whnf
  repeat (first | (refine Exists.intro _ (And.intro (bytesOf_cut rfl) ?_); conv => whnf) | (refine brT rfl ?_; conv => whnf) | (refine brF rfl ?_; conv => whnf) | (refine gdF hne ?_; conv => whnf) | (refine Exists.intro _ (And.intro rfl ?_); conv => whnf) | (refine And.intro (by first | omega | (simp; omega) | fail) ?_; conv => whnf) | (refine And.intro (by kernel_rfl) ?_; conv => whnf) | fail)
  refine ok1_callF [0] [false, true, true] false (h64 _) rfl rfl ⟨⟨rfl, by first | rfl | fail⟩, by (repeat' (first | exact trivial | refine And.intro ?_ ?_)) <;> first | exact ren_eq (by first | (simp; done) | fail) (by first | rfl | fail) | fail, by first | simp [plainHf, plainB], by first | rfl | fail, ?_⟩
  conv => whnf
  repeat (first | (refine Exists.intro _ (And.intro (sload_all rfl (by first | rfl | fail)) ?_); conv => whnf) | (refine Exists.intro _ (And.intro (sput_all rfl (by first | rfl | fail)) ?_); conv => whnf) | (refine Exists.intro _ (And.intro rfl ?_); conv => whnf) | (refine And.intro (by first | omega | (simp; done) | (simp; omega) | fail) ?_; conv => whnf) | fail)
  refine ok1_callF [9, 10, 3, 1, 2] [false, false, false, false, false, true] false (h65 _ _ _ _ _) rfl rfl ⟨⟨rfl, by first | rfl | fail⟩, by (repeat' (first | exact trivial | refine And.intro ?_ ?_)) <;> first | exact ren_eq (by first | (simp; done) | fail) (by first | rfl | fail) | fail, by first | simp [plainHf, plainB], by first | rfl | fail, ?_⟩
  conv => whnf
  repeat (first | (refine Exists.intro _ (And.intro (bytesOf_cut rfl) ?_); conv => whnf) | (refine Exists.intro _ (And.intro (sload_all rfl (by first | rfl | fail)) ?_); conv => whnf) | (refine Exists.intro _ (And.intro rfl ?_); conv => whnf) | (refine And.intro (by first | omega | (simp; omega) | fail) ?_; conv => whnf) | (refine And.intro (by kernel_rfl) ?_; conv => whnf) | fail)
  refine ok1_callF [9, 10, 3, 1, 2] [false, false, false, false, false, true] false (h66 _ _ _ _ _) rfl rfl ⟨⟨rfl, by first | rfl | fail⟩, by (repeat' (first | exact trivial | refine And.intro ?_ ?_)) <;> first | exact ren_eq (by first | (simp; done) | fail) (by first | rfl | fail) | fail, by first | simp [plainHf, plainB], by first | rfl | fail, ?_⟩
  conv => whnf
  repeat (first | (refine Exists.intro _ (And.intro (bytesOf_cut rfl) ?_); conv => whnf) | (refine brT rfl ?_; conv => whnf) | (refine gdF rfl ?_; conv => whnf) | (refine gdT heS ?_; conv => whnf) | (refine pkT heS ?_; conv => whnf) | (refine gdT heX ?_; conv => whnf) | (refine pkT heX ?_; conv => whnf) | (refine Exists.intro _ (And.intro rfl ?_); conv => whnf) | (refine And.intro (by first | omega | (simp; omega) | fail) ?_; conv => whnf) | (refine And.intro (by kernel_rfl) ?_; conv => whnf) | fail)
  refine ⟨[0, 1, 2], ?_, rfl, rfl, ?_, rfl⟩
  · (repeat' (fail)) <;> first | rfl | fail
  · (repeat' (first | exact trivial | refine And.intro ?_ ?_ | fail)) <;> first | exact ren_eq (by first | (simp; done) | fail) (by first | rfl | fail) | fail
theorem f13 (key nonce aad text h : List UInt8) (hn : nonce.length = 12) (hh : h.length = 16) :
    SCall Try.prog 13 [.sl 0 0 key.length 1 false, .agg (nonce.map .u8), .sl 1 0 aad.length 1 false, .sl 2 0 text.length 1 false, .agg (h.map .u8)] [some (.ro (key.map .u8)), some (.ro (aad.map .u8)), some (.ro (text.map .u8))] (.b true) [some (.ro (key.map .u8)), some (.ro (aad.map .u8)), some (.ro (text.map .u8))] := by
  by_cases hx : aad.length > 400 ∨ text.length > 400
  · exact f13x key nonce aad text h hn hh hx
  · by_cases k1 : key.length = 16
    · by_cases hs : text.length < 16
      · have := f13s_4 key nonce aad text h k1 hn hh (by omega) (by omega) hs
        rw [← k1] at this; exact this
      · cases hok : openOk (wSt key 4 44) 10 nonce aad text with
        | false =>
          have := f13b_4 key nonce aad text h k1 hn hh (by omega) (by omega) (by omega) hok
          rw [← k1] at this; exact this
        | true =>
          have := f13o_4 key nonce aad text h k1 hn hh (by omega) (by omega) (by omega) hok
          rw [← k1] at this; exact this
    · by_cases k2 : key.length = 32
      · by_cases hs : text.length < 16
        · have := f13s_8 key nonce aad text h k2 hn hh (by omega) (by omega) hs
          rw [← k2] at this; exact this
        · cases hok : openOk (wSt key 8 60) 14 nonce aad text with
          | false =>
            have := f13b_8 key nonce aad text h k2 hn hh (by omega) (by omega) (by omega) hok
            rw [← k2] at this; exact this
          | true =>
            have := f13o_8 key nonce aad text h k2 hn hh (by omega) (by omega) (by omega) hok
            rw [← k2] at this; exact this
      · exact f13k key nonce aad text h hn hh (by omega) (by omega) k1 k2
end Go.Sh
