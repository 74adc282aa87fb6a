/- aes's reference: Columns (f50). -/
import Derived.Test.YtaknbogocnkmnaaE5
import Derived.Test.YtaknbogocnkmnaaE9a
namespace Go.Sh
open Go.Proofs
set_option maxHeartbeats 8000000
set_option linter.unusedSimpArgs false

theorem app_one {l : List UInt8} {n : Nat} {y : UInt8} (h : l.length = n) : List.take (n * 1) (List.drop 0 (l.map SV.u8)) ++ List.take (1 * 1) (List.drop 0 [SV.u8 y]) = (l ++ [y]).map SV.u8 := by
  rw [List.drop_zero, List.take_of_length_le (by simp; omega)]; simp
/-- The reference's next column's first part. -/
def tK (key : List UInt8) (n i : Nat) : List UInt8 :=
  if i % n = 0 then rotC (pwN ((i - 1) / n)) (colN (wSt key n i) (i - 1)) else if n = 8 ∧ i % n = 4 then subC (colN (wSt key n i) (i - 1)) else colN (wSt key n i) (i - 1)
theorem tK_len (key : List UInt8) (n i : Nat) : (tK key n i).length = 4 := by
  unfold tK
  split
  · rfl
  · split <;> rfl
def xK (key : List UInt8) (n i : Nat) (k : Nat) : UInt8 := (tK key n i).getD k 0 ^^^ (wSt key n i).getD (4 * (i - n) + k) 0
def wK (key : List UInt8) (n i k : Nat) : List UInt8 := wSt key n i ++ (List.range k).map (xK key n i)
theorem wK_len (key : List UInt8) (n i k : Nat) : (wK key n i k).length = 4 * i + k := by unfold wK; rw [List.length_append, wSt_len, rng_len]
theorem wK_s (key : List UInt8) (n i k : Nat) : wK key n i k ++ [xK key n i k] = wK key n i (k + 1) := by unfold wK; rw [rng_succ, List.append_assoc]
theorem wK_4 (key : List UInt8) (n i : Nat) (h : n ≤ i) : wK key n i 4 = wSt key n (i + 1) := by
  rw [wSt_s]
  unfold wK kcol
  rw [if_neg (by omega)]
  have : (List.range 4).map (xK key n i) = xor4 (tK key n i) (colN (wSt key n i) (i - n)) := by
    have ht := tK_len key n i
    obtain ⟨a, b, c, d, h4⟩ := ex4 ht
    have hr : List.range 4 = [0, 1, 2, 3] := by decide
    rw [hr]
    simp only [List.map_cons, List.map_nil, xK, h4, xor4, colN]
    rfl
  rw [this]
  rfl
theorem wK_getD (key : List UInt8) (n i k j : Nat) (h : j < 4 * i) : (wK key n i k).getD j 0 = (wSt key n i).getD j 0 := by
  unfold wK; rw [getD_app_l]; rw [wSt_len]; exact h
theorem colN_key (key : List UInt8) (i : Nat) (h : 4 * i + 4 ≤ key.length) : key.take (4 * i) ++ colN key i = key.take (4 * (i + 1)) := by
  apply List.ext_getElem?
  intro j
  by_cases h1 : j < 4 * i
  · rw [List.getElem?_append_left (by simp; omega), List.getElem?_take_of_lt h1, List.getElem?_take_of_lt (by omega)]
  · rw [List.getElem?_append_right (by simp; omega)]
    have hl : (key.take (4 * i)).length = 4 * i := by simp; omega
    rw [hl]
    by_cases h2 : j < 4 * (i + 1)
    · rw [List.getElem?_take_of_lt h2]
      have : j = 4 * i + 0 ∨ j = 4 * i + 1 ∨ j = 4 * i + 2 ∨ j = 4 * i + 3 := by omega
      have e : ∀ q, q < 4 → key[4 * i + q]? = some (key.getD (4 * i + q) 0) := fun q hq => by
        rw [List.getD_eq_getElem?_getD, List.getElem?_eq_getElem (by omega)]; rfl
      rcases this with rfl | rfl | rfl | rfl
      · rw [e 0 (by omega), show 4 * i + 0 - 4 * i = 0 by omega]; rfl
      · rw [e 1 (by omega), show 4 * i + 1 - 4 * i = 1 by omega]; rfl
      · rw [e 2 (by omega), show 4 * i + 2 - 4 * i = 2 by omega]; rfl
      · rw [e 3 (by omega), show 4 * i + 3 - 4 * i = 3 by omega]; rfl
    · rw [List.getElem?_eq_none (by simp [colN]; omega), List.getElem?_eq_none (by simp; omega)]
theorem wSt_key (key : List UInt8) (n : Nat) (h : key.length = 4 * n) : ∀ i, i ≤ n → wSt key n i = key.take (4 * i)
  | 0, _ => by rw [wSt_z]; rfl
  | i + 1, hi => by
    rw [wSt_s, wSt_key key n h i (by omega)]
    unfold kcol
    rw [if_pos (by omega)]
    exact colN_key key i (by omega)
theorem wSt_key' (key : List UInt8) (n : Nat) (h : key.length = 4 * n) : wSt key n n = key := by
  rw [wSt_key key n h n (Nat.le_refl _), ← h, List.take_length]
theorem cut_col {l : List UInt8} {a b : Nat} (i : Nat) (ha : a = 4 * i) (hb : b = 4) (h : 4 * i + 4 ≤ l.length) : List.take b (List.drop a (l.map SV.u8)) = (colN l i).map SV.u8 := by
  subst ha; subst hb
  have := sload_col (l := l) (k := 4 * i) rfl h
  simp only [sload, if_true] at this
  rw [if_pos (by simpa using h)] at this
  simp only [Option.some.injEq, SV.agg.injEq] at this
  rw [this]; rfl
theorem w10_4 (i n k : Nat) (h : i ≤ 1000) (hn : n ≤ i) (hk : k ≤ 4) : w64 (w64 (4 * w64 ((i : Int) - (n : Int))) + (k : Int)) = ((4 * (i - n) + k : Nat) : Int) := by simp only [w64_eq]; omega
theorem w10_44 (i : Nat) (h : i ≤ 1000) (hn : 1 ≤ i) : w64 (w64 (4 * (i : Int)) - 4) = ((4 * i - 4 : Nat) : Int) := by simp only [w64_eq]; omega

theorem f50_4 (fb fk : Bool) (key : List UInt8) (hk : key.length = 16) : SCall Try.prog 50 [.sl 0 0 256 1 fb, .sl 1 0 16 1 fk] [some (.ro (sbx.map .u8)), some (.ro (key.map .u8))] (.sl 2 0 (4 * 44) 1 false) [some (.ro (sbx.map .u8)), some (.ro (key.map .u8)), some (.row 5 ((wSt key 4 44).map .u8))] := by
  have hl := sbx_len
  refine scall_of ttOk (by kernel_rfl : Try.prog.funcs[50]? = some Try.f50) rfl rfl rfl ?_
  refine sw_ok ttOk mixed (by kernel_rfl) ?_
  conv => whnf
  repeat (first | (refine Exists.intro _ (And.intro rfl ?_); conv => whnf) | (refine And.intro (by first | omega | (simp [ti5]; omega)) ?_; conv => whnf) | fail)
  refine loop_rule ttOk mixed (by kernel_rfl) (ι := { i : Nat // 4 ≤ i ∧ i ≤ 44 }) (fun i => [(0, .sl 0 0 256 1 fb), (1, .sl 1 0 16 1 fk), (5, .i 4), (6, .sl 2 0 (4 * i.1) 1 false), (7, .u8 (pwN ((i.1 - 1) / 4))), (8, .i (i.1 : Int))]) (fun i => [some (.ro (sbx.map .u8)), some (.ro (key.map .u8)), some (.row 5 ((wSt key 4 i.1).map .u8))]) (fun _ => 3) (fun i => 44 - i.1) ⟨4, by omega, by omega⟩ ?_ ?_
  · have hk0 : (wSt key 4 4).map SV.u8 = List.take 16 (List.drop 0 (key.map SV.u8)) := by
      rw [wSt_key' key 4 (by omega), List.drop_zero, List.take_of_length_le (by simp; omega)]
    refine Weak.sel [0, 1, 3] rfl rfl ?_ ?_ rfl rfl
    · (repeat' (first | exact trivial | refine And.intro ?_ ?_ | fail)) <;> first | rfl | exact wk_u8 (by first | (simp [hk0, pwN]; done) | fail) | fail
    · (repeat' (first | exact trivial | refine And.intro ?_ ?_ | fail)) <;> first | rfl | exact ren_eq (by first | (simp; done) | fail) (by first | rfl | exact hk0 | fail) | fail
  · rintro ⟨i, hi1, hi⟩
    have hwl := wSt_len key 4 i
    dsimp only
    by_cases hi2 : i < 44
    · have hlt : decide ((i : Int) < w64 (4 * w64 (4 + 7))) = true := by rw [show w64 (4 * w64 (4 + 7)) = 44 by decide]; simp; omega
      have hp1 := w6_p1 i (by omega)
      have h4 := w64_4 i (by omega)
      have h44 := w10_44 i (by omega) (by omega)
      have htm : ((i : Int)).tmod 4 = ((i % 4 : Nat) : Int) := tmod_n i 4
      have htl := tK_len key 4 i
      have hw0 : wK key 4 i 0 = wSt key 4 i := by unfold wK; simp
      conv => whnf
      first | refine brT (by exact hlt) ?_ | fail
      conv => whnf
      repeat (first | (refine Exists.intro _ (And.intro (idx_i (m := 4 * i - 4) (by first | rfl | omega | fail)) ?_); conv => whnf) | (refine Exists.intro _ (And.intro (idx_i (m := 4 * i) (by first | rfl | omega | fail)) ?_); conv => whnf) | (refine Exists.intro _ (And.intro rfl ?_); conv => whnf) | (refine And.intro (by first | omega | (simp [ti5]; omega)) ?_; conv => whnf) | fail)
      have hcut : List.take (0 * ti5.sz) (List.drop 0 (SB.row 5 (reps 0 (SV.u8 0).cells)).cells) ++ List.take ((4 * i - (4 * i - 4)) * ti5.sz) (List.drop (0 + (4 * i - 4) * 1) (SB.row 5 (List.map SV.u8 (wSt key 4 i))).cells) = (colN (wSt key 4 i) (i - 1)).map SV.u8 := cut_col (i - 1) (by omega) (show (4 * i - (4 * i - 4)) * 1 = 4 by omega) (by omega)
      rw [hcut]
      have hcl : (colN (wSt key 4 i) (i - 1)).length = 4 := rfl
      have hb0 : ((colN (wSt key 4 i) (i - 1)).getD 0 0).toNat < 256 := UInt8.toNat_lt _
      have hb1 : ((colN (wSt key 4 i) (i - 1)).getD 1 0).toNat < 256 := UInt8.toNat_lt _
      have hb2 : ((colN (wSt key 4 i) (i - 1)).getD 2 0).toNat < 256 := UInt8.toNat_lt _
      have hb3 : ((colN (wSt key 4 i) (i - 1)).getD 3 0).toNat < 256 := UInt8.toNat_lt _
      by_cases hz : i % 4 = 0
      · have hm : ((i : Int).tmod 4 == 0) = true := by rw [htm, hz]; rfl
        have hpw : pwN (i / 4) = tmSt 8 0 (pwN ((i - 1) / 4)) 2 := by
          rw [tm_2, show i / 4 = (i - 1) / 4 + 1 from by omega]; rfl
        have htk : tK key 4 i = [sb ((colN (wSt key 4 i) (i - 1)).getD 1 0) ^^^ pwN ((i - 1) / 4), sb ((colN (wSt key 4 i) (i - 1)).getD 2 0), sb ((colN (wSt key 4 i) (i - 1)).getD 3 0), sb ((colN (wSt key 4 i) (i - 1)).getD 0 0)] := by
          unfold tK; rw [if_pos hz]; rfl
        have htk2 := congrArg (List.map SV.u8) htk
        first | refine brT (by exact hm) ?_ | fail
        conv => whnf
        repeat (first | (refine Exists.intro _ (And.intro (sload_u8 (i := 1) (by first | rfl | fail) (by first | omega | fail)) ?_); conv => whnf) | (refine Exists.intro _ (And.intro (idx_i (m := 1) (by first | rfl | fail)) ?_); conv => whnf) | (refine Exists.intro _ (And.intro (sload_u8 (i := 2) (by first | rfl | fail) (by first | omega | fail)) ?_); conv => whnf) | (refine Exists.intro _ (And.intro (idx_i (m := 2) (by first | rfl | fail)) ?_); conv => whnf) | (refine Exists.intro _ (And.intro (sload_u8 (i := 3) (by first | rfl | fail) (by first | omega | fail)) ?_); conv => whnf) | (refine Exists.intro _ (And.intro (idx_i (m := 3) (by first | rfl | fail)) ?_); conv => whnf) | (refine Exists.intro _ (And.intro (sload_u8 (i := 0) (by first | rfl | fail) (by first | omega | fail)) ?_); conv => whnf) | (refine Exists.intro _ (And.intro (idx_i (m := 0) (by first | rfl | fail)) ?_); conv => whnf) | (refine Exists.intro _ (And.intro (sload_u8 (i := ((colN (wSt key 4 i) (i - 1)).getD 1 0).toNat) (by first | rfl | omega | fail) (by first | omega | fail)) ?_); conv => whnf) | (refine Exists.intro _ (And.intro (sload_u8 (i := ((colN (wSt key 4 i) (i - 1)).getD 2 0).toNat) (by first | rfl | omega | fail) (by first | omega | fail)) ?_); conv => whnf) | (refine Exists.intro _ (And.intro (sload_u8 (i := ((colN (wSt key 4 i) (i - 1)).getD 3 0).toNat) (by first | rfl | omega | fail) (by first | omega | fail)) ?_); conv => whnf) | (refine Exists.intro _ (And.intro (sload_u8 (i := ((colN (wSt key 4 i) (i - 1)).getD 0 0).toNat) (by first | rfl | omega | fail) (by first | omega | fail)) ?_); conv => whnf) | (refine Exists.intro _ (And.intro rfl ?_); conv => whnf) | (refine And.intro (by first | omega | fail) ?_; conv => whnf) | (refine And.intro (by kernel_rfl) ?_; conv => whnf) | fail)
        refine ok1_callP [] (f81 (pwN ((i - 1) / 4)) 2) rfl rfl ⟨⟨rfl, by first | rfl | fail⟩, trivial, by first | rfl | fail, ?_⟩
        conv => whnf
        repeat (fail)
        refine loop_rule ttOk mixed (by kernel_rfl) (ι := { k : Nat // k ≤ 4 }) (fun k => [(0, .sl 0 0 256 1 fb), (1, .sl 1 0 16 1 fk), (5, .i 4), (6, .sl 2 0 (4 * i + k.1) 1 false), (7, .u8 (pwN (i / 4))), (8, .i (i : Int)), (9, .sl 3 0 4 1 true), (10, .i (k.1 : Int))]) (fun k => [some (.ro (sbx.map .u8)), some (.ro (key.map .u8)), some (.row 5 ((wK key 4 i k.1).map .u8)), some (.row 5 ((tK key 4 i).map .u8))]) (fun _ => 4) (fun k => 4 - k.1) ⟨0, by omega⟩ ?_ ?_
        · refine Weak.sel [0, 1, 2, 5] rfl rfl ?_ ?_ rfl rfl
          · (repeat' (first | exact trivial | refine And.intro ?_ ?_ | fail)) <;> first | rfl | exact wk_u8 (by first | exact hpw | fail) | fail
          · (repeat' (first | exact trivial | refine And.intro ?_ ?_ | fail)) <;> first | exact ren_m8 (by first | exact hw0 | fail) | rfl | exact ren_eq (by first | (simp; done) | fail) (by first | rfl | fail) | exact ren_eq (plainL_u8 _) htk2 | fail
        · rintro ⟨k, hk⟩
          have hwk := wK_len key 4 i k
          dsimp only
          by_cases hk2 : k < 4
          · have hlt2 : decide ((k : Int) < 4) = true := by simp; omega
            have hp2 := w6_p1 k (by omega)
            have h10 := w10_4 i 4 k (by omega) (by omega) (by omega)
            have hx : (tK key 4 i).getD k 0 ^^^ (wK key 4 i k).getD (4 * (i - 4) + k) 0 = xK key 4 i k := by
              unfold xK; rw [wK_getD]; omega
            have happ : List.take ((4 * i + k) * 1) (List.drop 0 ((wK key 4 i k).map SV.u8)) ++ List.take (1 * 1) (List.drop 0 [SV.u8 ((tK key 4 i).getD k 0 ^^^ (wK key 4 i k).getD (4 * (i - 4) + k) 0)]) = (wK key 4 i (k + 1)).map SV.u8 := by
              rw [app_one hwk, hx, wK_s]
            conv => whnf
            first | refine brT (by exact hlt2) ?_ | fail
            conv => whnf
            repeat (first | (refine Exists.intro _ (And.intro (sload_u8 (i := k) (by first | rfl | omega | fail) (by first | omega | fail)) ?_); conv => whnf) | (refine Exists.intro _ (And.intro (idx_i (m := k) (by first | rfl | fail)) ?_); conv => whnf) | (refine Exists.intro _ (And.intro (sload_u8 (i := 4 * (i - 4) + k) (by first | rfl | omega | fail) (by first | omega | fail)) ?_); conv => whnf) | (refine Exists.intro _ (And.intro (idx_i (m := 4 * (i - 4) + k) (by first | rfl | omega | fail)) ?_); conv => whnf) | (refine Exists.intro _ (And.intro rfl ?_); conv => whnf) | (refine And.intro (by first | omega | (simp [ti5]; omega)) ?_; conv => whnf) | (refine And.intro (by kernel_rfl) ?_; conv => whnf) | fail)
            refine ⟨⟨k + 1, by omega⟩, by simp only; omega, ?_⟩
            refine Weak.sel [0, 1, 5, 3] rfl rfl ?_ ?_ rfl rfl
            · (repeat' (first | exact trivial | refine And.intro ?_ ?_ | fail)) <;> first | rfl | exact wk_i (by first | exact hp2.symm | fail) | fail
            · (repeat' (first | exact trivial | refine And.intro ?_ ?_ | fail)) <;> first | rfl | exact ren_eq (by first | (simp; done) | fail) (by first | rfl | exact happ.symm | fail) | fail
          · obtain rfl : k = 4 := by omega
            conv => whnf
            first | refine brF (by rfl) ?_ | fail
            conv => whnf
            repeat (fail)
            have hw4 : wSt key 4 (i + 1) = wK key 4 i 4 := (wK_4 key 4 i (by omega)).symm
            refine ⟨⟨i + 1, by omega, by omega⟩, by simp only; omega, ?_⟩
            refine Weak.sel [0, 1, 2] rfl rfl ?_ ?_ rfl rfl
            · (repeat' (first | exact trivial | refine And.intro ?_ ?_ | fail)) <;> first | rfl | exact wk_i (by first | exact hp1.symm | fail) | fail
            · (repeat' (first | exact trivial | refine And.intro ?_ ?_ | fail)) <;> first | exact ren_m8 (by first | exact hw4 | fail) | rfl | exact ren_eq (by first | (simp; done) | fail) (by first | rfl | fail) | fail
      · have hm : ((i : Int).tmod 4 == 0) = false := by rw [htm]; simp; omega
        have hpw : pwN (i / 4) = pwN ((i - 1) / 4) := by
          rw [show i / 4 = (i - 1) / 4 from by omega]
        by_cases h8 : 4 = 8 ∧ i % 4 = 4
        · skip
          exact absurd h8.1 (by decide)

        · skip
          have htk : tK key 4 i = colN (wSt key 4 i) (i - 1) := by unfold tK; rw [if_neg hz, if_neg h8]
          have htk2 := congrArg (List.map SV.u8) htk
          first | refine brF (by exact hm) ?_ | fail
          conv => whnf
          repeat (first | (refine brF rfl ?_; conv => whnf) | (refine Exists.intro _ (And.intro rfl ?_); conv => whnf) | fail)
          refine loop_rule ttOk mixed (by kernel_rfl) (ι := { k : Nat // k ≤ 4 }) (fun k => [(0, .sl 0 0 256 1 fb), (1, .sl 1 0 16 1 fk), (5, .i 4), (6, .sl 2 0 (4 * i + k.1) 1 false), (7, .u8 (pwN (i / 4))), (8, .i (i : Int)), (9, .sl 3 0 4 1 false), (10, .i (k.1 : Int))]) (fun k => [some (.ro (sbx.map .u8)), some (.ro (key.map .u8)), some (.row 5 ((wK key 4 i k.1).map .u8)), some (.row 5 ((tK key 4 i).map .u8))]) (fun _ => 4) (fun k => 4 - k.1) ⟨0, by omega⟩ ?_ ?_
          · refine Weak.sel [0, 1, 2, 4] rfl rfl ?_ ?_ rfl rfl
            · (repeat' (first | exact trivial | refine And.intro ?_ ?_ | fail)) <;> first | rfl | exact wk_sl rfl (by first | rfl | fail) (by first | rfl | omega | fail) | exact wk_u8 (by first | exact hpw | fail) | fail
            · (repeat' (first | exact trivial | refine And.intro ?_ ?_ | fail)) <;> first | exact ren_m8 (by first | exact hw0 | exact htk | fail) | rfl | exact ren_eq (by first | (simp; done) | fail) (by first | rfl | fail) | fail
          · rintro ⟨k, hk⟩
            have hwk := wK_len key 4 i k
            dsimp only
            by_cases hk2 : k < 4
            · have hlt2 : decide ((k : Int) < 4) = true := by simp; omega
              have hp2 := w6_p1 k (by omega)
              have h10 := w10_4 i 4 k (by omega) (by omega) (by omega)
              have hx : (tK key 4 i).getD k 0 ^^^ (wK key 4 i k).getD (4 * (i - 4) + k) 0 = xK key 4 i k := by
                unfold xK; rw [wK_getD]; omega
              have happ : List.take ((4 * i + k) * 1) (List.drop 0 ((wK key 4 i k).map SV.u8)) ++ List.take (1 * 1) (List.drop 0 [SV.u8 ((tK key 4 i).getD k 0 ^^^ (wK key 4 i k).getD (4 * (i - 4) + k) 0)]) = (wK key 4 i (k + 1)).map SV.u8 := by
                rw [app_one hwk, hx, wK_s]
              conv => whnf
              first | refine brT (by exact hlt2) ?_ | fail
              conv => whnf
              repeat (first | (refine Exists.intro _ (And.intro (sload_u8 (i := k) (by first | rfl | omega | fail) (by first | omega | fail)) ?_); conv => whnf) | (refine Exists.intro _ (And.intro (idx_i (m := k) (by first | rfl | fail)) ?_); conv => whnf) | (refine Exists.intro _ (And.intro (sload_u8 (i := 4 * (i - 4) + k) (by first | rfl | omega | fail) (by first | omega | fail)) ?_); conv => whnf) | (refine Exists.intro _ (And.intro (idx_i (m := 4 * (i - 4) + k) (by first | rfl | omega | fail)) ?_); conv => whnf) | (refine Exists.intro _ (And.intro rfl ?_); conv => whnf) | (refine And.intro (by first | omega | (simp [ti5]; omega)) ?_; conv => whnf) | (refine And.intro (by kernel_rfl) ?_; conv => whnf) | fail)
              refine ⟨⟨k + 1, by omega⟩, by simp only; omega, ?_⟩
              refine Weak.sel [0, 1, 5, 3] rfl rfl ?_ ?_ rfl rfl
              · (repeat' (first | exact trivial | refine And.intro ?_ ?_ | fail)) <;> first | rfl | exact wk_i (by first | exact hp2.symm | fail) | fail
              · (repeat' (first | exact trivial | refine And.intro ?_ ?_ | fail)) <;> first | rfl | exact ren_eq (by first | (simp; done) | fail) (by first | rfl | exact happ.symm | fail) | fail
            · obtain rfl : k = 4 := by omega
              conv => whnf
              first | refine brF (by rfl) ?_ | fail
              conv => whnf
              repeat (fail)
              have hw4 : wSt key 4 (i + 1) = wK key 4 i 4 := (wK_4 key 4 i (by omega)).symm
              refine ⟨⟨i + 1, by omega, by omega⟩, by simp only; omega, ?_⟩
              refine Weak.sel [0, 1, 2] rfl rfl ?_ ?_ rfl rfl
              · (repeat' (first | exact trivial | refine And.intro ?_ ?_ | fail)) <;> first | rfl | exact wk_i (by first | exact hp1.symm | fail) | fail
              · (repeat' (first | exact trivial | refine And.intro ?_ ?_ | fail)) <;> first | exact ren_m8 (by first | exact hw4 | fail) | rfl | exact ren_eq (by first | (simp; done) | fail) (by first | rfl | fail) | fail
    · obtain rfl : i = 44 := by omega
      conv => whnf
      first | refine brF (by rfl) ?_ | fail
      conv => whnf
      repeat (fail)
      refine ⟨[0, 1, 2], ?_, rfl, rfl, ?_, rfl⟩
      · (repeat' (fail)) <;> first | rfl | fail
      · (repeat' (first | exact trivial | refine And.intro ?_ ?_ | fail)) <;> first | rfl | exact ren_eq (by first | (simp; done) | fail) (by first | rfl | fail) | fail
theorem f50_8 (fb fk : Bool) (key : List UInt8) (hk : key.length = 32) : SCall Try.prog 50 [.sl 0 0 256 1 fb, .sl 1 0 32 1 fk] [some (.ro (sbx.map .u8)), some (.ro (key.map .u8))] (.sl 2 0 (4 * 60) 1 false) [some (.ro (sbx.map .u8)), some (.ro (key.map .u8)), some (.row 5 ((wSt key 8 60).map .u8))] := by
  have hl := sbx_len
  refine scall_of ttOk (by kernel_rfl : Try.prog.funcs[50]? = some Try.f50) rfl rfl rfl ?_
  refine sw_ok ttOk mixed (by kernel_rfl) ?_
  conv => whnf
  repeat (first | (refine Exists.intro _ (And.intro rfl ?_); conv => whnf) | (refine And.intro (by first | omega | (simp [ti5]; omega)) ?_; conv => whnf) | fail)
  refine loop_rule ttOk mixed (by kernel_rfl) (ι := { i : Nat // 8 ≤ i ∧ i ≤ 60 }) (fun i => [(0, .sl 0 0 256 1 fb), (1, .sl 1 0 32 1 fk), (5, .i 8), (6, .sl 2 0 (4 * i.1) 1 false), (7, .u8 (pwN ((i.1 - 1) / 8))), (8, .i (i.1 : Int))]) (fun i => [some (.ro (sbx.map .u8)), some (.ro (key.map .u8)), some (.row 5 ((wSt key 8 i.1).map .u8))]) (fun _ => 3) (fun i => 60 - i.1) ⟨8, by omega, by omega⟩ ?_ ?_
  · have hk0 : (wSt key 8 8).map SV.u8 = List.take 32 (List.drop 0 (key.map SV.u8)) := by
      rw [wSt_key' key 8 (by omega), List.drop_zero, List.take_of_length_le (by simp; omega)]
    refine Weak.sel [0, 1, 3] rfl rfl ?_ ?_ rfl rfl
    · (repeat' (first | exact trivial | refine And.intro ?_ ?_ | fail)) <;> first | rfl | exact wk_u8 (by first | (simp [hk0, pwN]; done) | fail) | fail
    · (repeat' (first | exact trivial | refine And.intro ?_ ?_ | fail)) <;> first | rfl | exact ren_eq (by first | (simp; done) | fail) (by first | rfl | exact hk0 | fail) | fail
  · rintro ⟨i, hi1, hi⟩
    have hwl := wSt_len key 8 i
    dsimp only
    by_cases hi2 : i < 60
    · have hlt : decide ((i : Int) < w64 (4 * w64 (8 + 7))) = true := by rw [show w64 (4 * w64 (8 + 7)) = 60 by decide]; simp; omega
      have hp1 := w6_p1 i (by omega)
      have h4 := w64_4 i (by omega)
      have h44 := w10_44 i (by omega) (by omega)
      have htm : ((i : Int)).tmod 8 = ((i % 8 : Nat) : Int) := tmod_n i 8
      have htl := tK_len key 8 i
      have hw0 : wK key 8 i 0 = wSt key 8 i := by unfold wK; simp
      conv => whnf
      first | refine brT (by exact hlt) ?_ | fail
      conv => whnf
      repeat (first | (refine Exists.intro _ (And.intro (idx_i (m := 4 * i - 4) (by first | rfl | omega | fail)) ?_); conv => whnf) | (refine Exists.intro _ (And.intro (idx_i (m := 4 * i) (by first | rfl | omega | fail)) ?_); conv => whnf) | (refine Exists.intro _ (And.intro rfl ?_); conv => whnf) | (refine And.intro (by first | omega | (simp [ti5]; omega)) ?_; conv => whnf) | fail)
      have hcut : List.take (0 * ti5.sz) (List.drop 0 (SB.row 5 (reps 0 (SV.u8 0).cells)).cells) ++ List.take ((4 * i - (4 * i - 4)) * ti5.sz) (List.drop (0 + (4 * i - 4) * 1) (SB.row 5 (List.map SV.u8 (wSt key 8 i))).cells) = (colN (wSt key 8 i) (i - 1)).map SV.u8 := cut_col (i - 1) (by omega) (show (4 * i - (4 * i - 4)) * 1 = 4 by omega) (by omega)
      rw [hcut]
      have hcl : (colN (wSt key 8 i) (i - 1)).length = 4 := rfl
      have hb0 : ((colN (wSt key 8 i) (i - 1)).getD 0 0).toNat < 256 := UInt8.toNat_lt _
      have hb1 : ((colN (wSt key 8 i) (i - 1)).getD 1 0).toNat < 256 := UInt8.toNat_lt _
      have hb2 : ((colN (wSt key 8 i) (i - 1)).getD 2 0).toNat < 256 := UInt8.toNat_lt _
      have hb3 : ((colN (wSt key 8 i) (i - 1)).getD 3 0).toNat < 256 := UInt8.toNat_lt _
      by_cases hz : i % 8 = 0
      · have hm : ((i : Int).tmod 8 == 0) = true := by rw [htm, hz]; rfl
        have hpw : pwN (i / 8) = tmSt 8 0 (pwN ((i - 1) / 8)) 2 := by
          rw [tm_2, show i / 8 = (i - 1) / 8 + 1 from by omega]; rfl
        have htk : tK key 8 i = [sb ((colN (wSt key 8 i) (i - 1)).getD 1 0) ^^^ pwN ((i - 1) / 8), sb ((colN (wSt key 8 i) (i - 1)).getD 2 0), sb ((colN (wSt key 8 i) (i - 1)).getD 3 0), sb ((colN (wSt key 8 i) (i - 1)).getD 0 0)] := by
          unfold tK; rw [if_pos hz]; rfl
        have htk2 := congrArg (List.map SV.u8) htk
        first | refine brT (by exact hm) ?_ | fail
        conv => whnf
        repeat (first | (refine Exists.intro _ (And.intro (sload_u8 (i := 1) (by first | rfl | fail) (by first | omega | fail)) ?_); conv => whnf) | (refine Exists.intro _ (And.intro (idx_i (m := 1) (by first | rfl | fail)) ?_); conv => whnf) | (refine Exists.intro _ (And.intro (sload_u8 (i := 2) (by first | rfl | fail) (by first | omega | fail)) ?_); conv => whnf) | (refine Exists.intro _ (And.intro (idx_i (m := 2) (by first | rfl | fail)) ?_); conv => whnf) | (refine Exists.intro _ (And.intro (sload_u8 (i := 3) (by first | rfl | fail) (by first | omega | fail)) ?_); conv => whnf) | (refine Exists.intro _ (And.intro (idx_i (m := 3) (by first | rfl | fail)) ?_); conv => whnf) | (refine Exists.intro _ (And.intro (sload_u8 (i := 0) (by first | rfl | fail) (by first | omega | fail)) ?_); conv => whnf) | (refine Exists.intro _ (And.intro (idx_i (m := 0) (by first | rfl | fail)) ?_); conv => whnf) | (refine Exists.intro _ (And.intro (sload_u8 (i := ((colN (wSt key 8 i) (i - 1)).getD 1 0).toNat) (by first | rfl | omega | fail) (by first | omega | fail)) ?_); conv => whnf) | (refine Exists.intro _ (And.intro (sload_u8 (i := ((colN (wSt key 8 i) (i - 1)).getD 2 0).toNat) (by first | rfl | omega | fail) (by first | omega | fail)) ?_); conv => whnf) | (refine Exists.intro _ (And.intro (sload_u8 (i := ((colN (wSt key 8 i) (i - 1)).getD 3 0).toNat) (by first | rfl | omega | fail) (by first | omega | fail)) ?_); conv => whnf) | (refine Exists.intro _ (And.intro (sload_u8 (i := ((colN (wSt key 8 i) (i - 1)).getD 0 0).toNat) (by first | rfl | omega | fail) (by first | omega | fail)) ?_); conv => whnf) | (refine Exists.intro _ (And.intro rfl ?_); conv => whnf) | (refine And.intro (by first | omega | fail) ?_; conv => whnf) | (refine And.intro (by kernel_rfl) ?_; conv => whnf) | fail)
        refine ok1_callP [] (f81 (pwN ((i - 1) / 8)) 2) rfl rfl ⟨⟨rfl, by first | rfl | fail⟩, trivial, by first | rfl | fail, ?_⟩
        conv => whnf
        repeat (fail)
        refine loop_rule ttOk mixed (by kernel_rfl) (ι := { k : Nat // k ≤ 4 }) (fun k => [(0, .sl 0 0 256 1 fb), (1, .sl 1 0 32 1 fk), (5, .i 8), (6, .sl 2 0 (4 * i + k.1) 1 false), (7, .u8 (pwN (i / 8))), (8, .i (i : Int)), (9, .sl 3 0 4 1 true), (10, .i (k.1 : Int))]) (fun k => [some (.ro (sbx.map .u8)), some (.ro (key.map .u8)), some (.row 5 ((wK key 8 i k.1).map .u8)), some (.row 5 ((tK key 8 i).map .u8))]) (fun _ => 4) (fun k => 4 - k.1) ⟨0, by omega⟩ ?_ ?_
        · refine Weak.sel [0, 1, 2, 5] rfl rfl ?_ ?_ rfl rfl
          · (repeat' (first | exact trivial | refine And.intro ?_ ?_ | fail)) <;> first | rfl | exact wk_u8 (by first | exact hpw | fail) | fail
          · (repeat' (first | exact trivial | refine And.intro ?_ ?_ | fail)) <;> first | exact ren_m8 (by first | exact hw0 | fail) | rfl | exact ren_eq (by first | (simp; done) | fail) (by first | rfl | fail) | exact ren_eq (plainL_u8 _) htk2 | fail
        · rintro ⟨k, hk⟩
          have hwk := wK_len key 8 i k
          dsimp only
          by_cases hk2 : k < 4
          · have hlt2 : decide ((k : Int) < 4) = true := by simp; omega
            have hp2 := w6_p1 k (by omega)
            have h10 := w10_4 i 8 k (by omega) (by omega) (by omega)
            have hx : (tK key 8 i).getD k 0 ^^^ (wK key 8 i k).getD (4 * (i - 8) + k) 0 = xK key 8 i k := by
              unfold xK; rw [wK_getD]; omega
            have happ : List.take ((4 * i + k) * 1) (List.drop 0 ((wK key 8 i k).map SV.u8)) ++ List.take (1 * 1) (List.drop 0 [SV.u8 ((tK key 8 i).getD k 0 ^^^ (wK key 8 i k).getD (4 * (i - 8) + k) 0)]) = (wK key 8 i (k + 1)).map SV.u8 := by
              rw [app_one hwk, hx, wK_s]
            conv => whnf
            first | refine brT (by exact hlt2) ?_ | fail
            conv => whnf
            repeat (first | (refine Exists.intro _ (And.intro (sload_u8 (i := k) (by first | rfl | omega | fail) (by first | omega | fail)) ?_); conv => whnf) | (refine Exists.intro _ (And.intro (idx_i (m := k) (by first | rfl | fail)) ?_); conv => whnf) | (refine Exists.intro _ (And.intro (sload_u8 (i := 4 * (i - 8) + k) (by first | rfl | omega | fail) (by first | omega | fail)) ?_); conv => whnf) | (refine Exists.intro _ (And.intro (idx_i (m := 4 * (i - 8) + k) (by first | rfl | omega | fail)) ?_); conv => whnf) | (refine Exists.intro _ (And.intro rfl ?_); conv => whnf) | (refine And.intro (by first | omega | (simp [ti5]; omega)) ?_; conv => whnf) | (refine And.intro (by kernel_rfl) ?_; conv => whnf) | fail)
            refine ⟨⟨k + 1, by omega⟩, by simp only; omega, ?_⟩
            refine Weak.sel [0, 1, 5, 3] rfl rfl ?_ ?_ rfl rfl
            · (repeat' (first | exact trivial | refine And.intro ?_ ?_ | fail)) <;> first | rfl | exact wk_i (by first | exact hp2.symm | fail) | fail
            · (repeat' (first | exact trivial | refine And.intro ?_ ?_ | fail)) <;> first | rfl | exact ren_eq (by first | (simp; done) | fail) (by first | rfl | exact happ.symm | fail) | fail
          · obtain rfl : k = 4 := by omega
            conv => whnf
            first | refine brF (by rfl) ?_ | fail
            conv => whnf
            repeat (fail)
            have hw4 : wSt key 8 (i + 1) = wK key 8 i 4 := (wK_4 key 8 i (by omega)).symm
            refine ⟨⟨i + 1, by omega, by omega⟩, by simp only; omega, ?_⟩
            refine Weak.sel [0, 1, 2] rfl rfl ?_ ?_ rfl rfl
            · (repeat' (first | exact trivial | refine And.intro ?_ ?_ | fail)) <;> first | rfl | exact wk_i (by first | exact hp1.symm | fail) | fail
            · (repeat' (first | exact trivial | refine And.intro ?_ ?_ | fail)) <;> first | exact ren_m8 (by first | exact hw4 | fail) | rfl | exact ren_eq (by first | (simp; done) | fail) (by first | rfl | fail) | fail
      · have hm : ((i : Int).tmod 8 == 0) = false := by rw [htm]; simp; omega
        have hpw : pwN (i / 8) = pwN ((i - 1) / 8) := by
          rw [show i / 8 = (i - 1) / 8 from by omega]
        by_cases h8 : 8 = 8 ∧ i % 8 = 4
        · skip
          have hm4 : ((i : Int).tmod 8 == 4) = true := by rw [htm, h8.2]; rfl
          have htk : tK key 8 i = [sb ((colN (wSt key 8 i) (i - 1)).getD 0 0), sb ((colN (wSt key 8 i) (i - 1)).getD 1 0), sb ((colN (wSt key 8 i) (i - 1)).getD 2 0), sb ((colN (wSt key 8 i) (i - 1)).getD 3 0)] := by unfold tK; rw [if_neg hz, if_pos h8]; rfl
          have htk2 := congrArg (List.map SV.u8) htk
          first | refine brF (by exact hm) ?_ | fail
          conv => whnf
          repeat (first | (refine brT rfl ?_; conv => whnf) | (refine Exists.intro _ (And.intro (sload_u8 (i := 1) (by first | rfl | fail) (by first | omega | fail)) ?_); conv => whnf) | (refine Exists.intro _ (And.intro (idx_i (m := 1) (by first | rfl | fail)) ?_); conv => whnf) | (refine Exists.intro _ (And.intro (sload_u8 (i := 2) (by first | rfl | fail) (by first | omega | fail)) ?_); conv => whnf) | (refine Exists.intro _ (And.intro (idx_i (m := 2) (by first | rfl | fail)) ?_); conv => whnf) | (refine Exists.intro _ (And.intro (sload_u8 (i := 3) (by first | rfl | fail) (by first | omega | fail)) ?_); conv => whnf) | (refine Exists.intro _ (And.intro (idx_i (m := 3) (by first | rfl | fail)) ?_); conv => whnf) | (refine Exists.intro _ (And.intro (sload_u8 (i := 0) (by first | rfl | fail) (by first | omega | fail)) ?_); conv => whnf) | (refine Exists.intro _ (And.intro (idx_i (m := 0) (by first | rfl | fail)) ?_); conv => whnf) | (refine Exists.intro _ (And.intro (sload_u8 (i := ((colN (wSt key 8 i) (i - 1)).getD 1 0).toNat) (by first | rfl | omega | fail) (by first | omega | fail)) ?_); conv => whnf) | (refine Exists.intro _ (And.intro (sload_u8 (i := ((colN (wSt key 8 i) (i - 1)).getD 2 0).toNat) (by first | rfl | omega | fail) (by first | omega | fail)) ?_); conv => whnf) | (refine Exists.intro _ (And.intro (sload_u8 (i := ((colN (wSt key 8 i) (i - 1)).getD 3 0).toNat) (by first | rfl | omega | fail) (by first | omega | fail)) ?_); conv => whnf) | (refine Exists.intro _ (And.intro (sload_u8 (i := ((colN (wSt key 8 i) (i - 1)).getD 0 0).toNat) (by first | rfl | omega | fail) (by first | omega | fail)) ?_); conv => whnf) | (refine gdT hm4 ?_; conv => whnf) | (refine Exists.intro _ (And.intro rfl ?_); conv => whnf) | (refine And.intro (by first | omega | fail) ?_; conv => whnf) | (refine And.intro (by kernel_rfl) ?_; conv => whnf) | fail)
          refine loop_rule ttOk mixed (by kernel_rfl) (ι := { k : Nat // k ≤ 4 }) (fun k => [(0, .sl 0 0 256 1 fb), (1, .sl 1 0 32 1 fk), (5, .i 8), (6, .sl 2 0 (4 * i + k.1) 1 false), (7, .u8 (pwN (i / 8))), (8, .i (i : Int)), (9, .sl 3 0 4 1 true), (10, .i (k.1 : Int))]) (fun k => [some (.ro (sbx.map .u8)), some (.ro (key.map .u8)), some (.row 5 ((wK key 8 i k.1).map .u8)), some (.row 5 ((tK key 8 i).map .u8))]) (fun _ => 4) (fun k => 4 - k.1) ⟨0, by omega⟩ ?_ ?_
          · refine Weak.sel [0, 1, 2, 5] rfl rfl ?_ ?_ rfl rfl
            · (repeat' (first | exact trivial | refine And.intro ?_ ?_ | fail)) <;> first | rfl | exact wk_u8 (by first | exact hpw | fail) | fail
            · (repeat' (first | exact trivial | refine And.intro ?_ ?_ | fail)) <;> first | exact ren_m8 (by first | exact hw0 | fail) | rfl | exact ren_eq (by first | (simp; done) | fail) (by first | rfl | fail) | exact ren_eq (plainL_u8 _) htk2 | fail
          · rintro ⟨k, hk⟩
            have hwk := wK_len key 8 i k
            dsimp only
            by_cases hk2 : k < 4
            · have hlt2 : decide ((k : Int) < 4) = true := by simp; omega
              have hp2 := w6_p1 k (by omega)
              have h10 := w10_4 i 8 k (by omega) (by omega) (by omega)
              have hx : (tK key 8 i).getD k 0 ^^^ (wK key 8 i k).getD (4 * (i - 8) + k) 0 = xK key 8 i k := by
                unfold xK; rw [wK_getD]; omega
              have happ : List.take ((4 * i + k) * 1) (List.drop 0 ((wK key 8 i k).map SV.u8)) ++ List.take (1 * 1) (List.drop 0 [SV.u8 ((tK key 8 i).getD k 0 ^^^ (wK key 8 i k).getD (4 * (i - 8) + k) 0)]) = (wK key 8 i (k + 1)).map SV.u8 := by
                rw [app_one hwk, hx, wK_s]
              conv => whnf
              first | refine brT (by exact hlt2) ?_ | fail
              conv => whnf
              repeat (first | (refine Exists.intro _ (And.intro (sload_u8 (i := k) (by first | rfl | omega | fail) (by first | omega | fail)) ?_); conv => whnf) | (refine Exists.intro _ (And.intro (idx_i (m := k) (by first | rfl | fail)) ?_); conv => whnf) | (refine Exists.intro _ (And.intro (sload_u8 (i := 4 * (i - 8) + k) (by first | rfl | omega | fail) (by first | omega | fail)) ?_); conv => whnf) | (refine Exists.intro _ (And.intro (idx_i (m := 4 * (i - 8) + k) (by first | rfl | omega | fail)) ?_); conv => whnf) | (refine Exists.intro _ (And.intro rfl ?_); conv => whnf) | (refine And.intro (by first | omega | (simp [ti5]; omega)) ?_; conv => whnf) | (refine And.intro (by kernel_rfl) ?_; conv => whnf) | fail)
              refine ⟨⟨k + 1, by omega⟩, by simp only; omega, ?_⟩
              refine Weak.sel [0, 1, 5, 3] rfl rfl ?_ ?_ rfl rfl
              · (repeat' (first | exact trivial | refine And.intro ?_ ?_ | fail)) <;> first | rfl | exact wk_i (by first | exact hp2.symm | fail) | fail
              · (repeat' (first | exact trivial | refine And.intro ?_ ?_ | fail)) <;> first | rfl | exact ren_eq (by first | (simp; done) | fail) (by first | rfl | exact happ.symm | fail) | fail
            · obtain rfl : k = 4 := by omega
              conv => whnf
              first | refine brF (by rfl) ?_ | fail
              conv => whnf
              repeat (fail)
              have hw4 : wSt key 8 (i + 1) = wK key 8 i 4 := (wK_4 key 8 i (by omega)).symm
              refine ⟨⟨i + 1, by omega, by omega⟩, by simp only; omega, ?_⟩
              refine Weak.sel [0, 1, 2] rfl rfl ?_ ?_ rfl rfl
              · (repeat' (first | exact trivial | refine And.intro ?_ ?_ | fail)) <;> first | rfl | exact wk_i (by first | exact hp1.symm | fail) | fail
              · (repeat' (first | exact trivial | refine And.intro ?_ ?_ | fail)) <;> first | exact ren_m8 (by first | exact hw4 | fail) | rfl | exact ren_eq (by first | (simp; done) | fail) (by first | rfl | fail) | fail
        · skip
          have hm4 : ((i : Int).tmod 8 == 4) = false := by rw [htm]; simp; omega
          have htk : tK key 8 i = colN (wSt key 8 i) (i - 1) := by unfold tK; rw [if_neg hz, if_neg h8]
          have htk2 := congrArg (List.map SV.u8) htk
          first | refine brF (by exact hm) ?_ | fail
          conv => whnf
          repeat (first | (refine brT rfl ?_; conv => whnf) | (refine gdF hm4 ?_; conv => whnf) | (refine Exists.intro _ (And.intro rfl ?_); conv => whnf) | fail)
          refine loop_rule ttOk mixed (by kernel_rfl) (ι := { k : Nat // k ≤ 4 }) (fun k => [(0, .sl 0 0 256 1 fb), (1, .sl 1 0 32 1 fk), (5, .i 8), (6, .sl 2 0 (4 * i + k.1) 1 false), (7, .u8 (pwN (i / 8))), (8, .i (i : Int)), (9, .sl 3 0 4 1 false), (10, .i (k.1 : Int))]) (fun k => [some (.ro (sbx.map .u8)), some (.ro (key.map .u8)), some (.row 5 ((wK key 8 i k.1).map .u8)), some (.row 5 ((tK key 8 i).map .u8))]) (fun _ => 4) (fun k => 4 - k.1) ⟨0, by omega⟩ ?_ ?_
          · refine Weak.sel [0, 1, 2, 4] rfl rfl ?_ ?_ rfl rfl
            · (repeat' (first | exact trivial | refine And.intro ?_ ?_ | fail)) <;> first | rfl | exact wk_sl rfl (by first | rfl | fail) (by first | rfl | omega | fail) | exact wk_u8 (by first | exact hpw | fail) | fail
            · (repeat' (first | exact trivial | refine And.intro ?_ ?_ | fail)) <;> first | exact ren_m8 (by first | exact hw0 | exact htk | fail) | rfl | exact ren_eq (by first | (simp; done) | fail) (by first | rfl | fail) | fail
          · rintro ⟨k, hk⟩
            have hwk := wK_len key 8 i k
            dsimp only
            by_cases hk2 : k < 4
            · have hlt2 : decide ((k : Int) < 4) = true := by simp; omega
              have hp2 := w6_p1 k (by omega)
              have h10 := w10_4 i 8 k (by omega) (by omega) (by omega)
              have hx : (tK key 8 i).getD k 0 ^^^ (wK key 8 i k).getD (4 * (i - 8) + k) 0 = xK key 8 i k := by
                unfold xK; rw [wK_getD]; omega
              have happ : List.take ((4 * i + k) * 1) (List.drop 0 ((wK key 8 i k).map SV.u8)) ++ List.take (1 * 1) (List.drop 0 [SV.u8 ((tK key 8 i).getD k 0 ^^^ (wK key 8 i k).getD (4 * (i - 8) + k) 0)]) = (wK key 8 i (k + 1)).map SV.u8 := by
                rw [app_one hwk, hx, wK_s]
              conv => whnf
              first | refine brT (by exact hlt2) ?_ | fail
              conv => whnf
              repeat (first | (refine Exists.intro _ (And.intro (sload_u8 (i := k) (by first | rfl | omega | fail) (by first | omega | fail)) ?_); conv => whnf) | (refine Exists.intro _ (And.intro (idx_i (m := k) (by first | rfl | fail)) ?_); conv => whnf) | (refine Exists.intro _ (And.intro (sload_u8 (i := 4 * (i - 8) + k) (by first | rfl | omega | fail) (by first | omega | fail)) ?_); conv => whnf) | (refine Exists.intro _ (And.intro (idx_i (m := 4 * (i - 8) + k) (by first | rfl | omega | fail)) ?_); conv => whnf) | (refine Exists.intro _ (And.intro rfl ?_); conv => whnf) | (refine And.intro (by first | omega | (simp [ti5]; omega)) ?_; conv => whnf) | (refine And.intro (by kernel_rfl) ?_; conv => whnf) | fail)
              refine ⟨⟨k + 1, by omega⟩, by simp only; omega, ?_⟩
              refine Weak.sel [0, 1, 5, 3] rfl rfl ?_ ?_ rfl rfl
              · (repeat' (first | exact trivial | refine And.intro ?_ ?_ | fail)) <;> first | rfl | exact wk_i (by first | exact hp2.symm | fail) | fail
              · (repeat' (first | exact trivial | refine And.intro ?_ ?_ | fail)) <;> first | rfl | exact ren_eq (by first | (simp; done) | fail) (by first | rfl | exact happ.symm | fail) | fail
            · obtain rfl : k = 4 := by omega
              conv => whnf
              first | refine brF (by rfl) ?_ | fail
              conv => whnf
              repeat (fail)
              have hw4 : wSt key 8 (i + 1) = wK key 8 i 4 := (wK_4 key 8 i (by omega)).symm
              refine ⟨⟨i + 1, by omega, by omega⟩, by simp only; omega, ?_⟩
              refine Weak.sel [0, 1, 2] rfl rfl ?_ ?_ rfl rfl
              · (repeat' (first | exact trivial | refine And.intro ?_ ?_ | fail)) <;> first | rfl | exact wk_i (by first | exact hp1.symm | fail) | fail
              · (repeat' (first | exact trivial | refine And.intro ?_ ?_ | fail)) <;> first | exact ren_m8 (by first | exact hw4 | fail) | rfl | exact ren_eq (by first | (simp; done) | fail) (by first | rfl | fail) | fail
    · obtain rfl : i = 60 := by omega
      conv => whnf
      first | refine brF (by rfl) ?_ | fail
      conv => whnf
      repeat (fail)
      refine ⟨[0, 1, 2], ?_, rfl, rfl, ?_, rfl⟩
      · (repeat' (fail)) <;> first | rfl | fail
      · (repeat' (first | exact trivial | refine And.intro ?_ ?_ | fail)) <;> first | rfl | exact ren_eq (by first | (simp; done) | fail) (by first | rfl | fail) | fail
end Go.Sh
