/- What head.Put and head.Take reckon is what the reference reckons. -/
import Derived.Test.YtaknbogocnkmnaaT9
namespace Go.Sh
open Go.Proofs
set_option linter.unusedSimpArgs false

theorem hD_refD (n : UInt64) : hD n = refD n := by
  unfold hD refD
  split
  · rfl
  · rename_i h
    rw [hbL_eq]; unfold refB
    rw [if_neg]
    intro e; subst e; exact h (by decide)

theorem hD_digs {n : UInt64} (h : ¬ n < 8) : hD n = digs n.toNat := by
  unfold hD; rw [if_neg h, hbL_eq]

theorem nib_or : ∀ x y : Fin 16, shl8 (shl8 0 4 ||| UInt8.ofNat x.1) 4 ||| UInt8.ofNat y.1 = UInt8.ofNat (16 * x.1 + y.1) := by decide
theorem len_or : ∀ x : Fin 8, (8 : UInt8) ||| UInt8.ofNat x.1 = UInt8.ofNat (8 + x.1) := by decide

/-- A number's nibble. -/
def nb (n : UInt64) : Nat := if n < 8 then n.toNat else 7 + (hD n).length
theorem hD_len (n : UInt64) : (hD n).length ≤ 8 := by
  unfold hD; split
  · simp
  · exact hbL_len n 8
theorem hD_pos {n : UInt64} (h : ¬ n < 8) : 0 < (hD n).length := by
  unfold hD; rw [if_neg h]; exact hbL_pos h
theorem nb_lt (n : UInt64) : nb n < 16 := by
  unfold nb
  have := hD_len n
  split
  · rename_i h; have := n8 h; omega
  · omega
theorem hX_nb (n : UInt64) : hX n = UInt8.ofNat (nb n) := by
  unfold hX nb
  split
  · rename_i h
    have h2 := n8 h
    apply UInt8.toNat_inj.1
    have e : (n &&& 7).toNat = n.toNat := by
      rw [UInt64.toNat_and]
      show n.toNat &&& 7 = _
      rw [Nat.and_two_pow_sub_one_eq_mod n.toNat 3]
      omega
    rw [UInt64.toNat_toUInt8, e]
    simp
  · rename_i h
    have h1 := hbL_len n 8
    have h2 := hbL_pos h
    have hl : (hD n).length = (hbL n 8).length := by unfold hD; rw [if_neg h]
    rw [hl]
    have e : u8i (w64 (((hbL n 8).length : Int) - 1)) = UInt8.ofNat ((hbL n 8).length - 1) := by
      rw [w64_of (by omega) (by omega)]
      apply UInt8.toNat_inj.1
      have := u8i_toNat (((hbL n 8).length : Int) - 1)
      simp only [UInt8.toNat_ofNat']
      omega
    rw [e]
    have := len_or ⟨(hbL n 8).length - 1, by omega⟩
    simp only at this
    rw [this]; congr 1; omega
theorem refN_nb (n : UInt64) : refN n = (nb n : Int) := by
  unfold refN nb
  split
  · rfl
  · rename_i h
    have hl : hD n = refB n := by rw [hD_refD]; unfold refD; rw [if_neg h]
    rw [hl]
    omega

theorem hPut_form (k c : UInt64) : hPut k c = UInt8.ofNat (16 * nb k + nb c) :: (hD k ++ hD c) := by
  unfold hPut
  rw [hX_nb, hX_nb]
  have := nib_or ⟨nb k, nb_lt k⟩ ⟨nb c, nb_lt c⟩
  simp only at this
  rw [this]
theorem refPut_form (k c : UInt64) : refPut k c = UInt8.ofNat (16 * nb k + nb c) :: (hD k ++ hD c) := by
  unfold refPut
  rw [refN_nb, refN_nb, hD_refD, hD_refD]
  congr 1
  apply UInt8.toNat_inj.1
  have := u8i_toNat (16 * (nb k : Int) + (nb c : Int))
  simp only [UInt8.toNat_ofNat']
  omega
theorem hPut_eq (k c : UInt64) : hPut k c = refPut k c := by rw [hPut_form, refPut_form]

theorem snoc_ind {α : Type} {p : List α → Prop} (h0 : p []) (h1 : ∀ l a, p l → p (l ++ [a])) (l : List α) : p l := by
  rw [← l.reverse_reverse]
  induction l.reverse with
  | nil => exact h0
  | cons a r ih => rw [List.reverse_cons]; exact h1 _ _ ih

/-! ### Numbers out of digits -/
def val (l : List UInt8) : Nat := l.foldl (fun a c => 256 * a + c.toNat) 0
theorem val_snoc (l : List UInt8) (c : UInt8) : val (l ++ [c]) = 256 * val l + c.toNat := by simp [val]
theorem val_lt (l : List UInt8) : val l < 256 ^ l.length := by
  induction l using snoc_ind with
  | h0 => simp [val]
  | h1 l c ih =>
    rw [val_snoc]
    have := UInt8.toNat_lt c
    simp only [List.length_append, List.length_singleton, Nat.pow_succ]
    omega
theorem digs_val (l : List UInt8) (h : (digs (val l)).length = l.length) : digs (val l) = l := by
  induction l using snoc_ind with
  | h0 => simp [val, digs_zero]
  | h1 l c ih =>
    rw [val_snoc] at h ⊢
    have hc := UInt8.toNat_lt c
    by_cases h0 : 256 * val l + c.toNat = 0
    · rw [h0, digs_zero] at h; simp at h
    · rw [digs_pos h0] at h ⊢
      have e1 : (256 * val l + c.toNat) / 256 = val l := by omega
      have e2 : UInt8.ofNat (256 * val l + c.toNat) = c := by
        apply UInt8.toNat_inj.1; simp only [UInt8.toNat_ofNat']; omega
      rw [e1, e2] at h ⊢
      simp only [List.length_append, List.length_singleton] at h
      rw [ih (by omega)]

theorem beM_val (l : List UInt8) (h : l.length ≤ 8) : (beM l).toNat = val l := by
  induction l using snoc_ind with
  | h0 => rfl
  | h1 l c ih =>
    simp only [List.length_append, List.length_singleton] at h
    have e : beM (l ++ [c]) = 256 * beM l + c.toUInt64 := by simp [beM]
    have ih := ih (by omega)
    have hv := val_lt l
    have hc := UInt8.toNat_lt c
    have hp : 256 ^ l.length ≤ 256 ^ 7 := Nat.pow_le_pow_right (by omega) (by omega)
    rw [e, val_snoc, UInt64.toNat_add, UInt64.toNat_mul, ih]
    have e2 : c.toUInt64.toNat = c.toNat := by simp
    rw [e2]
    show ((256 * val l) % 18446744073709551616 + c.toNat) % 18446744073709551616 = _
    omega

theorem beU_beM (l : List UInt8) : beU l = beM l := by
  have : ∀ (a : UInt64) (c : UInt8), beStep a c = 256 * a + c.toUInt64 := by
    intro a c
    unfold beStep shl64
    rw [if_pos (by omega)]
    apply UInt64.toNat_inj.1
    have hc := UInt8.toNat_lt c
    have ha := UInt64.toNat_lt a
    rw [UInt64.toNat_or, UInt64.toNat_shiftLeft, UInt64.toNat_add, UInt64.toNat_mul]
    have e2 : c.toUInt64.toNat = c.toNat := by simp
    rw [e2]
    have e3 : (UInt64.ofNat 8).toNat % 64 = 8 := by decide
    rw [e3, Nat.shiftLeft_eq]
    show a.toNat * 2 ^ 8 % 18446744073709551616 ||| c.toNat = ((256 * a.toNat) % 18446744073709551616 + c.toNat) % 18446744073709551616
    have e4 : a.toNat * 2 ^ 8 % 18446744073709551616 = (a.toNat % 72057594037927936) <<< 8 := by
      rw [Nat.shiftLeft_eq]; omega
    rw [e4, ← Nat.shiftLeft_add_eq_or_of_lt (by omega), Nat.shiftLeft_eq]
    omega
  unfold beU beM
  congr 1
  funext a c; exact this a c

theorem tkStep_form (b : List UInt8) (nib : UInt8) (a v : Nat) (hv : nib.toNat = v) : tkStep b nib a = if v < 8 then some (nib.toUInt64, a) else if b.length < a + (v - 7) then none
    else if (hD (beM ((b.drop a).take (v - 7)))).length = v - 7 then some (beM ((b.drop a).take (v - 7)), a + (v - 7)) else none := by
  unfold tkStep
  have e : nib < 8 ↔ v < 8 := by rw [UInt8.lt_iff_toNat_lt, hv]; rfl
  by_cases h : v < 8
  · rw [if_pos (e.2 h), if_pos h]
  · rw [if_neg (fun x => h (e.1 x)), if_neg h]
    have e2 : (nib - 8).toNat + 1 = v - 7 := by
      have : (nib - 8).toNat = (2 ^ 8 - 8 + nib.toNat) % 2 ^ 8 := UInt8.toNat_sub _ _
      have := UInt8.toNat_lt nib
      omega
    rw [Nat.add_assoc, e2]
    simp only [beU_beM]

theorem hD_back {l : List UInt8} (hl : l.length ≤ 8) (h : (hD (beM l)).length = l.length) (h0 : 0 < l.length) : hD (beM l) = l ∧ ¬ beM l < 8 := by
  have hn : ¬ beM l < 8 := by
    intro hlt
    have : hD (beM l) = [] := by unfold hD; rw [if_pos hlt]
    rw [this] at h; simp at h; omega
  refine ⟨?_, hn⟩
  rw [hD_digs hn, beM_val l hl] at h ⊢
  exact digs_val l h


theorem nb_of (K : UInt64) (v m : Nat) (hm : m = if 8 ≤ v then v - 7 else 0) (h : nb K = v) : 0 < m → (hD K).length = m := by
  intro h0
  have h8 : 8 ≤ v := by
    by_cases h : 8 ≤ v
    · exact h
    · rw [if_neg h] at hm; omega
  rw [if_pos h8] at hm
  unfold nb at h
  split at h
  · rename_i hk; have := n8 hk; omega
  · omega

theorem of_nb (K : UInt64) (v m : Nat) (hv : v < 16) (l : List UInt8) (hl : l.length = m) (hm : m = if 8 ≤ v then v - 7 else 0) (hK : K = if 0 < m then beM l else UInt64.ofNat v) (h : 0 < m → (hD K).length = m) : hD K = l ∧ nb K = v := by
  by_cases h8 : 8 ≤ v
  · rw [if_pos h8] at hm
    rw [if_pos (by omega)] at hK
    subst hK
    have hd := h (by omega)
    obtain ⟨e1, e2⟩ := hD_back (l := l) (by omega) (by omega) (by omega)
    refine ⟨e1, ?_⟩
    unfold nb; rw [if_neg e2]; omega
  · rw [if_neg h8] at hm
    subst hm
    rw [if_neg (by omega)] at hK
    have hl0 : l = [] := List.eq_nil_of_length_eq_zero hl
    subst hl0; subst hK
    have e : (UInt64.ofNat v).toNat = v := by simp only [UInt64.toNat_ofNat']; omega
    have e8 : UInt64.ofNat v < 8 := by rw [UInt64.lt_iff_toNat_lt, e]; show v < 8; omega
    refine ⟨?_, ?_⟩
    · unfold hD; rw [if_pos e8]
    · unfold nb; rw [if_pos e8, e]

theorem put_iff (x m n : Nat) (c : UInt8) (t : List UInt8) (K C : UInt64) (hc : c.toNat = x) (hx : x < 256) (ht : m + n ≤ t.length) (hm : m = if 8 ≤ x / 16 then x / 16 - 7 else 0) (hn : n = if 8 ≤ x % 16 then x % 16 - 7 else 0)
    (hK : K = if 0 < m then beM (t.take m) else UInt64.ofNat (x / 16)) (hC : C = if 0 < n then beM ((t.drop m).take n) else UInt64.ofNat (x % 16)) :
    refPut K C = c :: t.take (m + n) ↔ ((0 < m → (hD K).length = m) ∧ (0 < n → (hD C).length = n)) := by
  rw [refPut_form]
  constructor
  · intro h
    have h1 := congrArg UInt8.toNat (List.cons.inj h).1
    simp only [UInt8.toNat_ofNat'] at h1
    have b1 := nb_lt K
    have b2 := nb_lt C
    have e1 : nb K = x / 16 := by omega
    have e2 : nb C = x % 16 := by omega
    exact ⟨nb_of K _ m hm e1, nb_of C _ n hn e2⟩
  · rintro ⟨h1, h2⟩
    obtain ⟨d1, e1⟩ := of_nb K (x / 16) m (by omega) (t.take m) (by simp; omega) hm hK h1
    obtain ⟨d2, e2⟩ := of_nb C (x % 16) n (by omega) ((t.drop m).take n) (by simp; omega) hn hC h2
    rw [d1, d2, e1, e2, List.take_add]
    congr 1
    apply UInt8.toNat_inj.1
    simp only [UInt8.toNat_ofNat']
    omega

/-- The parts of a header, where it is long enough. -/
theorem take_eq (b : List UInt8) (hb : b ≠ []) (x : Nat) (hx : (b.getD 0 0).toNat = x) : hTake b = rTake b := by
  obtain ⟨c, t, rfl⟩ := List.exists_cons_of_ne_nil hb
  have hc : c.toNat = x := hx
  have hx256 : x < 256 := by rw [← hc]; exact UInt8.toNat_lt c
  have hc' : c = UInt8.ofNat x := by apply UInt8.toNat_inj.1; rw [hc]; simp only [UInt8.toNat_ofNat']; omega
  have n0 : (nib (c :: t) 0).toNat = x / 16 := by
    unfold nib shr8
    rw [if_pos rfl, if_pos (by omega)]
    show (c >>> UInt8.ofNat 4).toNat = _
    rw [UInt8.toNat_shiftRight, hc]
    have : (UInt8.ofNat 4).toNat % 8 = 4 := by decide
    rw [this, Nat.shiftRight_eq_div_pow]
  have n1 : (nib (c :: t) 1).toNat = x % 16 := by
    unfold nib
    rw [if_neg (by omega)]
    show (c &&& 15).toNat = _
    rw [UInt8.toNat_and, hc]
    exact Nat.and_two_pow_sub_one_eq_mod x 4
  have hm : rnk (c :: t) = if 128 ≤ x then x / 16 - 7 else 0 := by unfold rnk; rw [hx]
  have hn : rnc (c :: t) = if 8 ≤ x % 16 then x % 16 - 7 else 0 := by unfold rnc; rw [hx]
  have hk : rk (c :: t) = if 0 < rnk (c :: t) then beM (t.take (rnk (c :: t))) else (c / 16).toUInt64 := rfl
  have hq : rc (c :: t) = if 0 < rnc (c :: t) then beM ((t.drop (rnk (c :: t))).take (rnc (c :: t))) else (c % 16).toUInt64 := by
    unfold rc; rw [Nat.add_comm 1, List.drop_succ_cons]; rfl
  obtain ⟨K, hK'⟩ : ∃ K, K = rk (c :: t) := ⟨_, rfl⟩
  obtain ⟨C, hC'⟩ : ∃ C, C = rc (c :: t) := ⟨_, rfl⟩
  obtain ⟨m, hm'⟩ : ∃ m, m = rnk (c :: t) := ⟨_, rfl⟩
  obtain ⟨n, hn'⟩ : ∃ n, n = rnc (c :: t) := ⟨_, rfl⟩
  rw [← hm'] at hm hk hq
  rw [← hn'] at hn hq
  rw [← hK'] at hk
  rw [← hC'] at hq
  have hm2 : m = if 8 ≤ x / 16 then x / 16 - 7 else 0 := by rw [hm]; split <;> split <;> omega
  have c16 : (c / 16).toUInt64 = UInt64.ofNat (x / 16) := by
    apply UInt64.toNat_inj.1
    simp only [UInt8.toNat_toUInt64, UInt64.toNat_ofNat', UInt8.toNat_div, hc]
    show x / 16 = x / 16 % 18446744073709551616
    omega
  have c16' : (c % 16).toUInt64 = UInt64.ofNat (x % 16) := by
    apply UInt64.toNat_inj.1
    simp only [UInt8.toNat_toUInt64, UInt64.toNat_ofNat', UInt8.toNat_mod, hc]
    show x % 16 = x % 16 % 18446744073709551616
    omega
  have m64 : (nib (c :: t) 0).toUInt64 = UInt64.ofNat (x / 16) := by
    apply UInt64.toNat_inj.1
    simp only [UInt8.toNat_toUInt64, UInt64.toNat_ofNat', n0]
    omega
  have n64 : (nib (c :: t) 1).toUInt64 = UInt64.ofNat (x % 16) := by
    apply UInt64.toNat_inj.1
    simp only [UInt8.toNat_toUInt64, UInt64.toNat_ofNat', n1]
    omega
  rw [c16] at hk
  rw [c16'] at hq
  have s1 : tkStep (c :: t) (nib (c :: t) 0) 1 = if t.length < m then none else if 0 < m → (hD K).length = m then some (K, 1 + m) else none := by
    rw [tkStep_form _ _ 1 (x / 16) n0, m64]
    by_cases h8 : 8 ≤ x / 16
    · rw [if_pos h8] at hm2
      rw [if_neg (by omega), ← hm2]
      rw [if_pos (by omega)] at hk
      have e : (List.drop 1 (c :: t)).take m = t.take m := rfl
      rw [e, ← hk]
      simp only [List.length_cons]
      by_cases hl : t.length < m
      · rw [if_pos (by omega), if_pos hl]
      · rw [if_neg (by omega), if_neg hl]
        by_cases hd : (hD K).length = m
        · rw [if_pos hd, if_pos (fun _ => hd)]
        · rw [if_neg hd, if_neg (fun h => hd (h (by omega)))]
    · rw [if_neg h8] at hm2
      subst hm2
      rw [if_pos (by omega), if_neg (by omega), if_pos (by omega)]
      rw [if_neg (by omega)] at hk
      rw [hk]
  have s2 : ¬ t.length < m → tkStep (c :: t) (nib (c :: t) 1) (1 + m) = if t.length < m + n then none else if 0 < n → (hD C).length = n then some (C, 1 + m + n) else none := by
    intro hlm
    rw [tkStep_form _ _ (1 + m) (x % 16) n1, n64]
    by_cases h8 : 8 ≤ x % 16
    · rw [if_pos h8] at hn
      rw [if_neg (by omega), ← hn]
      rw [if_pos (by omega)] at hq
      have e : (List.drop (1 + m) (c :: t)).take n = (t.drop m).take n := by rw [Nat.add_comm 1, List.drop_succ_cons]
      rw [e, ← hq]
      simp only [List.length_cons]
      by_cases hl : t.length < m + n
      · rw [if_pos (by omega), if_pos hl]
      · rw [if_neg (by omega), if_neg hl]
        by_cases hd : (hD C).length = n
        · rw [if_pos hd, if_pos (fun _ => hd)]
        · rw [if_neg hd, if_neg (fun h => hd (h (by omega)))]
    · rw [if_neg h8] at hn
      subst hn
      rw [if_pos (by omega), if_neg (by omega), if_pos (by omega)]
      rw [if_neg (by omega)] at hq
      rw [hq]; rfl
  have hr : rTake (c :: t) = if t.length < m + n then none else if refPut K C = c :: t.take (m + n) then some (1 + m + n, K, C) else none := by
    unfold rTake
    rw [if_neg hb, ← hm', ← hn', ← hK', ← hC']
    have e : List.take (1 + m + n) (c :: t) = c :: t.take (m + n) := by rw [show 1 + m + n = (m + n) + 1 from by omega, List.take_succ_cons]
    rw [e]
    simp only [List.length_cons]
    by_cases hl : t.length < m + n
    · rw [if_pos (by omega), if_pos hl]
    · rw [if_neg (by omega), if_neg hl]
  have ht : hTake (c :: t) = match tkStep (c :: t) (nib (c :: t) 0) 1 with
      | none => none
      | some (v, a2) => match tkStep (c :: t) (nib (c :: t) 1) a2 with
        | none => none
        | some (u, a3) => some (a3, v, u) := by
    unfold hTake
    rw [if_neg hb]
    simp only [tkN]
    cases tkStep (c :: t) (nib (c :: t) 0) 1 with
    | none => rfl
    | some p => obtain ⟨v, a2⟩ := p; simp only; cases tkStep (c :: t) (nib (c :: t) 1) a2 <;> simp
  rw [ht, hr, s1]
  by_cases l1 : t.length < m
  · rw [if_pos l1, if_pos (by omega)]
  · rw [if_neg l1]
    have s2 := s2 l1
    by_cases l2 : t.length < m + n
    · rw [if_pos l2] at s2 ⊢
      split
      · rfl
      · rename_i h
        split at h
        · cases h; rw [s2]
        · cases h
    · rw [if_neg l2] at s2 ⊢
      have hp := put_iff x m n c t K C hc hx256 (by omega) hm2 hn hk hq
      by_cases a1 : 0 < m → (hD K).length = m
      · rw [if_pos a1]
        simp only [s2]
        by_cases a2 : 0 < n → (hD C).length = n
        · rw [if_pos a2, if_pos (hp.2 ⟨a1, a2⟩)]
        · rw [if_neg a2, if_neg (fun h => a2 (hp.1 h).2)]
      · rw [if_neg a1, if_neg (fun h => a1 (hp.1 h).1)]

theorem hTake_eq (b : List UInt8) : hTake b = rTake b := by
  by_cases h : b = []
  · subst h; rfl
  · exact take_eq b h _ rfl
end Go.Sh
