import Derived.Test.YtaknbogocnkmnaaSh17
namespace Go.Sh
open Go.Proofs

def hbL (u : UInt64) : Nat → List UInt8
  | 0 => []
  | i + 1 => if (shr64 u (56 - 8 * i)).toUInt8 ≠ 0 ∨ 0 < (hbL u i).length then hbL u i ++ [(shr64 u (56 - 8 * i)).toUInt8] else hbL u i

theorem hbL_len (u : UInt64) : ∀ i, (hbL u i).length ≤ i
  | 0 => by simp [hbL]
  | i + 1 => by
    have := hbL_len u i
    simp only [hbL]
    split
    · simp; omega
    · omega

theorem f68a (u : UInt64) (h : u < 8) : SCall Try.prog 68 [.u64 u] [] .slnil [] := by
  refine scall_of ttOk (by kernel_rfl : Try.prog.funcs[68]? = some Try.f68) rfl rfl rfl ?_
  refine sw_ok ttOk mixed rfl ?_
  conv => whnf
  refine brT (by simpa using h) ?_
  conv => whnf
  exact ⟨[], rfl, rfl, rfl, trivial, rfl⟩

theorem f68b (u : UInt64) (h : ¬ u < 8) : SCall Try.prog 68 [.u64 u] [] (.sl 0 0 (hbL u 8).length 1 false) [some (.row 5 ((hbL u 8).map .u8))] := by
  refine scall_of ttOk (by kernel_rfl : Try.prog.funcs[68]? = some Try.f68) rfl rfl rfl ?_
  refine sw_ok ttOk mixed rfl ?_
  conv => whnf
  refine brF (by simpa using h) ?_
  conv => whnf
  refine loop_rule ttOk mixed rfl (ι := { i : Nat // i ≤ 8 }) (fun i => [(0, .u64 u), (3, .sl 0 0 (hbL u i.1).length 1 false), (4, .i (56 - 8 * i.1))]) (fun i => [some (.row 5 ((hbL u i.1).map .u8))]) (fun _ => 1) (fun i => 9 - i.1) ⟨0, by omega⟩ ?_ ?_
  · refine (Weak.virt 3 5 1 rfl).trans (Weak.sel [0] rfl rfl ⟨rfl, rfl, rfl, trivial⟩ ⟨⟨rfl, rfl⟩, trivial⟩ rfl rfl)
  · rintro ⟨i, hi⟩
    have hlen := hbL_len u i
    conv => whnf
    refine ⟨fun hc => ?_, fun hc => ?_⟩
    · conv => whnf
      have hi7 : i < 8 := by simp at hc; omega
      have h56 : (56 - 8 * (i : Int)).toNat = 56 - 8 * i := by omega
      have hw : w64 (56 - 8 * (i : Int) - 8) = 56 - 8 * ((i + 1 : Nat) : Int) := by rw [w64_of (by omega) (by omega)]; omega
      refine ⟨.u64 (shr64 u (56 - 8 * i)), by simp only [snum, cnt]; rw [if_pos (by simpa using hc)]; simp only [Option.bind_some, sshr, h56], ?_⟩
      conv => whnf
      refine ⟨fun hb => ?_, fun hb => ?_⟩
      · repeat (first | (refine gdT hb ?_; conv => whnf) | (refine pkF hb ?_; conv => whnf))
        refine ⟨fun hl => ?_, fun hl => ?_⟩
        · conv => whnf
          have hn : hbL u (i + 1) = hbL u i ++ [(shr64 u (56 - 8 * i)).toUInt8] := by
            simp only [hbL]; rw [if_pos (.inr (by simpa using hl))]
          refine ⟨_, rfl, ?_⟩
          conv => whnf
          refine ⟨⟨by simp, by simp, by simp [ti5]; omega⟩, ?_⟩
          conv => whnf
          refine ⟨⟨i + 1, by omega⟩, by simp only; omega, Weak.sel [2] rfl rfl ?_ ?_ rfl rfl⟩
          · simp [okR, lk, renV, hn, hw]
          · exact ⟨⟨rfl, ren_eq (by simp) (by simp [hn])⟩, trivial⟩
        · conv => whnf
          have hn : hbL u (i + 1) = hbL u i := by
            simp only [hbL]; rw [if_neg (by simp at hl hb ⊢; exact ⟨hb, by simp [hl]⟩)]
          refine ⟨⟨i + 1, by omega⟩, by simp only; omega, Weak.sel [0] rfl rfl ?_ ?_ rfl rfl⟩
          · simp [okR, lk, renV, hn, hw]
          · exact ⟨⟨rfl, ren_eq (by simp) (by simp [hn])⟩, trivial⟩
      · repeat (first | (refine gdF hb ?_; conv => whnf) | (refine pkT hb ?_; conv => whnf))
        refine brT rfl ?_
        conv => whnf
        have hn : hbL u (i + 1) = hbL u i ++ [(shr64 u (56 - 8 * i)).toUInt8] := by
          simp only [hbL]; rw [if_pos (.inl (by simpa using hb))]
        refine ⟨_, rfl, ?_⟩
        conv => whnf
        refine ⟨⟨by simp, by simp, by simp [ti5]; omega⟩, ?_⟩
        conv => whnf
        refine ⟨⟨i + 1, by omega⟩, by simp only; omega, Weak.sel [2] rfl rfl ?_ ?_ rfl rfl⟩
        · simp [okR, lk, renV, hn, hw]
        · exact ⟨⟨rfl, ren_eq (by simp) (by simp [hn])⟩, trivial⟩
    · conv => whnf
      have : i = 8 := by simp at hc; omega
      subst this
      exact ⟨[0], rfl, rfl, rfl, ⟨⟨rfl, ren_eq (by simp) rfl⟩, trivial⟩, rfl⟩
end Go.Sh
