/- aes: its calls, as laws use them. -/
import Derived.Test.YtaknbogocnkmnaaE4
import Derived.Test.YtaknbogocnkmnaaE5
import Derived.Test.YtaknbogocnkmnaaE9
import Derived.Test.YtaknbogocnkmnaaE10
import Derived.Test.YtaknbogocnkmnaaE11
import Derived.Test.YtaknbogocnkmnaaSh25
namespace Go.Sh
open Go.Proofs
set_option maxHeartbeats 8000000
set_option linter.unusedSimpArgs false

theorem cut_u8 {L k : List UInt8} {o n : Nat} (h : (L.drop o).take n = k) : ((L.map SV.u8).drop o).take n = k.map .u8 := by rw [← h, List.map_take, List.map_drop]
theorem f45ns (fl : Bool) (L key : List UInt8) (o : Nat) (hL : (L.drop o).take key.length = key) (h1 : key.length ≠ 16) (h2 : key.length ≠ 32) :
    SCall Try.prog 45 [.sl 0 o key.length 1 fl] [some (.ro (L.map .u8))] (.tup [.pnil, .i 2]) [some (.ro (L.map .u8))] :=
  (f45n fl key h1 h2).sub 0 o (L.map .u8) (key.map .u8) 5 rfl rfl (by rw [List.length_map]; exact cut_u8 hL) (by simp) (by simp) (by decide) ⟨.inl rfl, trivial⟩ rfl ⟨.inl rfl, trivial⟩ ⟨.inl rfl, trivial⟩
theorem f45s_4 (fl : Bool) (L key : List UInt8) (o : Nat) (hk : key.length = 16) (hL : (L.drop o).take 16 = key) :
    SCall Try.prog 45 [.sl 0 o 16 1 fl] [some (.ro (L.map .u8))] (.tup [.p 1 0, .i 0]) [some (.ro (L.map .u8)), some (.box (sbx.map .u8 ++ [.sl 2 0 44 4 false])), some (.row 137 ((wSt key 4 44).map .u8))] :=
  (f45_4 fl key hk).sub 0 o (L.map .u8) (key.map .u8) 5 rfl rfl (by rw [List.length_map, hk]; exact cut_u8 hL) (by simp) (by simp) (by decide) ⟨.inl rfl, trivial⟩ rfl ⟨.inl rfl, trivial⟩
    ⟨.inl rfl, .inr (.inr (by simp only [renB]; rw [ren_app (plainL_u8 _) (c := [SV.sl 2 0 44 4 false]) rfl])), .inr (.inl (by simp)), trivial⟩
theorem f45s_8 (fl : Bool) (L key : List UInt8) (o : Nat) (hk : key.length = 32) (hL : (L.drop o).take 32 = key) :
    SCall Try.prog 45 [.sl 0 o 32 1 fl] [some (.ro (L.map .u8))] (.tup [.p 1 0, .i 0]) [some (.ro (L.map .u8)), some (.box (sbx.map .u8 ++ [.sl 2 0 60 4 false])), some (.row 137 ((wSt key 8 60).map .u8))] :=
  (f45_8 fl key hk).sub 0 o (L.map .u8) (key.map .u8) 5 rfl rfl (by rw [List.length_map, hk]; exact cut_u8 hL) (by simp) (by simp) (by decide) ⟨.inl rfl, trivial⟩ rfl ⟨.inl rfl, trivial⟩
    ⟨.inl rfl, .inr (.inr (by simp only [renB]; rw [ren_app (plainL_u8 _) (c := [SV.sl 2 0 60 4 false]) rfl])), .inr (.inl (by simp)), trivial⟩
/-- Seal, of a block as a list. -/
theorem f47L (n : Nat) (fl : Bool) (w : List UInt8) (R : Nat) (hn : n = 4 * (R + 1)) (hR : w.length = 16 * (R + 1)) (hR1 : 1 ≤ R) (hR2 : R ≤ 20) (b : List UInt8) (hb : b.length = 16) :
    SCall Try.prog 47 [.p 0 0, .agg (b.map .u8)] [some (.ro (sbx.map .u8 ++ [.sl 1 0 n 4 fl])), some (.ro (w.map .u8))]
      (.agg ((sealSt w R b R).map .u8)) [some (.ro (sbx.map .u8 ++ [.sl 1 0 n 4 fl])), some (.ro (w.map .u8))] := by
  obtain ⟨s0, s1, s2, s3, s4, s5, s6, s7, s8, s9, s10, s11, s12, s13, s14, s15, rfl⟩ := ex16 hb
  subst hn
  exact f47 fl w R hR hR1 hR2 s0 s1 s2 s3 s4 s5 s6 s7 s8 s9 s10 s11 s12 s13 s14 s15
theorem wSt_4 (key : List UInt8) : (wSt key 4 44).length = 176 := wSt_len key 4 44
theorem wSt_8 (key : List UInt8) : (wSt key 8 60).length = 240 := wSt_len key 8 60
end Go.Sh
