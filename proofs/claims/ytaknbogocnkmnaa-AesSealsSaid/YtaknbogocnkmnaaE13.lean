/- aes's law AesSeals (f9), walked. -/
import Derived.Test.YtaknbogocnkmnaaE12
import Derived.Test.YtaknbogocnkmnaaE11b
namespace Go.Sh
open Go.Proofs
set_option maxHeartbeats 8000000
set_option linter.unusedSimpArgs false

theorem f9n (b : UInt8) (key block : List UInt8) (h1 : key.length ≠ 16) (h2 : key.length ≠ 32) :
    SCall Try.prog 9 [.u8 b, .sl 0 0 key.length 1 false, .agg (block.map .u8)] [some (.ro (key.map .u8))] (.b true) [some (.ro (key.map .u8))] := by
  have g1 : ((key.length : Int) != 16) = true := by simp; omega
  have g2 : ((key.length : Int) != 32) = true := by simp; omega
  have hs : (sb b != obSt (yAll b 255) 8) = false := by rw [sb_ref]; simp
  refine scall_of ttOk (by kernel_rfl : Try.prog.funcs[9]? = some Try.f9) rfl rfl rfl ?_
  refine sw_ok ttOk mixed (by kernel_rfl) ?_
  conv => whnf
  repeat (fail)
  refine ok1_callP [] (f42) rfl rfl ⟨⟨rfl, by first | rfl | fail⟩, trivial, by first | rfl | fail, ?_⟩
  conv => whnf
  repeat (first | (refine brF rfl ?_; conv => whnf) | fail)
  refine ok1_callP [] (f43 b) rfl rfl ⟨⟨rfl, by first | rfl | fail⟩, trivial, by first | rfl | fail, ?_⟩
  conv => whnf
  repeat (fail)
  refine ok1_callP [] (f44 b) rfl rfl ⟨⟨rfl, by first | rfl | fail⟩, trivial, by first | rfl | fail, ?_⟩
  conv => whnf
  repeat (first | (refine gdF hs ?_; conv => whnf) | fail)
  refine ok1_callP [0] (f45ns false key key 0 (by simp) h1 h2) rfl rfl ⟨⟨rfl, by first | rfl | fail⟩, by (repeat' (first | exact trivial | refine And.intro ?_ ?_)) <;> first | exact ren_eq (by first | (simp; done) | fail) (by first | rfl | fail), by first | simp [plainH], ?_⟩
  conv => whnf
  repeat (first | (refine brT rfl ?_; conv => whnf) | (refine gdT g1 ?_; conv => whnf) | (refine pkT g1 ?_; conv => whnf) | (refine gdT g2 ?_; conv => whnf) | (refine Exists.intro _ (And.intro rfl ?_); conv => whnf) | (refine And.intro (by kernel_rfl) ?_; conv => whnf) | fail)
  refine ⟨[0], ?_, rfl, rfl, ?_, rfl⟩
  · (repeat' (fail)) <;> first | rfl | fail
  · (repeat' (first | exact trivial | refine And.intro ?_ ?_ | fail)) <;> first | exact ren_eq (by first | (simp; done) | fail) (by first | rfl | fail) | fail

theorem f9_4 (b : UInt8) (key block : List UInt8) (hb : block.length = 16) (hk : key.length = 16) :
    SCall Try.prog 9 [.u8 b, .sl 0 0 16 1 false, .agg (block.map .u8)] [some (.ro (key.map .u8))] (.b true) [some (.ro (key.map .u8))] := by
  have hs : (sb b != obSt (yAll b 255) 8) = false := by rw [sb_ref]; simp
  have hw := wSt_4 key
  obtain ⟨w, hwe⟩ : ∃ w, w = wSt key 4 44 := ⟨_, rfl⟩
  have hn := f45s_4 false key key 0 hk (by rw [← hk]; simp)
  have h50 := f50_4 true false key hk
  rw [← hwe] at hn h50 hw
  have hse := f47L 44 false w 10 rfl hw (by omega) (by omega) block hb
  have h49 := f49 true false true w block 10 hw (by omega) (by omega) hb
  have h48 := f48 44 (by omega) false w
  unfold ciB ciW at h48
  have h46 := f46
  rw [outB_sbx] at h46
  have hl := sealSt_len w 10 block hb 10
  have hq : (sbx.getD b.toNat 0 == sb b) = true := by simp [sb]
  obtain ⟨o, ho⟩ : ∃ o, o = sealSt w 10 block 10 := ⟨_, rfl⟩
  rw [← ho] at hse h49 hl
  have hx : b.toNat < 256 := UInt8.toNat_lt _
  have hsl := sbx_len
  refine scall_of ttOk (by kernel_rfl : Try.prog.funcs[9]? = some Try.f9) rfl rfl rfl ?_
  refine sw_ok ttOk mixed (by kernel_rfl) ?_
  conv => whnf
  repeat (fail)
  refine ok1_callP [] (f42) rfl rfl ⟨⟨rfl, by first | rfl | fail⟩, trivial, by first | rfl | fail, ?_⟩
  conv => whnf
  repeat (first | (refine brF rfl ?_; conv => whnf) | fail)
  refine ok1_callP [] (f43 b) rfl rfl ⟨⟨rfl, by first | rfl | fail⟩, trivial, by first | rfl | fail, ?_⟩
  conv => whnf
  repeat (fail)
  refine ok1_callP [] (f44 b) rfl rfl ⟨⟨rfl, by first | rfl | fail⟩, trivial, by first | rfl | fail, ?_⟩
  conv => whnf
  repeat (first | (refine gdF hs ?_; conv => whnf) | fail)
  refine ok1_callE [0] [some (.ro (key.map .u8)), some (.box (sbx.map .u8 ++ [.sl 3 0 44 4 false])), some (.row 137 (w.map .u8))] (.tup [.p 2 0, .i 0]) (hn) rfl rfl ⟨⟨rfl, by first | rfl | fail⟩, by (repeat' (first | exact trivial | refine And.intro ?_ ?_)) <;> first | exact ren_m8 rfl | fail, by (repeat' (first | exact trivial | refine And.intro ?_ ?_)) <;> first | exact renB_plain _ (by first | (simp; done) | fail) | exact rb_boxa (by first | (simp; done) | fail) rfl | rfl, by first | rfl, ?_⟩
  conv => whnf
  repeat (first | (refine brF rfl ?_; conv => whnf) | (refine Exists.intro _ (And.intro rfl ?_); conv => whnf) | fail)
  refine ok1_callP [] (h46) rfl rfl ⟨⟨rfl, by first | rfl | fail⟩, trivial, by first | simp [plainH], ?_⟩
  conv => whnf
  repeat (first | (refine Exists.intro _ (And.intro (sload_all rfl (by first | rfl | (simp; omega))) ?_); conv => whnf) | fail)
  refine ok1_callF [2, 3] [false, false] true (hse) rfl rfl ⟨⟨rfl, by first | ((repeat' (first | exact wk_nil | exact ren_m8 rfl | exact rfl | (refine wk_agg ?_) | (refine wk_cons ?_ ?_))); done) | fail⟩, by (repeat' (first | exact trivial | refine And.intro ?_ ?_)) <;> first | exact ren_eq (by first | (simp; done) | fail) (by first | rfl | fail) | exact ren_app2 (by first | (simp; done) | fail) (by first | rfl | fail) (by first | rfl | fail), by first | rfl | fail, by first | simp [plainRf, plainR, plainT, plainW], ?_⟩
  conv => whnf
  repeat (first | (refine brT rfl ?_; conv => whnf) | (refine Exists.intro _ (And.intro (sput_all rfl (by first | rfl | (simp; omega))) ?_); conv => whnf) | (refine And.intro (by first | omega | (simp; omega) | fail) ?_; conv => whnf) | fail)
  refine ok1_callF [2, 3] [false, false] true (h48) rfl rfl ⟨⟨rfl, by first | rfl | fail⟩, by (repeat' (first | exact trivial | refine And.intro ?_ ?_)) <;> first | exact ren_eq (by first | (simp; done) | fail) (by first | rfl | fail) | exact ren_app2 (by first | (simp; done) | fail) (by first | rfl | fail) (by first | rfl | fail), by first | rfl | fail, by first | rfl | fail, ?_⟩
  conv => whnf
  repeat (first | (refine brT rfl ?_; conv => whnf) | (refine Exists.intro _ (And.intro (sload_u8 (i := b.toNat) (by first | rfl | omega | fail) (by first | omega | fail)) ?_); conv => whnf) | (refine Exists.intro _ (And.intro rfl ?_); conv => whnf) | (refine And.intro (by first | omega | fail) ?_; conv => whnf) | fail)
  refine ok1_callP [] (f43 b) rfl rfl ⟨⟨rfl, by first | rfl | fail⟩, trivial, by first | rfl | fail, ?_⟩
  conv => whnf
  repeat (first | (refine Exists.intro _ (And.intro (bytesOf_cut rfl) ?_); conv => whnf) | (refine brT rfl ?_; conv => whnf) | (refine gdT hq ?_; conv => whnf) | (refine Exists.intro _ (And.intro rfl ?_); conv => whnf) | (refine And.intro (by first | omega | (simp; omega) | fail) ?_; conv => whnf) | fail)
  refine ok1_callP [4, 0] (h50) rfl rfl ⟨⟨rfl, by first | rfl | fail⟩, by (repeat' (first | exact trivial | refine And.intro ?_ ?_)) <;> first | exact ren_eq (by first | (simp; done) | fail) (by first | rfl | fail), by first | simp [plainH], ?_⟩
  conv => whnf
  repeat (first | (refine gdT hq ?_; conv => whnf) | (refine Exists.intro _ (And.intro rfl ?_); conv => whnf) | (refine And.intro (by first | omega | (simp; omega) | fail) ?_; conv => whnf) | fail)
  refine ok1_callP [4, 6, 1] (h49) rfl rfl ⟨⟨rfl, by first | rfl | fail⟩, by (repeat' (first | exact trivial | refine And.intro ?_ ?_)) <;> first | exact ren_eq (by first | (simp; done) | fail) (by first | rfl | fail), by first | simp [plainH], ?_⟩
  conv => whnf
  repeat (first | (refine Exists.intro _ (And.intro (bytesOf_cut rfl) ?_); conv => whnf) | (refine gdT hq ?_; conv => whnf) | (refine pkT hq ?_; conv => whnf) | (refine And.intro (by first | omega | (simp; omega) | fail) ?_; conv => whnf) | (refine And.intro (by kernel_rfl) ?_; conv => whnf) | fail)
  refine ⟨[0], ?_, rfl, rfl, ?_, rfl⟩
  · (repeat' (fail)) <;> first | exact wk_b (by first | (simp; done) | fail) | fail
  · (repeat' (first | exact trivial | refine And.intro ?_ ?_ | fail)) <;> first | exact ren_eq (by first | (simp; done) | fail) (by first | rfl | fail) | fail
theorem f9_8 (b : UInt8) (key block : List UInt8) (hb : block.length = 16) (hk : key.length = 32) :
    SCall Try.prog 9 [.u8 b, .sl 0 0 32 1 false, .agg (block.map .u8)] [some (.ro (key.map .u8))] (.b true) [some (.ro (key.map .u8))] := by
  have hs : (sb b != obSt (yAll b 255) 8) = false := by rw [sb_ref]; simp
  have hw := wSt_8 key
  obtain ⟨w, hwe⟩ : ∃ w, w = wSt key 8 60 := ⟨_, rfl⟩
  have hn := f45s_8 false key key 0 hk (by rw [← hk]; simp)
  have h50 := f50_8 true false key hk
  rw [← hwe] at hn h50 hw
  have hse := f47L 60 false w 14 rfl hw (by omega) (by omega) block hb
  have h49 := f49 true false true w block 14 hw (by omega) (by omega) hb
  have h48 := f48 60 (by omega) false w
  unfold ciB ciW at h48
  have h46 := f46
  rw [outB_sbx] at h46
  have hl := sealSt_len w 14 block hb 14
  have hq : (sbx.getD b.toNat 0 == sb b) = true := by simp [sb]
  obtain ⟨o, ho⟩ : ∃ o, o = sealSt w 14 block 14 := ⟨_, rfl⟩
  rw [← ho] at hse h49 hl
  have hx : b.toNat < 256 := UInt8.toNat_lt _
  have hsl := sbx_len
  refine scall_of ttOk (by kernel_rfl : Try.prog.funcs[9]? = some Try.f9) rfl rfl rfl ?_
  refine sw_ok ttOk mixed (by kernel_rfl) ?_
  conv => whnf
  repeat (fail)
  refine ok1_callP [] (f42) rfl rfl ⟨⟨rfl, by first | rfl | fail⟩, trivial, by first | rfl | fail, ?_⟩
  conv => whnf
  repeat (first | (refine brF rfl ?_; conv => whnf) | fail)
  refine ok1_callP [] (f43 b) rfl rfl ⟨⟨rfl, by first | rfl | fail⟩, trivial, by first | rfl | fail, ?_⟩
  conv => whnf
  repeat (fail)
  refine ok1_callP [] (f44 b) rfl rfl ⟨⟨rfl, by first | rfl | fail⟩, trivial, by first | rfl | fail, ?_⟩
  conv => whnf
  repeat (first | (refine gdF hs ?_; conv => whnf) | fail)
  refine ok1_callE [0] [some (.ro (key.map .u8)), some (.box (sbx.map .u8 ++ [.sl 3 0 60 4 false])), some (.row 137 (w.map .u8))] (.tup [.p 2 0, .i 0]) (hn) rfl rfl ⟨⟨rfl, by first | rfl | fail⟩, by (repeat' (first | exact trivial | refine And.intro ?_ ?_)) <;> first | exact ren_m8 rfl | fail, by (repeat' (first | exact trivial | refine And.intro ?_ ?_)) <;> first | exact renB_plain _ (by first | (simp; done) | fail) | exact rb_boxa (by first | (simp; done) | fail) rfl | rfl, by first | rfl, ?_⟩
  conv => whnf
  repeat (first | (refine brT rfl ?_; conv => whnf) | (refine brF rfl ?_; conv => whnf) | (refine Exists.intro _ (And.intro rfl ?_); conv => whnf) | fail)
  refine ok1_callP [] (h46) rfl rfl ⟨⟨rfl, by first | rfl | fail⟩, trivial, by first | simp [plainH], ?_⟩
  conv => whnf
  repeat (first | (refine Exists.intro _ (And.intro (sload_all rfl (by first | rfl | (simp; omega))) ?_); conv => whnf) | fail)
  refine ok1_callF [2, 3] [false, false] true (hse) rfl rfl ⟨⟨rfl, by first | ((repeat' (first | exact wk_nil | exact ren_m8 rfl | exact rfl | (refine wk_agg ?_) | (refine wk_cons ?_ ?_))); done) | fail⟩, by (repeat' (first | exact trivial | refine And.intro ?_ ?_)) <;> first | exact ren_eq (by first | (simp; done) | fail) (by first | rfl | fail) | exact ren_app2 (by first | (simp; done) | fail) (by first | rfl | fail) (by first | rfl | fail), by first | rfl | fail, by first | simp [plainRf, plainR, plainT, plainW], ?_⟩
  conv => whnf
  repeat (first | (refine brT rfl ?_; conv => whnf) | (refine Exists.intro _ (And.intro (sput_all rfl (by first | rfl | (simp; omega))) ?_); conv => whnf) | (refine And.intro (by first | omega | (simp; omega) | fail) ?_; conv => whnf) | fail)
  refine ok1_callF [2, 3] [false, false] true (h48) rfl rfl ⟨⟨rfl, by first | rfl | fail⟩, by (repeat' (first | exact trivial | refine And.intro ?_ ?_)) <;> first | exact ren_eq (by first | (simp; done) | fail) (by first | rfl | fail) | exact ren_app2 (by first | (simp; done) | fail) (by first | rfl | fail) (by first | rfl | fail), by first | rfl | fail, by first | rfl | fail, ?_⟩
  conv => whnf
  repeat (first | (refine brT rfl ?_; conv => whnf) | (refine Exists.intro _ (And.intro (sload_u8 (i := b.toNat) (by first | rfl | omega | fail) (by first | omega | fail)) ?_); conv => whnf) | (refine Exists.intro _ (And.intro rfl ?_); conv => whnf) | (refine And.intro (by first | omega | fail) ?_; conv => whnf) | fail)
  refine ok1_callP [] (f43 b) rfl rfl ⟨⟨rfl, by first | rfl | fail⟩, trivial, by first | rfl | fail, ?_⟩
  conv => whnf
  repeat (first | (refine Exists.intro _ (And.intro (bytesOf_cut rfl) ?_); conv => whnf) | (refine brT rfl ?_; conv => whnf) | (refine gdT hq ?_; conv => whnf) | (refine Exists.intro _ (And.intro rfl ?_); conv => whnf) | (refine And.intro (by first | omega | (simp; omega) | fail) ?_; conv => whnf) | fail)
  refine ok1_callP [4, 0] (h50) rfl rfl ⟨⟨rfl, by first | rfl | fail⟩, by (repeat' (first | exact trivial | refine And.intro ?_ ?_)) <;> first | exact ren_eq (by first | (simp; done) | fail) (by first | rfl | fail), by first | simp [plainH], ?_⟩
  conv => whnf
  repeat (first | (refine gdT hq ?_; conv => whnf) | (refine Exists.intro _ (And.intro rfl ?_); conv => whnf) | (refine And.intro (by first | omega | (simp; omega) | fail) ?_; conv => whnf) | fail)
  refine ok1_callP [4, 6, 1] (h49) rfl rfl ⟨⟨rfl, by first | rfl | fail⟩, by (repeat' (first | exact trivial | refine And.intro ?_ ?_)) <;> first | exact ren_eq (by first | (simp; done) | fail) (by first | rfl | fail), by first | simp [plainH], ?_⟩
  conv => whnf
  repeat (first | (refine Exists.intro _ (And.intro (bytesOf_cut rfl) ?_); conv => whnf) | (refine gdT hq ?_; conv => whnf) | (refine pkT hq ?_; conv => whnf) | (refine And.intro (by first | omega | (simp; omega) | fail) ?_; conv => whnf) | (refine And.intro (by kernel_rfl) ?_; conv => whnf) | fail)
  refine ⟨[0], ?_, rfl, rfl, ?_, rfl⟩
  · (repeat' (fail)) <;> first | exact wk_b (by first | (simp; done) | fail) | fail
  · (repeat' (first | exact trivial | refine And.intro ?_ ?_ | fail)) <;> first | exact ren_eq (by first | (simp; done) | fail) (by first | rfl | fail) | fail
theorem f9 (b : UInt8) (key block : List UInt8) (hb : block.length = 16) :
    SCall Try.prog 9 [.u8 b, .sl 0 0 key.length 1 false, .agg (block.map .u8)] [some (.ro (key.map .u8))] (.b true) [some (.ro (key.map .u8))] := by
  by_cases h1 : key.length = 16
  · have := f9_4 b key block hb h1; rw [← h1] at this; exact this
  · by_cases h2 : key.length = 32
    · have := f9_8 b key block hb h2; rw [← h2] at this; exact this
    · exact f9n b key block h1 h2
end Go.Sh
