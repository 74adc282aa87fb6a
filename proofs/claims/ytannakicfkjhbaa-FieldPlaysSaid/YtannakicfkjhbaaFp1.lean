/- Merged for a claim: K26. -/
import Derived.Test.YtannakicfkjhbaaFt1
/- field's law FieldPlays (f4), walked. -/
namespace Go.Sh
open Go.Proofs
set_option maxHeartbeats 8000000
set_option linter.unusedSimpArgs false
set_option linter.unusedVariables false

theorem br_le32 {v : Nat} (h : v < P25519) : br (le32 v) = v := by
  have hP : P25519 ≤ 57896044618658097711785492504343953926634992332820282019728792003956564819968 := by decide
  have hQ : (57896044618658097711785492504343953926634992332820282019728792003956564819968 : Nat) < 256 ^ 32 := by decide
  unfold br bn
  rw [bv_le32 v (by omega), Nat.mod_eq_of_lt (Nat.lt_of_lt_of_le h hP), Nat.mod_eq_of_lt h]
theorem cut33 {bs : List UInt8} {n i : Nat} (hb : bs.length = n * 33) (hi : i < n) : ∃ k E, E.length = 32 ∧ List.take 33 (List.drop (0 + i * 33) bs) = k :: E := by
  have hl : (List.take 33 (List.drop (0 + i * 33) bs)).length = 33 := by rw [List.length_take, List.length_drop]; omega
  cases h : List.take 33 (List.drop (0 + i * 33) bs) with
  | nil => rw [h] at hl; cases hl
  | cons k E => rw [h] at hl; exact ⟨k, E, by simpa using hl, rfl⟩
theorem load_n {C A : List UInt8} (k : Nat) (c : List.take 33 (List.drop k C) = A) (hk : k + 33 ≤ C.length) : (if k + 33 ≤ (SB.ro (C.map .u8)).cells.length then some (SV.agg (List.take 33 (List.drop k (SB.ro (C.map .u8)).cells))) else none) = some (.agg (A.map .u8)) := by
  rw [if_pos (by simp [SB.cells]; omega)]
  simp only [SB.cells]
  rw [← List.map_drop, ← List.map_take, c]
theorem load_t (k : UInt8) {E : List UInt8} (h : E.length = 32) : (if 0 + 1 + 32 ≤ (SB.box ((k :: E).map .u8)).cells.length then some (SV.agg (List.take 32 (List.drop (0 + 1) (SB.box ((k :: E).map .u8)).cells))) else none) = some (.agg (E.map .u8)) := by
  rw [if_pos (by simp [SB.cells, h])]
  simp only [SB.cells, List.map_cons]
  rw [show 0 + 1 = 0 + 1 from rfl, List.drop_succ_cons, List.drop_zero, List.take_of_length_le (by simp [h])]
theorem f23s (k : UInt8) (b : List UInt8) (hb : b.length = 32) (f : Bool) : SCall Try.prog 23 [.sl 0 1 32 1 f] [some (.ro ((k :: b).map .u8))] (.sl 1 0 16 1 true) [some (.ro ((k :: b).map .u8)), some (.row 25 ((dg (br b)).map .u64))] :=
  (f23 b hb f).sub 0 1 ((k :: b).map .u8) (b.map .u8) 5 rfl rfl (by rw [List.map_cons, List.drop_succ_cons, List.drop_zero, List.take_length]) (by simp) (by simp) (by decide) ⟨.inl rfl, trivial⟩ rfl ⟨.inl rfl, trivial⟩ ⟨.inl rfl, .inr (.inl (by simp)), trivial⟩
attribute [local irreducible] ofB addL subL mulL invL smallL dg le32 invN br nr
theorem f4 (a : List UInt8) (n : Nat) (bs : List UInt8) (ha : a.length = 32) (hb : bs.length = n * 33) (hn : n ≤ maxLen) : SCall Try.prog 4 [.agg (a.map .u8), .sl 0 0 n 33 false] [some (.ro (bs.map .u8))] (.b true) [some (.ro (bs.map .u8))] := by
  have oa := f21 a ha
  have nx := (ofB_ok a).1
  have ra := nr_of a
  have fa := f23 a ha true
  obtain ⟨x, hx⟩ : ∃ x, x = ofB a := ⟨_, rfl⟩
  rw [← hx] at oa nx ra
  rw [← ra] at fa
  clear hx ra
  have lx := nx.1
  refine scall_of ttOk (by kernel_rfl : Try.prog.funcs[4]? = some Try.f4) rfl rfl rfl ?_
  try simp only [List.length_cons, List.length_nil, Nat.zero_add, Nat.reduceAdd]
  refine sw_ok ttOk mixed (by kernel_rfl) ?_
  conv => whnf
  repeat (fail)
  refine ok1_callF [] [] true (f20) rfl rfl ⟨⟨rfl, by first | rfl | fail⟩, trivial, by first | rfl | fail, by first | rfl | fail, ?_⟩
  conv => whnf
  repeat (first | (refine brF rfl ?_; conv => whnf) | fail)
  by_cases hg : 200 < n
  · have hgt : decide ((200 : Int) < (n : Int)) = true := by simp; omega
    first | refine brT (by exact hgt) ?_ | fail
    conv => whnf
    repeat (fail)
    refine ⟨[0], ?_, rfl, rfl, ?_, rfl⟩
    · (repeat' (fail)) <;> first | rfl | fail
    · (repeat' (first | exact trivial | refine And.intro ?_ ?_ | fail)) <;> first | exact ren_eq (by first | (simp; done) | fail) (by first | rfl | fail) | fail
  · have hgt : decide ((200 : Int) < (n : Int)) = false := by simp; omega
    first | refine brF (by exact hgt) ?_ | fail
    conv => whnf
    repeat (first | (refine Exists.intro _ (And.intro (sload_all rfl (by first | rfl | (simp [ha]; done) | fail)) ?_); conv => whnf) | fail)
    refine ok1_callF [] [] true (oa) rfl rfl ⟨⟨rfl, by first | ((repeat' (first | exact wk_nil | exact ren_m8 rfl | (refine wk_agg ?_) | (refine wk_cons ?_ ?_))); done) | fail⟩, trivial, by first | rfl | fail, by first | simp [plainRf, plainR, plainT, plainW], ?_⟩
    conv => whnf
    repeat (first | (refine Exists.intro _ (And.intro rfl ?_); conv => whnf) | (refine And.intro (by first | omega | (simp; omega) | fail) ?_; conv => whnf) | fail)
    refine ok1_callF [1] [false, true] false (fa) rfl rfl ⟨⟨rfl, by first | rfl | fail⟩, by (repeat' (first | exact trivial | refine And.intro ?_ ?_)) <;> first | exact ren_eq (by first | (simp; done) | fail) (by first | rfl | fail) | fail, by first | simp [plainHf, plainB], by first | rfl | fail, ?_⟩
    conv => whnf
    repeat (first | (refine Exists.intro _ (And.intro (sput_all rfl (by first | rfl | (simp [ha, lx]; done) | fail)) ?_); conv => whnf) | (refine And.intro (by first | omega | (simp; omega) | fail) ?_; conv => whnf) | (refine And.intro (by kernel_rfl) ?_; conv => whnf) | fail)
    refine loop_rule ttOk mixed (by kernel_rfl) (ι := { s : Nat × List UInt64 // s.1 ≤ n ∧ Nm s.2 }) (fun s => [(5, .p 1 0), (6, .sl 2 0 16 1 true), (21, .sl 0 0 n 33 false), (22, .i (n : Int)), (23, .i (s.1.1 : Int))]) (fun s => [some (.ro (bs.map .u8)), some (.box (s.1.2.map .u64)), some (.row 25 ((dg (nr s.1.2)).map .u64))]) (fun _ => 3) (fun s => n - s.1.1) ⟨(0, x), Nat.zero_le _, nx⟩ ?_ ?_
    · dsimp only
      refine Weak.sel [0, 3, 2] rfl rfl ?_ ?_ rfl rfl
      · (repeat' (first | exact trivial | refine And.intro ?_ ?_ | fail)) <;> first | rfl | fail
      · (repeat' (first | exact trivial | refine And.intro ?_ ?_ | fail)) <;> first | rfl | exact ren_eq (by first | (simp; done) | fail) (by first | rfl | fail) | fail
    · clear nx lx oa fa
      rintro ⟨⟨i, x⟩, hi, nx⟩
      dsimp only at hi nx ⊢
      have lx := nx.1
      by_cases hi2 : i < n
      · have hlt : decide ((i : Int) < (n : Int)) = true := by simp; omega
        have hp1 : w64 ((i : Int) + 1) = ((i + 1 : Nat) : Int) := by simp only [w64_eq]; omega
        obtain ⟨k, E, hE, hc⟩ := cut33 hb hi2
        have oy := f21 E hE
        have ny := (ofB_ok E).1
        have rb := nr_of E
        have fb := f23s k E hE true
        obtain ⟨y, hy⟩ : ∃ y, y = ofB E := ⟨_, rfl⟩
        rw [← hy] at oy ny rb
        rw [← rb] at fb
        clear hy rb
        have ly := ny.1
        conv => whnf
        first | refine brT (by exact hlt) ?_ | fail
        conv => whnf
        repeat (first | (refine Exists.intro _ (And.intro rfl ?_); conv => whnf) | (refine pkT rfl ?_; conv => whnf) | (refine And.intro (by first | omega | fail) ?_; conv => whnf) | fail)
        erw [load_n (0 + i * 33) hc (by omega)]
        repeat (first | (refine Exists.intro _ (And.intro (sput_all rfl (by first | rfl | (simp [hE]; done) | fail)) ?_); conv => whnf) | (refine pkT rfl ?_; conv => whnf) | (refine And.intro (by first | omega | (simp; omega) | fail) ?_; conv => whnf) | fail)
        erw [load_t k hE]
        repeat (fail)
        refine ok1_callF [] [] true (oy) rfl rfl ⟨⟨rfl, by first | ((repeat' (first | exact wk_nil | exact ren_m8 rfl | (refine wk_agg ?_) | (refine wk_cons ?_ ?_))); done) | fail⟩, trivial, by first | rfl | fail, by first | simp [plainRf, plainR, plainT, plainW], ?_⟩
        conv => whnf
        repeat (first | (refine Exists.intro _ (And.intro rfl ?_); conv => whnf) | (refine And.intro (by first | omega | (simp; omega) | fail) ?_; conv => whnf) | fail)
        refine ok1_callF [3] [false, true] false (fb) rfl rfl ⟨⟨rfl, by first | rfl | fail⟩, by (repeat' (first | exact trivial | refine And.intro ?_ ?_)) <;> first | exact ren_eq (by first | (simp; done) | fail) (by first | rfl | fail) | fail, by first | simp [plainHf, plainB], by first | rfl | fail, ?_⟩
        conv => whnf
        repeat (first | (refine Exists.intro _ (And.intro (sput_all rfl (by first | rfl | (simp [hE, ly]; done) | fail)) ?_); conv => whnf) | (refine Exists.intro _ (And.intro rfl ?_); conv => whnf) | (refine And.intro (by first | (simp; omega) | fail) ?_; conv => whnf) | (refine And.intro (by kernel_rfl) ?_; conv => whnf) | fail)
        by_cases h0 : k = 0
        · subst h0
          obtain ⟨nt, vt⟩ := addL_ok nx ny
          have q := f30 (nr_lt x) (nr_lt y) true true
          rw [← vt] at q
          have lt := nt.1
          first | refine brT (by rfl) ?_ | fail
          conv => whnf
          repeat (first | (refine Exists.intro _ (And.intro (sload_all rfl (by first | rfl | (simp [lx, ly]; done) | fail)) ?_); conv => whnf) | fail)
          refine ok1_callF [] [] true (f26 lx ly) rfl rfl ⟨⟨rfl, by first | ((repeat' (first | exact wk_nil | exact ren_m64 rfl | (refine wk_agg ?_) | (refine wk_cons ?_ ?_))); done) | fail⟩, trivial, by first | rfl | fail, by first | simp [plainRf, plainR, plainT, plainW], ?_⟩
          conv => whnf
          repeat (fail)
          refine ok1_callF [2, 4] [false, false, true] false (q) rfl rfl ⟨⟨rfl, by first | rfl | fail⟩, by (repeat' (first | exact trivial | refine And.intro ?_ ?_)) <;> first | exact ren_eq (by first | (simp; done) | fail) (by first | rfl | fail) | fail, by first | simp [plainHf, plainB], by first | rfl | fail, ?_⟩
          conv => whnf
          repeat (first | (refine Exists.intro _ (And.intro (sput_all rfl (by first | rfl | (simp [lx, ly, lt]; done) | fail)) ?_); conv => whnf) | (refine And.intro (by first | omega | (simp; omega) | fail) ?_; conv => whnf) | fail)
          refine ⟨⟨(i + 1, addL x y), hi2, nt⟩, by simp only; omega, ?_⟩
          refine Weak.sel [0, 1, 6] rfl rfl ?_ ?_ rfl rfl
          · (repeat' (first | exact trivial | refine And.intro ?_ ?_ | fail)) <;> first | exact wk_i (by first | exact hp1 | exact hp1.symm | fail) | rfl | fail
          · (repeat' (first | exact trivial | refine And.intro ?_ ?_ | fail)) <;> first | rfl | exact ren_eq (by first | (simp; done) | fail) (by first | rfl | fail) | fail
        · have g0 : (k == 0) = false := by rw [beq_eq_false_iff_ne]; exact h0
          first | refine brF (by exact g0) ?_ | fail
          conv => whnf
          repeat (fail)
          by_cases h1 : k = 1
          · subst h1
            obtain ⟨nt, vt⟩ := subL_ok nx ny
            have q := f31 (nr_lt x) (nr_lt y) true true
            rw [← vt] at q
            have lt := nt.1
            first | refine brT (by rfl) ?_ | fail
            conv => whnf
            repeat (first | (refine Exists.intro _ (And.intro (sload_all rfl (by first | rfl | (simp [lx, ly]; done) | fail)) ?_); conv => whnf) | fail)
            refine ok1_callF [] [] true (f27 lx ly) rfl rfl ⟨⟨rfl, by first | ((repeat' (first | exact wk_nil | exact ren_m64 rfl | (refine wk_agg ?_) | (refine wk_cons ?_ ?_))); done) | fail⟩, trivial, by first | rfl | fail, by first | simp [plainRf, plainR, plainT, plainW], ?_⟩
            conv => whnf
            repeat (fail)
            refine ok1_callF [2, 4] [false, false, true] false (q) rfl rfl ⟨⟨rfl, by first | rfl | fail⟩, by (repeat' (first | exact trivial | refine And.intro ?_ ?_)) <;> first | exact ren_eq (by first | (simp; done) | fail) (by first | rfl | fail) | fail, by first | simp [plainHf, plainB], by first | rfl | fail, ?_⟩
            conv => whnf
            repeat (first | (refine Exists.intro _ (And.intro (sput_all rfl (by first | rfl | (simp [lx, ly, lt]; done) | fail)) ?_); conv => whnf) | (refine And.intro (by first | omega | (simp; omega) | fail) ?_; conv => whnf) | fail)
            refine ⟨⟨(i + 1, subL x y), hi2, nt⟩, by simp only; omega, ?_⟩
            refine Weak.sel [0, 1, 6] rfl rfl ?_ ?_ rfl rfl
            · (repeat' (first | exact trivial | refine And.intro ?_ ?_ | fail)) <;> first | exact wk_i (by first | exact hp1 | exact hp1.symm | fail) | rfl | fail
            · (repeat' (first | exact trivial | refine And.intro ?_ ?_ | fail)) <;> first | rfl | exact ren_eq (by first | (simp; done) | fail) (by first | rfl | fail) | fail
          · have g1 : (k == 1) = false := by rw [beq_eq_false_iff_ne]; exact h1
            first | refine brF (by exact g1) ?_ | fail
            conv => whnf
            repeat (fail)
            by_cases h2 : k = 2
            · subst h2
              obtain ⟨nt, vt⟩ := mulL_ok nx ny
              have q := f32 (nr_lt x) (nr_lt y) true true
              rw [← vt] at q
              have lt := nt.1
              first | refine brT (by rfl) ?_ | fail
              conv => whnf
              repeat (first | (refine Exists.intro _ (And.intro (sload_all rfl (by first | rfl | (simp [lx, ly]; done) | fail)) ?_); conv => whnf) | fail)
              refine ok1_callF [] [] true (f28 lx ly) rfl rfl ⟨⟨rfl, by first | ((repeat' (first | exact wk_nil | exact ren_m64 rfl | (refine wk_agg ?_) | (refine wk_cons ?_ ?_))); done) | fail⟩, trivial, by first | rfl | fail, by first | simp [plainRf, plainR, plainT, plainW], ?_⟩
              conv => whnf
              repeat (fail)
              refine ok1_callF [2, 4] [false, false, true] false (q) rfl rfl ⟨⟨rfl, by first | rfl | fail⟩, by (repeat' (first | exact trivial | refine And.intro ?_ ?_)) <;> first | exact ren_eq (by first | (simp; done) | fail) (by first | rfl | fail) | fail, by first | simp [plainHf, plainB], by first | rfl | fail, ?_⟩
              conv => whnf
              repeat (first | (refine Exists.intro _ (And.intro (sput_all rfl (by first | rfl | (simp [lx, ly, lt]; done) | fail)) ?_); conv => whnf) | (refine And.intro (by first | omega | (simp; omega) | fail) ?_; conv => whnf) | fail)
              refine ⟨⟨(i + 1, mulL x y), hi2, nt⟩, by simp only; omega, ?_⟩
              refine Weak.sel [0, 1, 6] rfl rfl ?_ ?_ rfl rfl
              · (repeat' (first | exact trivial | refine And.intro ?_ ?_ | fail)) <;> first | exact wk_i (by first | exact hp1 | exact hp1.symm | fail) | rfl | fail
              · (repeat' (first | exact trivial | refine And.intro ?_ ?_ | fail)) <;> first | rfl | exact ren_eq (by first | (simp; done) | fail) (by first | rfl | fail) | fail
            · have g2 : (k == 2) = false := by rw [beq_eq_false_iff_ne]; exact h2
              first | refine brF (by exact g2) ?_ | fail
              conv => whnf
              repeat (fail)
              by_cases h3 : k = 3
              · subst h3
                obtain ⟨nt, vt⟩ := mulL_ok nx nx
                have q := f32 (nr_lt x) (nr_lt x) true true
                rw [← vt] at q
                have lt := nt.1
                first | refine brT (by rfl) ?_ | fail
                conv => whnf
                repeat (first | (refine Exists.intro _ (And.intro (sload_all rfl (by first | rfl | (simp [lx, ly]; done) | fail)) ?_); conv => whnf) | fail)
                refine ok1_callF [] [] true (f28 lx lx) rfl rfl ⟨⟨rfl, by first | ((repeat' (first | exact wk_nil | exact ren_m64 rfl | (refine wk_agg ?_) | (refine wk_cons ?_ ?_))); done) | fail⟩, trivial, by first | rfl | fail, by first | simp [plainRf, plainR, plainT, plainW], ?_⟩
                conv => whnf
                repeat (fail)
                refine ok1_callF [2, 2] [false, false, true] false (q) rfl rfl ⟨⟨rfl, by first | rfl | fail⟩, by (repeat' (first | exact trivial | refine And.intro ?_ ?_)) <;> first | exact ren_eq (by first | (simp; done) | fail) (by first | rfl | fail) | fail, by first | simp [plainHf, plainB], by first | rfl | fail, ?_⟩
                conv => whnf
                repeat (first | (refine Exists.intro _ (And.intro (sput_all rfl (by first | rfl | (simp [lx, ly, lt]; done) | fail)) ?_); conv => whnf) | (refine And.intro (by first | omega | (simp; omega) | fail) ?_; conv => whnf) | fail)
                refine ⟨⟨(i + 1, mulL x x), hi2, nt⟩, by simp only; omega, ?_⟩
                refine Weak.sel [0, 1, 6] rfl rfl ?_ ?_ rfl rfl
                · (repeat' (first | exact trivial | refine And.intro ?_ ?_ | fail)) <;> first | exact wk_i (by first | exact hp1 | exact hp1.symm | fail) | rfl | fail
                · (repeat' (first | exact trivial | refine And.intro ?_ ?_ | fail)) <;> first | rfl | exact ren_eq (by first | (simp; done) | fail) (by first | rfl | fail) | fail
              · have g3 : (k == 3) = false := by rw [beq_eq_false_iff_ne]; exact h3
                first | refine brF (by exact g3) ?_ | fail
                conv => whnf
                repeat (fail)
                by_cases h4 : k = 4
                · subst h4
                  obtain ⟨nt, vt⟩ := addL_ok nx nx
                  have q := f30 (nr_lt x) (nr_lt x) true true
                  rw [← vt] at q
                  have lt := nt.1
                  first | refine brT (by rfl) ?_ | fail
                  conv => whnf
                  repeat (first | (refine Exists.intro _ (And.intro (sload_all rfl (by first | rfl | (simp [lx, ly]; done) | fail)) ?_); conv => whnf) | fail)
                  refine ok1_callF [] [] true (f26 lx lx) rfl rfl ⟨⟨rfl, by first | ((repeat' (first | exact wk_nil | exact ren_m64 rfl | (refine wk_agg ?_) | (refine wk_cons ?_ ?_))); done) | fail⟩, trivial, by first | rfl | fail, by first | simp [plainRf, plainR, plainT, plainW], ?_⟩
                  conv => whnf
                  repeat (fail)
                  refine ok1_callF [2, 2] [false, false, true] false (q) rfl rfl ⟨⟨rfl, by first | rfl | fail⟩, by (repeat' (first | exact trivial | refine And.intro ?_ ?_)) <;> first | exact ren_eq (by first | (simp; done) | fail) (by first | rfl | fail) | fail, by first | simp [plainHf, plainB], by first | rfl | fail, ?_⟩
                  conv => whnf
                  repeat (first | (refine Exists.intro _ (And.intro (sput_all rfl (by first | rfl | (simp [lx, ly, lt]; done) | fail)) ?_); conv => whnf) | (refine And.intro (by first | omega | (simp; omega) | fail) ?_; conv => whnf) | fail)
                  refine ⟨⟨(i + 1, addL x x), hi2, nt⟩, by simp only; omega, ?_⟩
                  refine Weak.sel [0, 1, 6] rfl rfl ?_ ?_ rfl rfl
                  · (repeat' (first | exact trivial | refine And.intro ?_ ?_ | fail)) <;> first | exact wk_i (by first | exact hp1 | exact hp1.symm | fail) | rfl | fail
                  · (repeat' (first | exact trivial | refine And.intro ?_ ?_ | fail)) <;> first | rfl | exact ren_eq (by first | (simp; done) | fail) (by first | rfl | fail) | fail
                · have g4 : (k == 4) = false := by rw [beq_eq_false_iff_ne]; exact h4
                  first | refine brF (by exact g4) ?_ | fail
                  conv => whnf
                  repeat (fail)
                  by_cases h5 : k = 5
                  · subst h5
                    obtain ⟨n0, v0⟩ := Nm_small 0
                    obtain ⟨nt, vt⟩ := subL_ok n0 nx
                    have l0 := n0.1
                    have q0 := f24 0
                    have q := f31 (nr_lt (smallL 0)) (nr_lt x) true true
                    rw [← vt] at q
                    rw [← v0] at q0
                    have lt := nt.1
                    first | refine brT (by rfl) ?_ | fail
                    conv => whnf
                    repeat (fail)
                    refine ok1_callF [] [] true (f22 0) rfl rfl ⟨⟨rfl, by first | rfl | fail⟩, trivial, by first | rfl | fail, by first | simp [plainRf, plainR, plainT, plainW], ?_⟩
                    conv => whnf
                    repeat (first | (refine Exists.intro _ (And.intro (sload_all rfl (by first | rfl | (simp [lx, ly, l0]; done) | fail)) ?_); conv => whnf) | fail)
                    refine ok1_callF [] [] true (f27 l0 lx) rfl rfl ⟨⟨rfl, by first | ((repeat' (first | exact wk_nil | exact ren_m64 rfl | (refine wk_agg ?_) | (refine wk_cons ?_ ?_))); done) | fail⟩, trivial, by first | rfl | fail, by first | simp [plainRf, plainR, plainT, plainW], ?_⟩
                    conv => whnf
                    repeat (fail)
                    refine ok1_callF [] [true] false (q0) rfl rfl ⟨⟨rfl, by first | rfl | fail⟩, trivial, by first | simp [plainHf, plainB], by first | rfl | fail, ?_⟩
                    conv => whnf
                    repeat (fail)
                    refine ok1_callF [6, 2] [false, false, true] false (q) rfl rfl ⟨⟨rfl, by first | rfl | fail⟩, by (repeat' (first | exact trivial | refine And.intro ?_ ?_)) <;> first | exact ren_eq (by first | (simp; done) | fail) (by first | rfl | fail) | fail, by first | simp [plainHf, plainB], by first | rfl | fail, ?_⟩
                    conv => whnf
                    repeat (first | (refine Exists.intro _ (And.intro (sput_all rfl (by first | rfl | (simp [lx, ly, lt]; done) | fail)) ?_); conv => whnf) | (refine And.intro (by first | omega | (simp; omega) | fail) ?_; conv => whnf) | (refine And.intro (by kernel_rfl) ?_; conv => whnf) | fail)
                    refine ⟨⟨(i + 1, subL (smallL 0) x), hi2, nt⟩, by simp only; omega, ?_⟩
                    refine Weak.sel [0, 1, 7] rfl rfl ?_ ?_ rfl rfl
                    · (repeat' (first | exact trivial | refine And.intro ?_ ?_ | fail)) <;> first | exact wk_i (by first | exact hp1 | exact hp1.symm | fail) | rfl | fail
                    · (repeat' (first | exact trivial | refine And.intro ?_ ?_ | fail)) <;> first | rfl | exact ren_eq (by first | (simp; done) | fail) (by first | rfl | fail) | fail
                  · have g5 : (k == 5) = false := by rw [beq_eq_false_iff_ne]; exact h5
                    first | refine brF (by exact g5) ?_ | fail
                    conv => whnf
                    repeat (fail)
                    refine ⟨⟨(i + 1, x), hi2, nx⟩, by simp only; omega, ?_⟩
                    refine Weak.sel [0, 1, 2] rfl rfl ?_ ?_ rfl rfl
                    · (repeat' (first | exact trivial | refine And.intro ?_ ?_ | fail)) <;> first | exact wk_i (by first | exact hp1 | exact hp1.symm | fail) | rfl | fail
                    · (repeat' (first | exact trivial | refine And.intro ?_ ?_ | fail)) <;> first | rfl | exact ren_eq (by first | (simp; done) | fail) (by first | rfl | fail) | fail
      · obtain rfl : i = n := by omega
        have hlt : decide ((i : Int) < (i : Int)) = false := by simp
        have g := f25 nx
        have q := f34 (nr x) true
        have ml := le32_len (nr x)
        have o2 := f21 (le32 (nr x)) ml
        have j := f35e (ofB_ok (le32 (nr x))).1 nx (by rw [nr_of, br_le32 (nr_lt x)])
        conv => whnf
        first | refine brF (by exact hlt) ?_ | fail
        conv => whnf
        repeat (first | (refine Exists.intro _ (And.intro (sload_all rfl (by first | rfl | (simp [lx]; done) | fail)) ?_); conv => whnf) | fail)
        refine ok1_callF [] [] true (g) rfl rfl ⟨⟨rfl, by first | ((repeat' (first | exact wk_nil | exact ren_m64 rfl | (refine wk_agg ?_) | (refine wk_cons ?_ ?_))); done) | fail⟩, trivial, by first | rfl | fail, by first | simp [plainRf, plainR, plainT, plainW], ?_⟩
        conv => whnf
        repeat (first | (refine Exists.intro _ (And.intro (bytesOf_cut rfl) ?_); conv => whnf) | (refine Exists.intro _ (And.intro (sput_all rfl (by first | rfl | (simp [lx, ml]; done) | fail)) ?_); conv => whnf) | (refine Exists.intro _ (And.intro rfl ?_); conv => whnf) | (refine And.intro (by first | omega | (simp; omega) | fail) ?_; conv => whnf) | fail)
        refine ok1_callF [2] [false, true] false (q) rfl rfl ⟨⟨rfl, by first | rfl | fail⟩, by (repeat' (first | exact trivial | refine And.intro ?_ ?_)) <;> first | exact ren_eq (by first | (simp; done) | fail) (by first | rfl | fail) | fail, by first | simp [plainHf, plainB], by first | rfl | fail, ?_⟩
        conv => whnf
        repeat (first | (refine Exists.intro _ (And.intro (bytesOf_cut rfl) ?_); conv => whnf) | (refine Exists.intro _ (And.intro (sload_all rfl (by first | rfl | (simp [lx, ml]; done) | fail)) ?_); conv => whnf) | (refine gdT (by first | (simp; done) | fail) ?_; conv => whnf) | (refine And.intro (by first | omega | (simp; omega) | fail) ?_; conv => whnf) | fail)
        refine ok1_callF [] [] true (o2) rfl rfl ⟨⟨rfl, by first | ((repeat' (first | exact wk_nil | exact ren_m8 rfl | (refine wk_agg ?_) | (refine wk_cons ?_ ?_))); done) | fail⟩, trivial, by first | rfl | fail, by first | simp [plainRf, plainR, plainT, plainW], ?_⟩
        conv => whnf
        repeat (first | (refine Exists.intro _ (And.intro (sload_all rfl (by first | rfl | (simp [lx, ml]; done) | fail)) ?_); conv => whnf) | (refine gdT (by first | (simp; done) | fail) ?_; conv => whnf) | fail)
        refine ok1_callF [] [] true (j) rfl rfl ⟨⟨rfl, by first | ((repeat' (first | exact wk_nil | exact ren_m64 rfl | (refine wk_agg ?_) | (refine wk_cons ?_ ?_))); done) | fail⟩, trivial, by first | rfl | fail, by first | rfl | fail, ?_⟩
        conv => whnf
        repeat (first | (refine pkT (by first | (simp; done) | fail) ?_; conv => whnf) | (refine And.intro (by kernel_rfl) ?_; conv => whnf) | fail)
        refine ⟨[0], ?_, rfl, rfl, ?_, rfl⟩
        · (repeat' (fail)) <;> first | rfl | fail
        · (repeat' (first | exact trivial | refine And.intro ?_ ?_ | fail)) <;> first | exact ren_eq (by first | (simp; done) | fail) (by first | rfl | fail) | fail
end Go.Sh
